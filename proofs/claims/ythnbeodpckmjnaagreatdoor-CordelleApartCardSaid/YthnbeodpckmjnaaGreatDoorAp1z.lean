/- Packets of media and control packets are apart: walked. -/
import Derived.Test.YthnbeodpckmjnaaGreatDoorRLz
import Derived.Test.YthnbeodpckmjnaaGreatDoorCmp4z
import Derived.Test.YthnbeodpckmjnaaGreatDoorMedia3z
namespace Go.Proofs.YthnbeodpckmjnaaGreatDoor
open Go.RowKit
set_option linter.unusedVariables false
set_option linter.unusedSimpArgs false

/-- A piece, cut; the first few. -/
def cutR (p : Pc) : Pc := (p.1, p.2.1, p.2.2.take 200)
def sixP (l : List Pc) : List Pc := (l.take 6).map cutR
theorem sixP_ok (l : List Pc) : Pcs (sixP l) := ⟨by unfold sixP; rw [List.length_map, List.length_take]; omega, fun p hp => by
  unfold sixP at hp
  obtain ⟨q, _, rfl⟩ := List.mem_map.1 hp
  unfold cutR
  dsimp only
  rw [List.length_take]
  omega⟩
theorem sixP_min (l : List Pc) : sixP l = (l.take (min l.length 6)).map cutR := by
  unfold sixP
  congr 1
  rcases Nat.le_total l.length 6 with h | h
  · rw [Nat.min_eq_left h, List.take_of_length_le h, List.take_length]
  · rw [Nat.min_eq_right h]
theorem pack6_short (m : M6) (h : m.data.length ≤ 80) : (pack6 m).length ≤ 108 := by
  unfold pack6
  split
  · rw [sealB_len, head6_len]; omega
  · simp
set_option maxRecDepth 100000 in
set_option maxHeartbeats 8000000 in
theorem apart_walk (m : M6) (l : List Pc) (ho : m.Ok) (hm : m.data.length ≤ maxLen) (hl : l.length ≤ maxLen) (hb : ∀ p ∈ l, p.2.2.length ≤ maxLen) : Spec Tryz.prog 3 [.ca (.val (.agg (m6L m))), .ca (.val (.lst 3 (l.map pcEl)))] [] (.ca (.val (vb true))) [] := by
  have c0 := rtp_control [] (by decide)
  have e0 : isCtl [] = false := rfl
  rw [e0] at c0
  have c1 := law_cut6 m hm
  obtain ⟨ok', len'⟩ := cut6_ok m ho
  have hs := pack6_short _ len'
  have c2 := media_pack (cut6 m) ok' (by unfold maxLen; omega)
  have c3 := cmp_parse (pack6 (cut6 m)) (by omega)
  have c4 := rtp_control (pack6 (cut6 m)) (by unfold maxLen; omega)
  have A := media_apart (cut6 m)
  have hQ := sixP_ok l
  have c5 := cmp_pack (sixP l) hQ
  have c6 := cmp_check (sixP l) hQ
  have ht : (packC (sixP l)).length ≤ 1500 := by
    by_cases h : cmpE (sixP l) = 0
    · exact (pack_parse12 _ h).2.2.1
    · unfold packC; rw [if_neg h]; simp
  have c7 := media_parse (packC (sixP l)) (by omega)
  have c8 := rtp_control (packC (sixP l)) (by unfold maxLen; omega)
  have B := control_apart (sixP l)
  have D := packC_none (sixP l)
  generalize hc : cut6 m = mc at *
  generalize pack6 mc = s at *
  generalize parseC s = r at *
  obtain ⟨E, L⟩ := r
  dsimp only at A c3
  refine spec_of Tryz.func3 rfl Tryz.ntmps3 Tryz.results3 ⟨by decide, by simp⟩ fun C hC => ?_
  (repeat' ((fail_if_success (refine stop_reg 4 ?_)); (first | refine sp_ ?_ | exact ex0 | refine call_u Tryz.call4 (c0) [] ex1 ?_ | refine call_u Tryz.call5 (c1) [] ex1 ?_ | refine call_u Tryz.call6 (c2) [] ex1 ?_ | (refine ret_s [] ?_; simp (decide := true) (disch := omega) only [go_sem, ↓reduceIte, ↓put_at]))))
  refine meet_s (α := Unit) (fun _ => [(.s 1, .av (.val (.lst 3 (l.map pcEl))))]) ?_ (fun _ => ?_)
  · by_cases hn : s = []
    · subst hn
      (repeat' ((first | refine sp_ ?_ | exact ex0 | (refine ret_s [] ?_; simp (decide := true) (disch := omega) only [go_sem, ↓reduceIte, ↓put_at]))))
      refine at_meet () ?_
      simp (decide := true) (disch := omega) only [go_sem, ↓reduceIte, ↓put_at]
    · obtain ⟨A1, A2⟩ := A hn
      have hbe : (s == []) = false := by simpa using hn
      rw [A1] at c4
      (repeat' ((first | refine sp_ ?_ | exact ex0 | (refine ret_s [] ?_; simp (decide := true) (disch := omega) only [go_sem, ↓reduceIte, ↓put_at]))))
      simp only [hbe, Bool.not_false]
      (repeat' ((first | refine sp_ ?_ | exact ex0 | refine call_u Tryz.call7 (c3) [] ex1 ?_ | refine call_u Tryz.call4 (c4) [] ex1 ?_ | (refine ret_s [] ?_; simp (decide := true) (disch := omega) only [go_sem, ↓reduceIte, ↓put_at]))))
      refine at_meet () ?_
      simp (decide := true) (disch := omega) only [go_sem, ↓reduceIte, ↓put_at]
  clear A c3 c4 hs c0 c1 c2
  (repeat' ((fail_if_success (first | refine stop_at 9 ?_ | refine stop_l 9 ?_)); (first | refine sp_ ?_ | exact ex0 | (refine ret_s [] ?_; simp (decide := true) (disch := omega) only [go_sem, ↓reduceIte, ↓put_at]))))
  refine own_s 8 (8, 9) 41 3 ?_
  simp (decide := true) (disch := omega) only [go_sem, ↓reduceIte, ↓put_at]
  (repeat' ((fail_if_success (refine stop_reg 10 ?_)); (first | refine sp_ ?_ | exact ex0 | (refine ret_s [] ?_; simp (decide := true) (disch := omega) only [go_sem, ↓reduceIte, ↓put_at]))))
  refine loop_s (α := {j : Nat // j ≤ min l.length 6}) (fun j => [(.s 1, .av (.val (.lst 3 (l.map pcEl)))), (.s 8, .av (.own (8, 9) 0 41 3 (((l.take j.1).map cutR).map pcEl))), (.k (8, 9), .row 41 3 (((l.take j.1).map cutR).map pcEl).length), (.s 9, .av (.val (vi j.1)))]) (fun j => 6 - j.1) ⟨0, Nat.zero_le _⟩ ?_ (fun j => ?_)
  · simp (decide := true) (disch := omega) only [go_sem, ↓reduceIte, ↓put_at]
  · obtain ⟨j, hj⟩ := j
    dsimp only at hj ⊢
    by_cases hlt : j < min l.length 6
    · have hlt2 : j < l.length := by omega
      have hge : (l.map pcEl).getD j [] = pcEl l[j] := by simp [hlt2]
      have c := q_cut l[j].2.2 200 (hb _ (List.getElem_mem hlt2)) (by decide)
      rw [show (200 : Int).toNat = 200 from rfl] at c
      have ht : l.take (j + 1) = l.take j ++ [l[j]] := List.take_succ_eq_append_getElem hlt2
      have hln : (l.take j).length = j := by rw [List.length_take]; omega
      have hln2 : (l.take (j + 1)).length = j + 1 := by rw [List.length_take]; omega
      have hmp : ((l.take (j + 1)).map cutR).map pcEl = ((l.take j).map cutR).map pcEl ++ [[vi l[j].1, vi l[j].2.1, vs (l[j].2.2.take 200)]] := by
        rw [ht, List.map_append, List.map_append]
        rfl
      have hMl : (((l.take j).map cutR).map pcEl).length = j := by simp only [List.length_map]; exact hln
      generalize ((l.take j).map cutR).map pcEl = M at *
      (repeat' ((first | refine sp_ ?_ | exact ex0 | refine call_u Tryz.call8 (c) [] ex1 ?_ | (refine ret_s [] ?_; simp (decide := true) (disch := omega) only [go_sem, ↓reduceIte, ↓put_at]))))
      refine next_s (α := {j : Nat // j ≤ min l.length 6}) ⟨j + 1, hlt⟩ ⟨?_, by (try dsimp only); omega⟩
      (try dsimp only)
      rw [hmp]
      simp (decide := true) (disch := omega) only [go_sem, ↓reduceIte, ↓put_at]
      rw [hln2, hMl]
    · obtain rfl : j = min l.length 6 := by omega
      rw [← sixP_min]
      generalize sixP l = Q at *
      by_cases hn : packC Q = []
      · have hd := D hn
        rw [hn] at c5
        generalize cmpE Q = e at *
        by_cases h8 : l.length < 6
        · (repeat' ((first | refine sp_ ?_ | exact ex0 | refine call_u Tryz.call9 (c5) [] ex1 ?_ | refine call_u Tryz.call10 (c6) [] ex1 ?_ | (refine ret_s [] ?_; simp (decide := true) (disch := omega) only [go_sem, ↓reduceIte, ↓put_at]))))
        · by_cases h9 : l.length = 6
          · (repeat' ((first | refine sp_ ?_ | exact ex0 | refine call_u Tryz.call9 (c5) [] ex1 ?_ | refine call_u Tryz.call10 (c6) [] ex1 ?_ | (refine ret_s [] ?_; simp (decide := true) (disch := omega) only [go_sem, ↓reduceIte, ↓put_at]))))
          · (repeat' ((first | refine sp_ ?_ | exact ex0 | refine call_u Tryz.call9 (c5) [] ex1 ?_ | refine call_u Tryz.call10 (c6) [] ex1 ?_ | (refine ret_s [] ?_; simp (decide := true) (disch := omega) only [go_sem, ↓reduceIte, ↓put_at]))))
      · obtain ⟨B1, B2⟩ := B hn
        have hbe : (packC Q == []) = false := by simpa using hn
        rw [B1] at c8
        obtain ⟨⟨mm, ee⟩, hP⟩ : ∃ r, r = parse6 (packC Q) := ⟨_, rfl⟩
        rw [← hP] at c7 B2
        generalize packC Q = t at *
        dsimp only at B2 c7
        by_cases h8 : l.length < 6
        · (repeat' ((first | refine sp_ ?_ | exact ex0 | refine call_u Tryz.call9 (c5) [] ex1 ?_ | (refine ret_s [] ?_; simp (decide := true) (disch := omega) only [go_sem, ↓reduceIte, ↓put_at]))))
          simp only [hbe]
          (repeat' ((first | refine sp_ ?_ | exact ex0 | refine call_u Tryz.call4 (c8) [] ex1 ?_ | refine call_u Tryz.call11 (c7) [] ex1 ?_ | (refine ret_s [] ?_; simp (decide := true) (disch := omega) only [go_sem, ↓reduceIte, ↓put_at]))))
        · by_cases h9 : l.length = 6
          · (repeat' ((first | refine sp_ ?_ | exact ex0 | refine call_u Tryz.call9 (c5) [] ex1 ?_ | (refine ret_s [] ?_; simp (decide := true) (disch := omega) only [go_sem, ↓reduceIte, ↓put_at]))))
            simp only [hbe]
            (repeat' ((first | refine sp_ ?_ | exact ex0 | refine call_u Tryz.call4 (c8) [] ex1 ?_ | refine call_u Tryz.call11 (c7) [] ex1 ?_ | (refine ret_s [] ?_; simp (decide := true) (disch := omega) only [go_sem, ↓reduceIte, ↓put_at]))))
          · (repeat' ((first | refine sp_ ?_ | exact ex0 | refine call_u Tryz.call9 (c5) [] ex1 ?_ | (refine ret_s [] ?_; simp (decide := true) (disch := omega) only [go_sem, ↓reduceIte, ↓put_at]))))
            simp only [hbe]
            (repeat' ((first | refine sp_ ?_ | exact ex0 | refine call_u Tryz.call4 (c8) [] ex1 ?_ | refine call_u Tryz.call11 (c7) [] ex1 ?_ | (refine ret_s [] ?_; simp (decide := true) (disch := omega) only [go_sem, ↓reduceIte, ↓put_at]))))
end Go.Proofs.YthnbeodpckmjnaaGreatDoor

