/- Layer 12: the document's Parse; few, awake; CompoundParses, CompoundBursts; walked. -/
import Derived.Test.YtjkmnjmmnjhacaaGreatCmp4z
namespace Go.Proofs.YtjkmnjmmnjhacaaGreat
open Go.RowKit
set_option linter.unusedVariables false
set_option linter.unusedSimpArgs false

set_option maxRecDepth 100000 in
set_option maxHeartbeats 8000000 in
theorem ref_parse12 (s : List UInt8) (hs : s.length ≤ 1000000) : Spec Tryz.prog 12 [.ca (.val (vs s))] [] (.ca (.val (.tup [.lst 3 ((parseC s).2.map pcEl), vi (parseC s).1]))) [] := by
  have c1 := ref_rem2 s (by omega)
  have c2 := ref_split7 s hs
  obtain ⟨⟨E, PS⟩, hE⟩ : ∃ r, r = parseC s := ⟨_, rfl⟩
  rw [← hE]
  dsimp only
  unfold parseC at hE
  by_cases h1 : 1500 < s.length
  · rw [if_pos h1] at hE
    simp only [Prod.mk.injEq] at hE
    obtain ⟨rfl, rfl⟩ := hE
    refine spec_of Tryz.func12 rfl Tryz.ntmps12 Tryz.results12 ⟨by decide, by simp⟩ fun C hC => ?_
    (repeat' ((first | refine sp_ ?_ | exact ex0 | (refine ret_s [] ?_; simp (decide := true) (disch := omega) only [go_sem, ↓reduceIte, ↓put_at]))))
  rw [if_neg h1] at hE
  generalize rem s = rm at *
  by_cases h2 : rm ≠ 0
  · rw [if_pos h2] at hE
    simp only [Prod.mk.injEq] at hE
    obtain ⟨rfl, rfl⟩ := hE
    refine spec_of Tryz.func12 rfl Tryz.ntmps12 Tryz.results12 ⟨by decide, by simp⟩ fun C hC => ?_
    (repeat' ((first | refine sp_ ?_ | exact ex0 | refine call_u Tryz.call37 (c1) [] ex1 ?_ | (refine ret_s [] ?_; simp (decide := true) (disch := omega) only [go_sem, ↓reduceIte, ↓put_at]))))
  rw [if_neg h2] at hE
  have h2' : rm = 0 := Classical.not_not.1 h2
  subst h2'
  have hpc := splitP_ok s (by omega)
  generalize splitP s = r at *
  obtain ⟨e, L⟩ := r
  dsimp only at hE c2 hpc
  by_cases h3 : e ≠ 0
  · rw [if_pos h3] at hE
    simp only [Prod.mk.injEq] at hE
    obtain ⟨rfl, rfl⟩ := hE
    refine spec_of Tryz.func12 rfl Tryz.ntmps12 Tryz.results12 ⟨by decide, by simp⟩ fun C hC => ?_
    (repeat' ((first | refine sp_ ?_ | exact ex0 | refine call_u Tryz.call37 (c1) [] ex1 ?_ | refine call_u Tryz.call38 (c2) [] ex1 ?_ | (refine ret_s [] ?_; simp (decide := true) (disch := omega) only [go_sem, ↓reduceIte, ↓put_at]))))
  rw [if_neg h3] at hE
  have h3' : e = 0 := Classical.not_not.1 h3
  subst h3'
  by_cases h4 : L = []
  · rw [if_pos h4] at hE
    simp only [Prod.mk.injEq] at hE
    obtain ⟨rfl, rfl⟩ := hE
    subst h4
    simp only [List.map_nil] at c2
    refine spec_of Tryz.func12 rfl Tryz.ntmps12 Tryz.results12 ⟨by decide, by simp⟩ fun C hC => ?_
    (repeat' ((first | refine sp_ ?_ | exact ex0 | refine call_u Tryz.call37 (c1) [] ex1 ?_ | refine call_u Tryz.call38 (c2) [] ex1 ?_ | (refine ret_s [] ?_; simp (decide := true) (disch := omega) only [go_sem, ↓reduceIte, ↓put_at]))))
  rw [if_neg h4] at hE
  have hL := last_snoc L h4
  generalize hQ : L.dropLast = Q at *
  generalize hq : L.getD (L.length - 1) (0, 0, []) = q at *
  have hQp : Pcs Q := hpc.sub (by rw [hL]; simp) (fun p hp => by rw [hL]; simp [hp])
  have hqp := hpc.max q (by rw [hL]; simp)
  have c4 := ref_check12 Q hQp
  clear hQ hq hpc h4
  subst hL
  have hge : ((Q ++ [q]).map pcEl).getD Q.length [] = [vi q.1, vi q.2.1, vs q.2.2] := by simp [pcEl]
  have htk : ((Q ++ [q]).map pcEl).take Q.length = Q.map pcEl := by simp
  have hln : ((Q ++ [q]).map pcEl).length = Q.length + 1 := by simp
  generalize hM : (Q ++ [q]).map pcEl = M at *
  have hQl := hQp.len
  have hix : ((M.length : Int) - 1).toNat = Q.length := by omega
  obtain ⟨q1, q2, q3⟩ := q
  dsimp only at hge hqp
  unfold sumOk csum at hE
  dsimp only at hE
  rw [show ([0, 0, 0, 0] ++ [99, 115, 117, 109] : List UInt8) = [0, 0, 0, 0, 99, 115, 117, 109] from rfl] at hE
  by_cases h5 : q1 = 0 ∧ q2 = 204 ∧ q3.length = 12 ∧ q3.take 8 = [0, 0, 0, 0, 99, 115, 117, 109]
  · rw [decide_eq_true h5, if_neg (by simp)] at hE
    obtain ⟨k1, k2, k3, k4⟩ := h5
    have hbe : (q3.take 8 == [0, 0, 0, 0, 99, 115, 117, 109]) = true := by rw [k4]; rfl
    by_cases h6 : cmpE Q ≠ 0
    · rw [if_pos h6] at hE
      simp only [Prod.mk.injEq] at hE
      obtain ⟨rfl, rfl⟩ := hE
      generalize cmpE Q = e at *
      refine spec_of Tryz.func12 rfl Tryz.ntmps12 Tryz.results12 ⟨by decide, by simp⟩ fun C hC => ?_
      (repeat' ((first | refine sp_ ?_ | exact ex0 | refine call_u Tryz.call37 (c1) [] ex1 ?_ | refine call_u Tryz.call38 (c2) [] ex1 ?_ | (refine ret_s [] ?_; simp (decide := true) (disch := omega) only [go_sem, ↓reduceIte, ↓put_at]))))
      (try simp only [hix, hge])
      (repeat' ((first | refine sp_ ?_ | exact ex0 | (refine ret_s [] ?_; simp (decide := true) (disch := omega) only [go_sem, ↓reduceIte, ↓put_at]))))
      (try simp only [hix, hge])
      (repeat' ((first | refine sp_ ?_ | exact ex0 | (refine ret_s [] ?_; simp (decide := true) (disch := omega) only [go_sem, ↓reduceIte, ↓put_at]))))
      (try simp only [hix, hge])
      (repeat' ((first | refine sp_ ?_ | exact ex0 | (refine ret_s [] ?_; simp (decide := true) (disch := omega) only [go_sem, ↓reduceIte, ↓put_at]))))
      (try simp only [hix, hge])
      (repeat' ((first | refine sp_ ?_ | exact ex0 | (refine ret_s [] ?_; simp (decide := true) (disch := omega) only [go_sem, ↓reduceIte, ↓put_at]))))
      simp only [hbe, Bool.not_true]
      (repeat' ((first | refine sp_ ?_ | exact ex0 | (refine ret_s [] ?_; simp (decide := true) (disch := omega) only [go_sem, ↓reduceIte, ↓put_at]))))
      simp only [hix, htk]
      refine ⟨⟨by omega, by omega, fun q h => h.elim⟩, ?_⟩
      (repeat' ((first | refine sp_ ?_ | exact ex0 | refine call_u Tryz.call16 (c4) [] ex1 ?_ | (refine ret_s [] ?_; simp (decide := true) (disch := omega) only [go_sem, ↓reduceIte, ↓put_at]))))
    · rw [if_neg h6] at hE
      simp only [Prod.mk.injEq] at hE
      obtain ⟨rfl, rfl⟩ := hE
      rw [Classical.not_not.1 h6] at c4
      refine spec_of Tryz.func12 rfl Tryz.ntmps12 Tryz.results12 ⟨by decide, by simp⟩ fun C hC => ?_
      (repeat' ((first | refine sp_ ?_ | exact ex0 | refine call_u Tryz.call37 (c1) [] ex1 ?_ | refine call_u Tryz.call38 (c2) [] ex1 ?_ | (refine ret_s [] ?_; simp (decide := true) (disch := omega) only [go_sem, ↓reduceIte, ↓put_at]))))
      (try simp only [hix, hge])
      (repeat' ((first | refine sp_ ?_ | exact ex0 | (refine ret_s [] ?_; simp (decide := true) (disch := omega) only [go_sem, ↓reduceIte, ↓put_at]))))
      (try simp only [hix, hge])
      (repeat' ((first | refine sp_ ?_ | exact ex0 | (refine ret_s [] ?_; simp (decide := true) (disch := omega) only [go_sem, ↓reduceIte, ↓put_at]))))
      (try simp only [hix, hge])
      (repeat' ((first | refine sp_ ?_ | exact ex0 | (refine ret_s [] ?_; simp (decide := true) (disch := omega) only [go_sem, ↓reduceIte, ↓put_at]))))
      (try simp only [hix, hge])
      (repeat' ((first | refine sp_ ?_ | exact ex0 | (refine ret_s [] ?_; simp (decide := true) (disch := omega) only [go_sem, ↓reduceIte, ↓put_at]))))
      simp only [hbe, Bool.not_true]
      (repeat' ((first | refine sp_ ?_ | exact ex0 | (refine ret_s [] ?_; simp (decide := true) (disch := omega) only [go_sem, ↓reduceIte, ↓put_at]))))
      simp only [hix, htk]
      refine ⟨⟨by omega, by omega, fun q h => h.elim⟩, ?_⟩
      (repeat' ((first | refine sp_ ?_ | exact ex0 | refine call_u Tryz.call16 (c4) [] ex1 ?_ | (refine ret_s [] ?_; simp (decide := true) (disch := omega) only [go_sem, ↓reduceIte, ↓put_at]))))
      simp only [hix, htk]
      refine ⟨⟨by omega, by omega, fun q h => h.elim⟩, ?_⟩
      (repeat' ((first | refine sp_ ?_ | exact ex0 | (refine ret_s [] ?_; simp (decide := true) (disch := omega) only [go_sem, ↓reduceIte, ↓put_at]))))
  · rw [decide_eq_false h5, if_pos rfl] at hE
    simp only [Prod.mk.injEq] at hE
    obtain ⟨rfl, rfl⟩ := hE
    by_cases k1 : q1 = 0
    · by_cases k2 : q2 = 204
      · by_cases k3 : q3.length = 12
        · have hbe : (q3.take 8 == [0, 0, 0, 0, 99, 115, 117, 109]) = false := by
            have : q3.take 8 ≠ [0, 0, 0, 0, 99, 115, 117, 109] := fun h => h5 ⟨k1, k2, k3, h⟩
            simpa using this
          refine spec_of Tryz.func12 rfl Tryz.ntmps12 Tryz.results12 ⟨by decide, by simp⟩ fun C hC => ?_
          (repeat' ((first | refine sp_ ?_ | exact ex0 | refine call_u Tryz.call37 (c1) [] ex1 ?_ | refine call_u Tryz.call38 (c2) [] ex1 ?_ | (refine ret_s [] ?_; simp (decide := true) (disch := omega) only [go_sem, ↓reduceIte, ↓put_at]))))
          (try simp only [hix, hge])
          (repeat' ((first | refine sp_ ?_ | exact ex0 | (refine ret_s [] ?_; simp (decide := true) (disch := omega) only [go_sem, ↓reduceIte, ↓put_at]))))
          (try simp only [hix, hge])
          (repeat' ((first | refine sp_ ?_ | exact ex0 | (refine ret_s [] ?_; simp (decide := true) (disch := omega) only [go_sem, ↓reduceIte, ↓put_at]))))
          (try simp only [hix, hge])
          (repeat' ((first | refine sp_ ?_ | exact ex0 | (refine ret_s [] ?_; simp (decide := true) (disch := omega) only [go_sem, ↓reduceIte, ↓put_at]))))
          (try simp only [hix, hge])
          (repeat' ((first | refine sp_ ?_ | exact ex0 | (refine ret_s [] ?_; simp (decide := true) (disch := omega) only [go_sem, ↓reduceIte, ↓put_at]))))
          simp only [hbe, Bool.not_false]
          (repeat' ((first | refine sp_ ?_ | exact ex0 | (refine ret_s [] ?_; simp (decide := true) (disch := omega) only [go_sem, ↓reduceIte, ↓put_at]))))
        · refine spec_of Tryz.func12 rfl Tryz.ntmps12 Tryz.results12 ⟨by decide, by simp⟩ fun C hC => ?_
          (repeat' ((first | refine sp_ ?_ | exact ex0 | refine call_u Tryz.call37 (c1) [] ex1 ?_ | refine call_u Tryz.call38 (c2) [] ex1 ?_ | (refine ret_s [] ?_; simp (decide := true) (disch := omega) only [go_sem, ↓reduceIte, ↓put_at]))))
          (try simp only [hix, hge])
          (repeat' ((first | refine sp_ ?_ | exact ex0 | (refine ret_s [] ?_; simp (decide := true) (disch := omega) only [go_sem, ↓reduceIte, ↓put_at]))))
          (try simp only [hix, hge])
          (repeat' ((first | refine sp_ ?_ | exact ex0 | (refine ret_s [] ?_; simp (decide := true) (disch := omega) only [go_sem, ↓reduceIte, ↓put_at]))))
          (try simp only [hix, hge])
          (repeat' ((first | refine sp_ ?_ | exact ex0 | (refine ret_s [] ?_; simp (decide := true) (disch := omega) only [go_sem, ↓reduceIte, ↓put_at]))))
          (try simp only [hix, hge])
          (repeat' ((first | refine sp_ ?_ | exact ex0 | (refine ret_s [] ?_; simp (decide := true) (disch := omega) only [go_sem, ↓reduceIte, ↓put_at]))))
      · refine spec_of Tryz.func12 rfl Tryz.ntmps12 Tryz.results12 ⟨by decide, by simp⟩ fun C hC => ?_
        (repeat' ((first | refine sp_ ?_ | exact ex0 | refine call_u Tryz.call37 (c1) [] ex1 ?_ | refine call_u Tryz.call38 (c2) [] ex1 ?_ | (refine ret_s [] ?_; simp (decide := true) (disch := omega) only [go_sem, ↓reduceIte, ↓put_at]))))
        (try simp only [hix, hge])
        (repeat' ((first | refine sp_ ?_ | exact ex0 | (refine ret_s [] ?_; simp (decide := true) (disch := omega) only [go_sem, ↓reduceIte, ↓put_at]))))
        (try simp only [hix, hge])
        (repeat' ((first | refine sp_ ?_ | exact ex0 | (refine ret_s [] ?_; simp (decide := true) (disch := omega) only [go_sem, ↓reduceIte, ↓put_at]))))
        (try simp only [hix, hge])
        (repeat' ((first | refine sp_ ?_ | exact ex0 | (refine ret_s [] ?_; simp (decide := true) (disch := omega) only [go_sem, ↓reduceIte, ↓put_at]))))
        (try simp only [hix, hge])
        (repeat' ((first | refine sp_ ?_ | exact ex0 | (refine ret_s [] ?_; simp (decide := true) (disch := omega) only [go_sem, ↓reduceIte, ↓put_at]))))
    · refine spec_of Tryz.func12 rfl Tryz.ntmps12 Tryz.results12 ⟨by decide, by simp⟩ fun C hC => ?_
      (repeat' ((first | refine sp_ ?_ | exact ex0 | refine call_u Tryz.call37 (c1) [] ex1 ?_ | refine call_u Tryz.call38 (c2) [] ex1 ?_ | (refine ret_s [] ?_; simp (decide := true) (disch := omega) only [go_sem, ↓reduceIte, ↓put_at]))))
      (try simp only [hix, hge])
      (repeat' ((first | refine sp_ ?_ | exact ex0 | (refine ret_s [] ?_; simp (decide := true) (disch := omega) only [go_sem, ↓reduceIte, ↓put_at]))))
      (try simp only [hix, hge])
      (repeat' ((first | refine sp_ ?_ | exact ex0 | (refine ret_s [] ?_; simp (decide := true) (disch := omega) only [go_sem, ↓reduceIte, ↓put_at]))))
      (try simp only [hix, hge])
      (repeat' ((first | refine sp_ ?_ | exact ex0 | (refine ret_s [] ?_; simp (decide := true) (disch := omega) only [go_sem, ↓reduceIte, ↓put_at]))))
      (try simp only [hix, hge])
      (repeat' ((first | refine sp_ ?_ | exact ex0 | (refine ret_s [] ?_; simp (decide := true) (disch := omega) only [go_sem, ↓reduceIte, ↓put_at]))))
/-- Pieces, cut. -/
def cutQ (p : Pc) : Pc := (p.1, p.2.1, p.2.2.take 300)
def fewP (l : List Pc) : List Pc := (l.take 8).map cutQ
theorem fewP_ok (l : List Pc) : Pcs (fewP l) := ⟨by unfold fewP; rw [List.length_map, List.length_take]; omega, fun p hp => by
  unfold fewP at hp
  obtain ⟨q, _, rfl⟩ := List.mem_map.1 hp
  unfold cutQ
  dsimp only
  rw [List.length_take]
  omega⟩
set_option maxRecDepth 100000 in
set_option maxHeartbeats 8000000 in
theorem law_few12 (l : List Pc) (hl : l.length ≤ maxLen) (hb : ∀ p ∈ l, p.2.2.length ≤ maxLen) : Spec Tryz.prog 15 [.ca (.val (.lst 3 (l.map pcEl)))] [] (.ca (.val (.tup [.lst 3 ((fewP l).map pcEl), .lst 3 ((fewP l).map pcEl)]))) [] := by
  have fin : fewP l = (l.take (min l.length 8)).map cutQ := by
    unfold fewP
    congr 1
    rcases Nat.le_total l.length 8 with h | h
    · rw [Nat.min_eq_left h, List.take_of_length_le h, List.take_length]
    · rw [Nat.min_eq_right h]
  rw [fin]
  refine spec_of Tryz.func15 rfl Tryz.ntmps15 Tryz.results15 ⟨by decide, by simp⟩ fun C hC => ?_
  (repeat' ((fail_if_success (first | refine stop_at 3 ?_ | refine stop_l 3 ?_)); (first | refine sp_ ?_ | exact ex0 | (refine ret_s [] ?_; simp (decide := true) (disch := omega) only [go_sem, ↓reduceIte, ↓put_at]))))
  refine own_s 4 (4, 9) 45 3 ?_
  simp (decide := true) (disch := omega) only [go_sem, ↓reduceIte, ↓put_at]
  refine own_s 5 (5, 9) 62 3 ?_
  simp (decide := true) (disch := omega) only [go_sem, ↓reduceIte, ↓put_at]
  (repeat' ((fail_if_success (refine stop_reg 4 ?_)); (first | refine sp_ ?_ | exact ex0 | (refine ret_s [] ?_; simp (decide := true) (disch := omega) only [go_sem, ↓reduceIte, ↓put_at]))))
  refine loop_s (α := {j : Nat // j ≤ min l.length 8}) (fun j => [(.s 0, .av (.val (.lst 3 (l.map pcEl)))), (.s 2, .av (.val (.sc (.slice none 0 0)))), (.s 3, .av (.val (.sc (.slice none 0 0)))), (.s 4, .av (.own (4, 9) 0 45 3 (((l.take j.1).map cutQ).map pcEl))), (.k (4, 9), .row 45 3 (((l.take j.1).map cutQ).map pcEl).length), (.s 5, .av (.own (5, 9) 0 62 3 (((l.take j.1).map cutQ).map pcEl))), (.k (5, 9), .row 62 3 (((l.take j.1).map cutQ).map pcEl).length), (.s 6, .av (.val (vi j.1)))]) (fun j => 8 - j.1) ⟨0, Nat.zero_le _⟩ ?_ (fun j => ?_)
  · simp (decide := true) (disch := omega) only [go_sem, ↓reduceIte, ↓put_at]
  · obtain ⟨j, hj⟩ := j
    dsimp only at hj ⊢
    by_cases hlt : j < min l.length 8
    · have hlt2 : j < l.length := by omega
      have hge : (l.map pcEl).getD j [] = pcEl l[j] := by simp [hlt2]
      have c := q_cut l[j].2.2 300 (hb _ (List.getElem_mem hlt2)) (by decide)
      rw [show (300 : Int).toNat = 300 from rfl] at c
      have ht : l.take (j + 1) = l.take j ++ [l[j]] := List.take_succ_eq_append_getElem hlt2
      have hln : (l.take j).length = j := by rw [List.length_take]; omega
      have hln2 : (l.take (j + 1)).length = j + 1 := by rw [List.length_take]; omega
      have hmp : ((l.take (j + 1)).map cutQ).map pcEl = ((l.take j).map cutQ).map pcEl ++ [[vi l[j].1, vi l[j].2.1, vs (l[j].2.2.take 300)]] := by
        rw [ht, List.map_append, List.map_append]
        rfl
      have hMl : (((l.take j).map cutQ).map pcEl).length = j := by simp only [List.length_map]; exact hln
      generalize ((l.take j).map cutQ).map pcEl = M at *
      (repeat' ((first | refine sp_ ?_ | exact ex0 | refine call_u Tryz.call9 (c) [] ex1 ?_ | (refine ret_s [] ?_; simp (decide := true) (disch := omega) only [go_sem, ↓reduceIte, ↓put_at]))))
      refine next_s (α := {j : Nat // j ≤ min l.length 8}) ⟨j + 1, hlt⟩ ⟨?_, by (try dsimp only); omega⟩
      (try dsimp only)
      rw [hmp]
      simp (decide := true) (disch := omega) only [go_sem, ↓reduceIte, ↓put_at]
      rw [hln2, hMl]
      exact ⟨rfl, rfl⟩
    · obtain rfl : j = min l.length 8 := by omega
      generalize ((l.take (min l.length 8)).map cutQ).map pcEl = M at *
      by_cases h8 : l.length < 8
      · (repeat' ((first | refine sp_ ?_ | exact ex0 | (refine ret_s [] ?_; simp (decide := true) (disch := omega) only [go_sem, ↓reduceIte, ↓put_at]))))
      · by_cases h9 : l.length = 8
        · (repeat' ((first | refine sp_ ?_ | exact ex0 | (refine ret_s [] ?_; simp (decide := true) (disch := omega) only [go_sem, ↓reduceIte, ↓put_at]))))
        · (repeat' ((first | refine sp_ ?_ | exact ex0 | (refine ret_s [] ?_; simp (decide := true) (disch := omega) only [go_sem, ↓reduceIte, ↓put_at]))))
end Go.Proofs.YtjkmnjmmnjhacaaGreat

