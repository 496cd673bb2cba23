/- The statement CordelleFrames, walked. -/
import Derived.Test.YtkclmofjlmeolaaGreatDoorFrm1z
import Derived.Test.YtkclmofjlmeolaaGreatDoorBuf7z
import Derived.Test.YtkclmofjlmeolaaGreatDoorLaw1z
import Derived.Test.YtkclmofjlmeolaaGreatDoorLaw1z
namespace Go.Proofs.YtkclmofjlmeolaaGreatDoor
open Go.RowKit
set_option linter.unusedVariables false
set_option linter.unusedSimpArgs false

/-- All that came, behind so many rounds. -/
structure FrmJ (P : List (List UInt8)) (seen : List Nat) (w : Int) : Prop where
  i : FrmI P seen
  w : w = if seen.length = P.length then 1 else 0
theorem frmJ_put {P : List (List UInt8)} {seen : List Nat} {w : Int} (h : FrmJ P seen w) {k : Nat} (hk : k < P.length) : FrmJ P (frN seen k) (frW P seen k w) := by
  refine ⟨frN_ok h.i hk, ?_⟩
  have hl := h.i.len
  have hw := h.w
  unfold frN frW
  by_cases hm : k ∈ seen
  · rw [if_pos hm, if_neg (fun q => q.1 hm)]
    exact hw
  · rw [if_neg hm]
    have hl2 := (frm_new h.i hk hm).2.len
    rw [List.length_append, List.length_singleton] at hl2 ⊢
    rw [if_neg (by omega)] at hw
    subst hw
    by_cases he : seen.length + 1 = P.length
    · rw [if_pos ⟨hm, he⟩, if_pos he]; rfl
    · rw [if_neg (fun q => he q.2), if_neg he]
theorem frN_mem (seen : List Nat) (k : Nat) : k ∈ frN seen k ∧ ∀ j ∈ seen, j ∈ frN seen k := by
  unfold frN
  split
  · exact ⟨by assumption, fun j h => h⟩
  · exact ⟨by simp, fun j h => by simp [h]⟩
theorem frJ_w {P : List (List UInt8)} {seen : List Nat} {w : Int} (h : FrmJ P seen w) : 0 ≤ w ∧ w ≤ 1 := by
  have := h.w
  split at this <;> omega
attribute [go_sem] List.length_range
set_option maxRecDepth 100000 in
set_option maxHeartbeats 8000000 in
theorem frmFrame_eql (a1 b1 : Int) (a2 b2 : List UInt8) (w : World) : (binOp .eql 51 (.agg [.int .u32 a1, str a2].toArray) (.agg [.int .u32 b1, str b2].toArray)).run Tryz.prog w = .ok (.bool (decide (a1 = b1 ∧ a2 = b2))) w := by
  by_cases h1 : a1 = b1
  · by_cases h2 : a2 = b2
    · subst h1 h2; simp [go_sem]
    · have e : (a2 == b2) = false := by simpa using h2
      simp [go_sem, h1, h2, e]
  · simp [go_sem, h1]
set_option maxRecDepth 100000 in
set_option maxHeartbeats 8000000 in
theorem frames12 (D : List UInt8) (n : Int) (ord : List Int) (hD : D.length ≤ maxLen) (hl : ord.length ≤ maxLen) : Spec Tryz.prog 3 [.ca (.val (vs D)), .ca (.val (vi n)), .ca (.val (.lst 1 (ord.map fun z : Int => [vi z])))] [] (.ca (.val (vb true))) [] := by
  have cb := buf_new 4 300 1048576
  have cs0 := spl_split [97, 98] 1 1 (by omega) (by decide)
  rw [show chop 1 [97, 98] = [[97], [98]] from rfl] at cs0
  have cc := cut24 D 300 (by omega) hD
  unfold maxLen at hD hl
  obtain ⟨d, hd⟩ : ∃ d, d = D.take 300 := ⟨_, rfl⟩
  have hdl : d.length ≤ 300 := by rw [hd, List.length_take]; omega
  rw [← hd] at cc
  clear hd
  have hn0 : 0 ≤ n % 64 := by omega
  have hn1 : n % 64 ≤ 63 := by omega
  obtain ⟨sz, hsz⟩ : ∃ sz : Nat, (sz : Int) = 2 + n % 64 := ⟨(2 + n % 64).toNat, by omega⟩
  have cs := spl_split d (2 + n % 64) sz (by omega) (by omega)
  have hi : FrmI (chop sz d) [] := ⟨chop_pos _ _, chop_len (by omega) d (k := 150) (by omega), fun s hs => by have := chop_sz (sz := sz) (by omega) d s hs; omega, List.nodup_nil, by simp⟩
  have hfl := chop_flat sz d
  generalize chop sz d = P at *
  have hb0 : newB24 4 300 1048576 = frB P [] := by unfold newB24; rfl
  rw [hb0] at cb
  have hp1 := hi.n1
  have hp2 := hi.n2
  have hpz : ¬ (P.length : Int) = 0 := by omega
  refine spec_of Tryz.func3 rfl Tryz.ntmps3 Tryz.results3 ⟨by decide, by simp⟩ fun C hC => ?_
  (repeat' ((fail_if_success (first | refine stop_at 4 ?_ | refine stop_l 4 ?_)); (first | refine sp_ ?_ | exact ex0 | refine call_u Tryz.call4 (cb) [] ex1 ?_ | refine call_u Tryz.call5 (cs0) [] ex1 ?_ | refine pnil_u (by first | exact .inl rfl | exact .inr rfl) (by simp (decide := true) (disch := omega) only [go_sem, ↓reduceIte, ↓put_at]; first | done | assumption | omega) ?_ | (refine ret_s [] ?_; simp (decide := true) (disch := omega) only [go_sem, ↓reduceIte, ↓put_at]))))
  refine reb_s hC (7, 1) (22, 0) [((7, 0), 0)] [] (buT (frB P [])) (by decide) ⟨rfl, rfl⟩ ⟨by simp (decide := true) (disch := omega) only [go_sem, ↓reduceIte, ↓put_at], ?_⟩
  (repeat' ((fail_if_success (first | refine stop_at 8 ?_ | refine stop_l 8 ?_)); (first | refine sp_ ?_ | exact ex0 | refine call_u Tryz.call6 (cc) [] ex1 ?_ | refine call_u Tryz.call5 (cs) [] ex1 ?_ | (refine ret_s [] ?_; simp (decide := true) (disch := omega) only [go_sem, ↓reduceIte, ↓put_at]))))
  refine own_c (9, 0) 0 (9, 1) 9 1 ?_
  simp (decide := true) (disch := omega) only [go_sem, ↓reduceIte, ↓put_at]
  (repeat' ((fail_if_success (refine stop_reg 9 ?_)); (first | refine sp_ ?_ | exact ex0 | (refine ret_s [] ?_; simp (decide := true) (disch := omega) only [go_sem, ↓reduceIte, ↓put_at]))))
  refine loop_s (α := {i : Nat // i ≤ P.length}) (fun i => [(.o (7, 0), .num 1), (.c (7, 0) 0, .av (.ptr (7, 1) 0 0)), (.s 7, .av (.ptr (7, 0) 0 0)), (.s 0, .av (.val (vs d))), (.r (7, 1), .tree (.box (buT (frB P [])))), (.o (9, 0), .num 1), (.k (9, 1), .row 9 1 i.1), (.c (9, 0) 0, .av (.own (9, 1) 0 9 1 ((List.range i.1).map fun k => [vs (pack6 (frM P k))]))), (.s 9, .av (.ptr (9, 0) 0 0)), (.s 2, .av (.val (.lst 1 (ord.map fun z : Int => [vi z])))), (.s 8, .av (.val (.lst 1 (P.map fun s => [vs s])))), (.s 38, .av (.val (.lst 1 (P.map fun s => [vs s])))), (.s 39, .av (.val (vi P.length))), (.s 40, .av (.val (vi i.1)))]) (fun i => P.length - i.1) ⟨0, Nat.zero_le _⟩ ?_ (fun i => ?_)
  · simp (decide := true) (disch := omega) only [go_sem, ↓reduceIte, ↓put_at]
    rfl
  obtain ⟨i, hi1⟩ := i
  dsimp only at hi1 ⊢
  by_cases hlt : i < P.length
  · have hltz : (i : Int) < P.length := by omega
    obtain ⟨mo, mm⟩ := frM_may hi hlt
    have hPd : P.getD i [] = P[i] := by simp [List.getD_eq_getElem?_getD, hlt]
    have cp := media_pack (frM P i) mo (by have := getD_sz hi.sz i; show (P.getD i []).length ≤ maxLen; unfold maxLen; omega)
    have hrg : (List.range (i + 1)).map (fun k => [vs (pack6 (frM P k))]) = (List.range i).map (fun k => [vs (pack6 (frM P k))]) ++ [[vs (pack6 (frM P i))]] := by rw [List.range_succ, List.map_append]; rfl
    generalize pack6 (frM P i) = pk at cp hrg
    rw [show m6L (frM P i) = [vu 0, vh i, vu 7, vi 1, vh 0, vi i, vi P.length, vs (P.getD i [])] from rfl, hPd] at cp
    (repeat' ((first | refine sp_ ?_ | exact ex0 | refine call_u Tryz.call7 (cp) [] ex1 ?_ | (refine ret_s [] ?_; simp (decide := true) (disch := omega) only [go_sem, ↓reduceIte, ↓put_at]))))
    refine next_s (α := {i : Nat // i ≤ P.length}) ⟨i + 1, hlt⟩ ⟨?_, by (try dsimp only); omega⟩
    (try dsimp only)
    rw [hrg]
    simp (decide := true) (disch := omega) only [go_sem, ↓reduceIte, ↓put_at]
  · obtain rfl : i = P.length := by omega
    (repeat' ((fail_if_success (refine stop_reg 20 ?_)); (first | refine sp_ ?_ | exact ex0 | (refine ret_s [] ?_; simp (decide := true) (disch := omega) only [go_sem, ↓reduceIte, ↓put_at]))))
    refine meetB_s (α := {x : List Nat × Int // FrmJ P x.1 x.2}) (fun x => [(.o (7, 0), .num 1), (.c (7, 0) 0, .av (.ptr (7, 1) 0 0)), (.s 7, .av (.ptr (7, 0) 0 0)), (.s 0, .av (.val (vs d))), (.r (7, 1), .tree (.box (buT (frB P x.1.1)))), (.o (9, 0), .num 1), (.c (9, 0) 0, .av (.val (.lst 1 (frK P)))), (.s 9, .av (.ptr (9, 0) 0 0)), (.o (13, 0), .num 1), (.s 13, .av (.ptr (13, 0) 0 0)), (.s 14, .av (.fn 8 [.ptr (9, 0) 0 0, .ptr (7, 0) 0 0, .ptr (13, 0) 0 0])), (.c (13, 0) 0, .av (.val (vi x.1.2)))]) ?_ (fun x => ?_)
    · refine loop_s (α := {x : Nat × List Nat × Int // x.1 ≤ ord.length ∧ x.1 ≤ 30 ∧ FrmJ P x.2.1 x.2.2}) (fun x => [(.o (7, 0), .num 1), (.c (7, 0) 0, .av (.ptr (7, 1) 0 0)), (.s 7, .av (.ptr (7, 0) 0 0)), (.s 0, .av (.val (vs d))), (.r (7, 1), .tree (.box (buT (frB P x.1.2.1)))), (.o (9, 0), .num 1), (.c (9, 0) 0, .av (.val (.lst 1 (frK P)))), (.s 9, .av (.ptr (9, 0) 0 0)), (.o (13, 0), .num 1), (.s 13, .av (.ptr (13, 0) 0 0)), (.s 14, .av (.fn 8 [.ptr (9, 0) 0 0, .ptr (7, 0) 0 0, .ptr (13, 0) 0 0])), (.c (13, 0) 0, .av (.val (vi x.1.2.2))), (.s 2, .av (.val (.lst 1 (ord.map fun z : Int => [vi z])))), (.s 15, .av (.val (vi x.1.1)))]) (fun x => ord.length - x.1.1) ⟨(0, [], 0), Nat.zero_le _, by omega, hi, by rw [if_neg (by simp; omega)]⟩ ?_ (fun x => ?_)
      · simp (decide := true) (disch := omega) only [go_sem, ↓reduceIte, ↓put_at]
      obtain ⟨⟨i, seen, w⟩, h1, h2, h3⟩ := x
      dsimp only at h1 h2 h3 ⊢
      by_cases hlt : i < ord.length ∧ i < 30
      · obtain ⟨hlt, hlt2⟩ := hlt
        have hltz : (i : Int) < ord.length := by omega
        have hm0 : 0 ≤ ord[i] % 65536 := by omega
        have hr0 := Int.emod_nonneg (ord[i] % 65536) (b := (P.length : Int)) (by omega)
        have hr1 := Int.emod_lt_of_pos (ord[i] % 65536) (b := (P.length : Int)) (by omega)
        obtain ⟨k, hk⟩ : ∃ k : Nat, (ord[i] % 65536) % (P.length : Int) = k := ⟨((ord[i] % 65536) % (P.length : Int)).toNat, by omega⟩
        have hkl : k < P.length := by omega
        have hw := frJ_w h3
        have cput := frm_put h3.i hkl w (by omega)
        have hnx := frmJ_put h3 hkl
        generalize frN seen k = seen' at *
        generalize frW P seen k w = w' at *
        (repeat' ((first | refine sp_ ?_ | exact ex0 | (refine ret_s [] ?_; simp (decide := true) (disch := omega) only [go_sem, ↓reduceIte, ↓put_at]))))
        simp only [hk]
        refine fcall_s Tryz.call8 cput [(9, 0), (7, 0), (13, 0)] [.ptr (9, 0) 0 0, .ptr (7, 0) 0 0, .ptr (13, 0) 0 0] ?_
        (repeat' ((first | refine sp_ ?_ | exact ex0 | (refine ret_s [] ?_; simp (decide := true) (disch := omega) only [go_sem, ↓reduceIte, ↓put_at]))))
        refine next_s (α := {x : Nat × List Nat × Int // x.1 ≤ ord.length ∧ x.1 ≤ 30 ∧ FrmJ P x.2.1 x.2.2}) ⟨(i + 1, seen', w'), hlt, hlt2, hnx⟩ ⟨?_, by (try dsimp only); omega⟩
        (try dsimp only)
        simp (decide := true) (disch := omega) only [go_sem, ↓reduceIte, ↓put_at]
      · rcases Nat.lt_or_ge i 30 with h | h
        · have hge : (ord.length : Int) ≤ i := by omega
          (repeat' ((first | refine sp_ ?_ | exact ex0 | (refine ret_s [] ?_; simp (decide := true) (disch := omega) only [go_sem, ↓reduceIte, ↓put_at]))))
          refine at_meet ⟨(seen, w), h3⟩ ?_
          simp (decide := true) (disch := omega) only [go_sem, ↓reduceIte, ↓put_at]
        · have hge : (30 : Int) ≤ i := by omega
          by_cases hi : (i : Int) < ord.length
          · (repeat' ((first | refine sp_ ?_ | exact ex0 | (refine ret_s [] ?_; simp (decide := true) (disch := omega) only [go_sem, ↓reduceIte, ↓put_at]))))
            refine at_meet ⟨(seen, w), h3⟩ ?_
            simp (decide := true) (disch := omega) only [go_sem, ↓reduceIte, ↓put_at]
          · (repeat' ((first | refine sp_ ?_ | exact ex0 | (refine ret_s [] ?_; simp (decide := true) (disch := omega) only [go_sem, ↓reduceIte, ↓put_at]))))
            refine at_meet ⟨(seen, w), h3⟩ ?_
            simp (decide := true) (disch := omega) only [go_sem, ↓reduceIte, ↓put_at]
    obtain ⟨⟨seen0, w0⟩, hx⟩ := x
    dsimp only at hx ⊢
    (repeat' ((fail_if_success (refine stop_reg 25 ?_)); (first | refine sp_ ?_ | exact ex0 | (refine ret_s [] ?_; simp (decide := true) (disch := omega) only [go_sem, ↓reduceIte, ↓put_at]))))
    refine loop_s (α := {x : Nat × List Nat × Int // x.1 ≤ P.length ∧ FrmJ P x.2.1 x.2.2 ∧ ∀ k < x.1, k ∈ x.2.1}) (fun x => [(.o (7, 0), .num 1), (.c (7, 0) 0, .av (.ptr (7, 1) 0 0)), (.s 7, .av (.ptr (7, 0) 0 0)), (.s 0, .av (.val (vs d))), (.r (7, 1), .tree (.box (buT (frB P x.1.2.1)))), (.o (9, 0), .num 1), (.c (9, 0) 0, .av (.val (.lst 1 (frK P)))), (.s 9, .av (.ptr (9, 0) 0 0)), (.o (13, 0), .num 1), (.s 13, .av (.ptr (13, 0) 0 0)), (.s 14, .av (.fn 8 [.ptr (9, 0) 0 0, .ptr (7, 0) 0 0, .ptr (13, 0) 0 0])), (.c (13, 0) 0, .av (.val (vi x.1.2.2))), (.s 90, .av (.val (vi P.length))), (.s 91, .av (.val (vi x.1.1)))]) (fun x => P.length - x.1.1) ⟨(0, seen0, w0), Nat.zero_le _, hx, fun k h => absurd h (by dsimp only; omega)⟩ ?_ (fun x => ?_)
    · simp (decide := true) (disch := omega) only [go_sem, ↓reduceIte, ↓put_at]
      (try simp)
    obtain ⟨⟨k, seen, w⟩, h1, h3, h4⟩ := x
    dsimp only at h1 h3 h4 ⊢
    by_cases hkl : k < P.length
    · have hkz : (k : Int) < P.length := by omega
      have hw := frJ_w h3
      have cput := frm_put h3.i hkl w (by omega)
      have hnx := frmJ_put h3 hkl
      obtain ⟨m1, m2⟩ := frN_mem seen k
      generalize frN seen k = seen' at *
      generalize frW P seen k w = w' at *
      (repeat' ((first | refine sp_ ?_ | exact ex0 | (refine ret_s [] ?_; simp (decide := true) (disch := omega) only [go_sem, ↓reduceIte, ↓put_at]))))
      refine fcall_s Tryz.call8 cput [(9, 0), (7, 0), (13, 0)] [.ptr (9, 0) 0 0, .ptr (7, 0) 0 0, .ptr (13, 0) 0 0] ?_
      (repeat' ((first | refine sp_ ?_ | exact ex0 | (refine ret_s [] ?_; simp (decide := true) (disch := omega) only [go_sem, ↓reduceIte, ↓put_at]))))
      refine next_s (α := {x : Nat × List Nat × Int // x.1 ≤ P.length ∧ FrmJ P x.2.1 x.2.2 ∧ ∀ k < x.1, k ∈ x.2.1}) ⟨(k + 1, seen', w'), hkl, hnx, fun j hj => by
        rcases Nat.lt_or_ge j k with h | h
        · exact m2 j (h4 j h)
        · obtain rfl : j = k := by (try dsimp only at hj); omega
          exact m1⟩ ⟨?_, by (try dsimp only); omega⟩
      (try dsimp only)
      simp (decide := true) (disch := omega) only [go_sem, ↓reduceIte, ↓put_at]
    · obtain rfl : k = P.length := by omega
      obtain ⟨b, e1, e2, e3, e4, e5⟩ := frm_play h3.i h4
      have hok := frB_ok h3.i
      have hlen := h3.i.len
      have hsl : seen.length = P.length := by
        have h2 : (List.range P.length).length ≤ seen.length := nodup_sub_len List.nodup_range fun k hk => h4 k (List.mem_range.1 hk)
        rw [List.length_range] at h2
        omega
      have hw1 : w = 1 := by rw [h3.w, if_pos hsl]
      subst hw1
      have hbl := hok.len
      have p1 := buf_play (frB P seen) 5 5 9 ⟨hok.fr, by dsimp only; simp; omega, hok.c0, by have := hok.c1; dsimp only; omega, hok.d0, by have := hok.d1; dsimp only; omega⟩ (by omega) (by omega) (by omega)
      have p2 := buf_play b 99 0 0 ⟨by rw [e3]; simp, by rw [e3]; simp, by rw [e4]; decide, by rw [e3, e4]; simp, by rw [e5]; decide, by rw [e3, e5]; simp⟩ (by omega) (by omega) (by omega)
      rw [e1] at p1
      rw [e2] at p2
      dsimp only at p1 p2
      rw [hfl] at p1
      have hcm := frmFrame_eql 7 7 d d
      generalize frB P seen = B at *
      (repeat' ((fail_if_success (first | refine stop_at 30 ?_ | refine stop_l 30 ?_)); (first | refine sp_ ?_ | exact ex0 | (refine ret_s [] ?_; simp (decide := true) (disch := omega) only [go_sem, ↓reduceIte, ↓put_at]))))
      refine unb_s hC (7, 1) 120 [((7, 0), 0)] [] (buT B) ⟨rfl, rfl⟩ ⟨by simp (decide := true) (disch := omega) only [go_sem, ↓reduceIte, ↓put_at], ?_⟩
      (repeat' ((first | refine sp_ ?_ | exact ex0 | refine call_u Tryz.call11 (p1) [(120, 0)] ex1 ?_ | refine call_u Tryz.call11 (p2) [(120, 0)] ex1 ?_ | (refine ret_s [] ?_; simp (decide := true) (disch := omega) only [go_sem, ↓reduceIte, ↓put_at]))))
      refine gcmpA_s _ _ _ (.inl rfl) (by simp (decide := true) (disch := omega) only [go_sem, ↓reduceIte, ↓put_at]) (by simp (decide := true) (disch := omega) only [go_sem, ↓reduceIte, ↓put_at]) (by simp (decide := true) (disch := omega) only [go_sem, ↓reduceIte, ↓put_at]) (by kernel_rfl) hcm ?_
      (repeat' ((first | refine sp_ ?_ | exact ex0 | (refine ret_s [] ?_; simp (decide := true) (disch := omega) only [go_sem, ↓reduceIte, ↓put_at]))))
end Go.Proofs.YtkclmofjlmeolaaGreatDoor

