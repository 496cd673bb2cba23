
/- The document's net: one list of all that is under way; walked. -/
import Derived.Test.YtdkgnlmojmafbaaNetM
import Derived.Test.YtdkgnlmojmafbaaCrc4
import Derived.Test.YtdkgnlmojmafbaaRO
namespace Go.Proofs.Ytdkgnlmojmafbaa
open Go.RowKit
set_option linter.unusedVariables false
set_option linter.unusedSimpArgs false

structure O28 where
  w : Int
  p : Int
  d : List UInt8
abbrev oEl (o : O28) : List V := [vi o.w, vi o.p, vs o.d]
structure X28 where
  most : Int
  bytes : Int
  l : List O28
  sent : Int
  lost : Int
  taken : Int
  twins : Int
  turned : Int
  forged : Int
abbrev xV (Z : X28) : V := .agg [vi Z.most, vi Z.bytes, .lst 3 (Z.l.map oEl), vi Z.sent, vi Z.lost, vi Z.taken, vi Z.twins, vi Z.turned, vi Z.forged]
def onB (l : Ln) (o : O28) : Bool := decide (o.w = l.1 ∧ o.p = l.2)
def allO (os : List O28) (l : Ln) : List (List UInt8) := (os.filter (onB l)).map (·.d)
theorem allO_app (a b : List O28) (l : Ln) : allO (a ++ b) l = allO a l ++ allO b l := by unfold allO; rw [List.filter_append, List.map_append]
theorem allO_len (os : List O28) (l : Ln) : (allO os l).length ≤ os.length := by unfold allO; rw [List.length_map]; exact List.length_filter_le ..
theorem allO_one (o : O28) (l : Ln) : allO [o] l = if o.w = l.1 ∧ o.p = l.2 then [o.d] else [] := by
  unfold allO onB
  by_cases h : o.w = l.1 ∧ o.p = l.2
  · rw [if_pos h]; simp [h]
  · rw [if_neg h, List.filter_cons, decide_eq_false h]; rfl
theorem oEl_len (os : List O28) : ∀ r ∈ os.map oEl, r.length = 3 := fun r h => by obtain ⟨e, _, rfl⟩ := List.mem_map.1 h; rfl
theorem oEl_one (os : List O28) : ∀ r ∈ os.map oEl, ∀ y ∈ r, oneV y = true := fun r h y hy => by
  obtain ⟨e, _, rfl⟩ := List.mem_map.1 h
  simp at hy
  rcases hy with rfl | rfl | rfl <;> rfl
set_option maxRecDepth 100000 in
set_option maxHeartbeats 8000000 in
theorem rx_all (Z : X28) (l : Ln) (h : Z.l.length ≤ 1048576) : Spec Try.prog 27 [.ca (.val (xV Z)), .ca (.val (vi l.1)), .ca (.val (vi l.2))] [] (.ca (.val (.lst 1 ((allO Z.l l).map fun s => [vs s])))) [] := by
  refine spec_of Try.func27 rfl Try.ntmps27 Try.results27 ⟨by decide, by simp⟩ fun C hC => ?_
  (repeat' ((fail_if_success (refine stop_reg 3 ?_)); (first | refine sp_ ?_ | exact ex0 | (refine ret_s [] ?_; simp (decide := true) (disch := omega) only [go_sem, ↓reduceIte, ↓put_at]))))
  refine loop_s (α := {i : Nat // i ≤ Z.l.length}) (fun i => [(.s 1, .av (.val (vi l.1))), (.s 2, .av (.val (vi l.2))), (.k (10, 0), .row 9 1 (allO (Z.l.take i.1) l).length), (.s 7, .av (.own (10, 0) 0 9 1 ((allO (Z.l.take i.1) l).map fun s => [vs s]))), (.s 12, .av (.val (.lst 3 (Z.l.map oEl)))), (.s 13, .av (.val (vi Z.l.length))), (.s 14, .av (.val (vi i.1)))]) (fun i => Z.l.length - i.1) ⟨0, Nat.zero_le _⟩ ?_ (fun i => ?_)
  · rw [List.take_zero, show allO [] l = [] from rfl]
    simp (decide := true) (disch := omega) only [go_sem, ↓reduceIte, ↓put_at]
    first | exact rfl | (show _ = _; kernel_rfl)
  obtain ⟨i, hi⟩ := i
  dsimp only at hi ⊢
  by_cases hlt : i < Z.l.length
  · have hge : (Z.l.map oEl).getD i [] = oEl Z.l[i] := by simp [hlt]
    have htk : Z.l.take (i + 1) = Z.l.take i ++ [Z.l[i]] := List.take_succ_eq_append_getElem hlt
    have hst : allO (Z.l.take (i + 1)) l = allO (Z.l.take i) l ++ allO [Z.l[i]] l := by rw [htk, allO_app]
    have hla := allO_len (Z.l.take i) l
    rw [List.length_take] at hla
    rw [allO_one] at hst
    generalize allO (Z.l.take i) l = B at *
    obtain ⟨B2, hE⟩ : ∃ x, x = allO (Z.l.take (i + 1)) l := ⟨_, rfl⟩
    rw [← hE] at hst
    by_cases h1 : Z.l[i].w = l.1
    · by_cases h2 : Z.l[i].p = l.2
      · rw [if_pos ⟨h1, h2⟩] at hst
        (repeat' ((first | refine sp_ ?_ | exact ex0 | (refine ret_s [] ?_; simp (decide := true) (disch := omega) only [go_sem, ↓reduceIte, ↓put_at]))))
        refine next_s (α := {i : Nat // i ≤ Z.l.length}) ⟨i + 1, hlt⟩ ⟨?_, by (try dsimp only); omega⟩
        (try dsimp only)
        rw [← hE, hst]
        simp (decide := true) (disch := omega) only [go_sem, ↓reduceIte, ↓put_at]
        rw [List.map_append]
        rfl
      · rw [if_neg (fun q => h2 q.2)] at hst
        (repeat' ((first | refine sp_ ?_ | exact ex0 | (refine ret_s [] ?_; simp (decide := true) (disch := omega) only [go_sem, ↓reduceIte, ↓put_at]))))
        refine next_s (α := {i : Nat // i ≤ Z.l.length}) ⟨i + 1, hlt⟩ ⟨?_, by (try dsimp only); omega⟩
        (try dsimp only)
        rw [← hE, hst]
        simp (decide := true) (disch := omega) only [go_sem, ↓reduceIte, ↓put_at]
    · rw [if_neg (fun q => h1 q.1)] at hst
      (repeat' ((first | refine sp_ ?_ | exact ex0 | (refine ret_s [] ?_; simp (decide := true) (disch := omega) only [go_sem, ↓reduceIte, ↓put_at]))))
      refine next_s (α := {i : Nat // i ≤ Z.l.length}) ⟨i + 1, hlt⟩ ⟨?_, by (try dsimp only); omega⟩
      (try dsimp only)
      rw [← hE, hst]
      simp (decide := true) (disch := omega) only [go_sem, ↓reduceIte, ↓put_at]
  · obtain rfl : i = Z.l.length := by omega
    rw [List.take_length]
    (repeat' ((first | refine sp_ ?_ | exact ex0 | (refine ret_s [] ?_; simp (decide := true) (disch := omega) only [go_sem, ↓reduceIte, ↓put_at]))))
set_option maxRecDepth 100000 in
set_option maxHeartbeats 8000000 in
theorem rx_new (a b : Int) : Spec Try.prog 6 [.ca (.val (vi a)), .ca (.val (vi b))] [] (.ca (.val (xV ⟨max 1 (min a 1024), max 1 (min b 16777216), [], 0, 0, 0, 0, 0, 0⟩))) [] := by
  refine spec_of Try.func6 rfl Try.ntmps6 Try.results6 ⟨by decide, by simp⟩ fun C hC => ?_
  (repeat' ((first | refine sp_ ?_ | exact ex0 | (refine ret_s [] ?_; simp (decide := true) (disch := omega) only [go_sem, ↓reduceIte, ↓put_at]))))
/-- Where the i-th one of a lane is. -/
def plO (l : Ln) (i : Int) : List O28 → Nat → Nat → Int
  | [], _, _ => -1
  | o :: os, a, k => if o.w = l.1 ∧ o.p = l.2 then (if (k : Int) = i then a else plO l i os (a + 1) (k + 1)) else plO l i os (a + 1) k
set_option maxRecDepth 100000 in
set_option maxHeartbeats 8000000 in
theorem rx_place (Z : X28) (l : Ln) (i : Int) (h : Z.l.length ≤ 1048576) : Spec Try.prog 37 [.ca (.val (xV Z)), .ca (.val (vi l.1)), .ca (.val (vi l.2)), .ca (.val (vi i))] [] (.ca (.val (vi (plO l i Z.l 0 0)))) [] := by
  generalize hR : plO l i Z.l 0 0 = R
  refine spec_of Try.func37 rfl Try.ntmps37 Try.results37 ⟨by decide, by simp⟩ fun C hC => ?_
  (repeat' ((fail_if_success (refine stop_reg 3 ?_)); (first | refine sp_ ?_ | exact ex0 | (refine ret_s [] ?_; simp (decide := true) (disch := omega) only [go_sem, ↓reduceIte, ↓put_at]))))
  refine loop_s (α := {x : Nat × Nat // x.1 ≤ Z.l.length ∧ x.2 ≤ x.1 ∧ plO l i (Z.l.drop x.1) x.1 x.2 = R}) (fun x => [(.s 1, .av (.val (vi l.1))), (.s 2, .av (.val (vi l.2))), (.s 3, .av (.val (vi i))), (.s 9, .av (.val (vi x.1.2))), (.s 13, .av (.val (.lst 3 (Z.l.map oEl)))), (.s 14, .av (.val (vi Z.l.length))), (.s 15, .av (.val (vi x.1.1)))]) (fun x => Z.l.length - x.1.1) ⟨(0, 0), Nat.zero_le _, Nat.le_refl _, hR⟩ ?_ (fun x => ?_)
  · simp (decide := true) (disch := omega) only [go_sem, ↓reduceIte, ↓put_at]
  obtain ⟨⟨a, k⟩, ha, hk, hp⟩ := x
  dsimp only at ha hk hp ⊢
  by_cases hlt : a < Z.l.length
  · have hge : (Z.l.map oEl).getD a [] = oEl Z.l[a] := by simp [hlt]
    rw [List.drop_eq_getElem_cons hlt] at hp
    unfold plO at hp
    by_cases h1 : Z.l[a].w = l.1
    · by_cases h2 : Z.l[a].p = l.2
      · rw [if_pos ⟨h1, h2⟩] at hp
        by_cases h3 : (k : Int) = i
        · rw [if_pos h3] at hp
          subst hp
          (repeat' ((first | refine sp_ ?_ | exact ex0 | (refine ret_s [] ?_; simp (decide := true) (disch := omega) only [go_sem, ↓reduceIte, ↓put_at]))))
        · rw [if_neg h3] at hp
          (repeat' ((first | refine sp_ ?_ | exact ex0 | (refine ret_s [] ?_; simp (decide := true) (disch := omega) only [go_sem, ↓reduceIte, ↓put_at]))))
          refine next_s (α := {x : Nat × Nat // x.1 ≤ Z.l.length ∧ x.2 ≤ x.1 ∧ plO l i (Z.l.drop x.1) x.1 x.2 = R}) ⟨(a + 1, k + 1), hlt, by dsimp only; omega, hp⟩ ⟨?_, by dsimp only; omega⟩
          (try dsimp only)
          simp (decide := true) (disch := omega) only [go_sem, ↓reduceIte, ↓put_at]
      · rw [if_neg (fun q => h2 q.2)] at hp
        (repeat' ((first | refine sp_ ?_ | exact ex0 | (refine ret_s [] ?_; simp (decide := true) (disch := omega) only [go_sem, ↓reduceIte, ↓put_at]))))
        refine next_s (α := {x : Nat × Nat // x.1 ≤ Z.l.length ∧ x.2 ≤ x.1 ∧ plO l i (Z.l.drop x.1) x.1 x.2 = R}) ⟨(a + 1, k), hlt, by dsimp only; omega, hp⟩ ⟨?_, by dsimp only; omega⟩
        (try dsimp only)
        simp (decide := true) (disch := omega) only [go_sem, ↓reduceIte, ↓put_at]
    · rw [if_neg (fun q => h1 q.1)] at hp
      (repeat' ((first | refine sp_ ?_ | exact ex0 | (refine ret_s [] ?_; simp (decide := true) (disch := omega) only [go_sem, ↓reduceIte, ↓put_at]))))
      refine next_s (α := {x : Nat × Nat // x.1 ≤ Z.l.length ∧ x.2 ≤ x.1 ∧ plO l i (Z.l.drop x.1) x.1 x.2 = R}) ⟨(a + 1, k), hlt, by dsimp only; omega, hp⟩ ⟨?_, by dsimp only; omega⟩
      (try dsimp only)
      simp (decide := true) (disch := omega) only [go_sem, ↓reduceIte, ↓put_at]
  · obtain rfl : a = Z.l.length := by omega
    rw [List.drop_length, show plO l i [] Z.l.length k = -1 from rfl] at hp
    subst hp
    (repeat' ((first | refine sp_ ?_ | exact ex0 | (refine ret_s [] ?_; simp (decide := true) (disch := omega) only [go_sem, ↓reduceIte, ↓put_at]))))
def canX (Z : X28) (l : Ln) (s : List UInt8) : Bool := decide (lnOk l = true ∧ s ≠ [] ∧ s.length ≤ 1500 ∧ ((allO Z.l l).length : Int) < Z.most ∧ ((sumB (allO Z.l l) + s.length : Nat) : Int) ≤ Z.bytes)
def putX (Z : X28) (l : Ln) (s : List UInt8) : X28 := if canX Z l s = true then { Z with l := Z.l ++ [⟨l.1, l.2, s⟩] } else Z
set_option maxRecDepth 100000 in
set_option maxHeartbeats 8000000 in
theorem rx_put (Z : X28) (l : Ln) (s : List UInt8) (h : Z.l.length ≤ 1048576) (hs : s.length ≤ 1099511627776) (hb : ∀ x ∈ allO Z.l l, x.length ≤ 1048576) : Spec Try.prog 35 [.ca (.val (xV Z)), .ca (.val (vi l.1)), .ca (.val (vi l.2)), .ca (.val (vs s))] [] (.ca (.val (.tup [xV (putX Z l s), vb (canX Z l s)]))) [] := by
  have c1 := rx_all Z l h
  have hla := allO_len Z.l l
  obtain ⟨c, hc⟩ : ∃ c, c = canX Z l s := ⟨_, rfl⟩
  have hc2 := hc
  unfold canX at hc2
  unfold putX
  rw [← hc]
  clear hc
  generalize allO Z.l l = B at *
  have hsum : ∀ j : Nat, sumB (B.take j) ≤ 1048576 * j := fun j => by
    induction j with
    | zero => simp [sumB]
    | succ j ih =>
      by_cases hj : j < B.length
      · rw [← List.take_append_getElem hj, sumB_app]
        have := hb _ (List.getElem_mem hj)
        simp only [sumB]
        omega
      · rw [List.take_of_length_le (by omega)] at ih ⊢
        omega
  refine spec_of Try.func35 rfl Try.ntmps35 Try.results35 ⟨by decide, by simp⟩ fun C hC => ?_
  (repeat' ((fail_if_success (refine stop_reg 4 ?_)); (first | refine sp_ ?_ | exact ex0 | refine call_u Try.call27 (c1) [] ex1 ?_ | (refine ret_s [] ?_; simp (decide := true) (disch := omega) only [go_sem, ↓reduceIte, ↓put_at]))))
  refine loop_s (α := {i : Nat // i ≤ B.length}) (fun i => [(.s 1, .av (.val (vi l.1))), (.s 2, .av (.val (vi l.2))), (.s 3, .av (.val (vs s))), (.o (4, 0), .num 9), (.c (4, 0) 0, .av (.val (vi Z.most))), (.c (4, 0) 1, .av (.val (vi Z.bytes))), (.c (4, 0) 2, .av (.val (.lst 3 (Z.l.map oEl)))), (.c (4, 0) 3, .av (.val (vi Z.sent))), (.c (4, 0) 4, .av (.val (vi Z.lost))), (.c (4, 0) 5, .av (.val (vi Z.taken))), (.c (4, 0) 6, .av (.val (vi Z.twins))), (.c (4, 0) 7, .av (.val (vi Z.turned))), (.c (4, 0) 8, .av (.val (vi Z.forged))), (.s 4, .av (.ptr (4, 0) 0 0)), (.o (8, 0), .num 9), (.s 8, .av (.ptr (8, 0) 0 0)), (.s 10, .av (.val (.lst 1 (B.map fun s => [vs s])))), (.s 11, .av (.val (vi ((s.length + sumB (B.take i.1) : Nat) : Int)))), (.s 20, .av (.val (.lst 1 (B.map fun s => [vs s])))), (.s 21, .av (.val (vi B.length))), (.s 22, .av (.val (vi i.1)))]) (fun i => B.length - i.1) ⟨0, Nat.zero_le _⟩ ?_ (fun i => ?_)
  · rw [List.take_zero]
    simp (decide := true) (disch := omega) only [go_sem, ↓reduceIte, ↓put_at]
    simp [sumB]
  obtain ⟨i, hi⟩ := i
  dsimp only at hi ⊢
  by_cases hlt : i < B.length
  · have hge : (B.map fun s => [vs s]).getD i [] = [vs B[i]] := by simp [hlt]
    have hsm : sumB (B.take (i + 1)) = sumB (B.take i) + B[i].length := by rw [← List.take_append_getElem hlt, sumB_app]; simp [sumB]
    have hs1 := hsum i
    have hbi := hb _ (List.getElem_mem hlt)
    (repeat' ((first | refine sp_ ?_ | exact ex0 | (refine ret_s [] ?_; simp (decide := true) (disch := omega) only [go_sem, ↓reduceIte, ↓put_at]))))
    refine next_s (α := {i : Nat // i ≤ B.length}) ⟨i + 1, hlt⟩ ⟨?_, by (try dsimp only); omega⟩
    (try dsimp only)
    simp (decide := true) (disch := omega) only [go_sem, ↓reduceIte, ↓put_at]
    rw [hsm]
    omega
  · obtain rfl : i = B.length := by omega
    rw [List.take_length]
    (repeat' ((fail_if_success (first | refine stop_at 8 ?_ | refine stop_l 8 ?_)); (first | refine sp_ ?_ | exact ex0 | (refine ret_s [] ?_; simp (decide := true) (disch := omega) only [go_sem, ↓reduceIte, ↓put_at]))))
    have hln : lnOk l = true ↔ ((l.1 = 0 ∨ l.1 = 1) ∧ 1 ≤ l.2 ∧ l.2 ≤ 15) := by unfold lnOk; rw [decide_eq_true_eq]
    by_cases k1 : l.1 < 0
    · have hf : c = false := by rw [hc2, decide_eq_false_iff_not]; exact fun q => absurd (hln.1 q.1).1 (by omega)
      rw [hf, if_neg (by decide)]
      (repeat' ((first | refine sp_ ?_ | exact ex0 | (refine ret_s [] ?_; simp (decide := true) (disch := omega) only [go_sem, ↓reduceIte, ↓put_at]))))
    · by_cases k2 : l.1 > 1
      · have hf : c = false := by rw [hc2, decide_eq_false_iff_not]; exact fun q => absurd (hln.1 q.1).1 (by omega)
        rw [hf, if_neg (by decide)]
        (repeat' ((first | refine sp_ ?_ | exact ex0 | (refine ret_s [] ?_; simp (decide := true) (disch := omega) only [go_sem, ↓reduceIte, ↓put_at]))))
      · by_cases k3 : l.2 < 1
        · have hf : c = false := by rw [hc2, decide_eq_false_iff_not]; exact fun q => absurd (hln.1 q.1).2 (by omega)
          rw [hf, if_neg (by decide)]
          (repeat' ((first | refine sp_ ?_ | exact ex0 | (refine ret_s [] ?_; simp (decide := true) (disch := omega) only [go_sem, ↓reduceIte, ↓put_at]))))
        · by_cases k4 : l.2 > 15
          · have hf : c = false := by rw [hc2, decide_eq_false_iff_not]; exact fun q => absurd (hln.1 q.1).2 (by omega)
            rw [hf, if_neg (by decide)]
            (repeat' ((first | refine sp_ ?_ | exact ex0 | (refine ret_s [] ?_; simp (decide := true) (disch := omega) only [go_sem, ↓reduceIte, ↓put_at]))))
          · by_cases k5 : s = []
            · have hf : c = false := by rw [hc2, decide_eq_false_iff_not]; exact fun q => q.2.1 k5
              rw [hf, if_neg (by decide)]
              subst k5
              (repeat' ((first | refine sp_ ?_ | exact ex0 | (refine ret_s [] ?_; simp (decide := true) (disch := omega) only [go_sem, ↓reduceIte, ↓put_at]))))
            · have hbe : (s == []) = false := by simpa using k5
              by_cases k6 : s.length > 1500
              · have hf : c = false := by rw [hc2, decide_eq_false_iff_not]; exact fun q => absurd q.2.2.1 (by omega)
                rw [hf, if_neg (by decide)]
                (repeat' ((first | refine sp_ ?_ | exact ex0 | (refine ret_s [] ?_; simp (decide := true) (disch := omega) only [go_sem, ↓reduceIte, ↓put_at]))))
                (try simp only [hbe])
                (repeat' ((first | refine sp_ ?_ | exact ex0 | (refine ret_s [] ?_; simp (decide := true) (disch := omega) only [go_sem, ↓reduceIte, ↓put_at]))))
              · by_cases k7 : (B.length : Int) ≥ Z.most
                · have hf : c = false := by rw [hc2, decide_eq_false_iff_not]; exact fun q => absurd q.2.2.2.1 (by omega)
                  rw [hf, if_neg (by decide)]
                  (repeat' ((first | refine sp_ ?_ | exact ex0 | (refine ret_s [] ?_; simp (decide := true) (disch := omega) only [go_sem, ↓reduceIte, ↓put_at]))))
                  (try simp only [hbe])
                  (repeat' ((first | refine sp_ ?_ | exact ex0 | (refine ret_s [] ?_; simp (decide := true) (disch := omega) only [go_sem, ↓reduceIte, ↓put_at]))))
                · by_cases k8 : ((s.length + sumB B : Nat) : Int) > Z.bytes
                  · have hf : c = false := by rw [hc2, decide_eq_false_iff_not]; exact fun q => absurd q.2.2.2.2 (by omega)
                    rw [hf, if_neg (by decide)]
                    (repeat' ((first | refine sp_ ?_ | exact ex0 | (refine ret_s [] ?_; simp (decide := true) (disch := omega) only [go_sem, ↓reduceIte, ↓put_at]))))
                    (try simp only [hbe])
                    (repeat' ((first | refine sp_ ?_ | exact ex0 | (refine ret_s [] ?_; simp (decide := true) (disch := omega) only [go_sem, ↓reduceIte, ↓put_at]))))
                  · have ht : c = true := by rw [hc2, decide_eq_true_eq]; exact ⟨hln.2 ⟨by omega, by omega, by omega⟩, k5, by omega, by omega, by omega⟩
                    rw [ht, if_pos rfl]
                    (repeat' ((first | refine sp_ ?_ | exact ex0 | (refine ret_s [] ?_; simp (decide := true) (disch := omega) only [go_sem, ↓reduceIte, ↓put_at]))))
                    (try simp only [hbe])
                    (repeat' ((first | refine sp_ ?_ | exact ex0 | (refine ret_s [] ?_; simp (decide := true) (disch := omega) only [go_sem, ↓reduceIte, ↓put_at]))))
                    refine ⟨⟨⟨by omega, by omega, oEl_len Z.l, oEl_one Z.l⟩, by first | exact rfl | (show _ = _; kernel_rfl)⟩, ⟨⟨by omega, by omega⟩, by rw [Nat.zero_add]⟩, ?_⟩
                    (repeat' ((first | refine sp_ ?_ | exact ex0 | (refine ret_s [] ?_; simp (decide := true) (disch := omega) only [go_sem, ↓reduceIte, ↓put_at]))))
                    (try simp)
--REST
end Go.Proofs.Ytdkgnlmojmafbaa
