/- Package report: Of. -/
import Derived.Test.YtiehcdcimllooaaQReport2
import Derived.Test.YtiehcdcimllooaaRG
namespace Go.Proofs.Ytiehcdcimllooaa
open Go.RowKit
set_option linter.unusedVariables false
set_option linter.unusedSimpArgs false

/-- So many blocks read, and what is left. -/
def rdBs : Nat → List UInt8 × Int → List B8
  | 0, _ => []
  | n + 1, x => rdB x :: rdBs n (nxB x)
def nxBs : Nat → List UInt8 × Int → List UInt8 × Int
  | 0, x => x
  | n + 1, x => nxBs n (nxB x)
theorem nxB_len (x : List UInt8 × Int) : (nxB x).1.length ≤ x.1.length := by
  unfold nxB
  exact Nat.le_trans (nx_len _ _) (Nat.le_trans (nx_len _ _) (Nat.le_trans (nx_len _ _) (Nat.le_trans (nx_len _ _) (Nat.le_trans (nx_len _ _) (Nat.le_trans (nx_len _ _) (nx_len _ _))))))
theorem nxS_len (x : List UInt8 × Int) : (nxS x).1.length ≤ x.1.length := by
  unfold nxS
  exact Nat.le_trans (nx_len _ _) (Nat.le_trans (nx_len _ _) (Nat.le_trans (nx_len _ _) (Nat.le_trans (nx_len _ _) (nx_len _ _))))
theorem rdBs_len (n : Nat) (x : List UInt8 × Int) : (rdBs n x).length = n := by
  induction n generalizing x with
  | zero => rfl
  | succ n ih => simp [rdBs, ih]
def cntN (n : Int) : Int := max 0 (min n 32)
/-- The report as it is read, before it is judged. -/
def rawR (p : Pc) : R8 :=
  ⟨vl 4 (p.2.2, 0), decide (p.2.1 = 200), if p.2.1 = 200 then rdS (nx 4 (p.2.2, 0)) else ⟨0, 0, 0, 0⟩,
    rdBs (cntN p.1).toNat (if p.2.1 = 200 then nxS (nx 4 (p.2.2, 0)) else nx 4 (p.2.2, 0))⟩
def rawX (p : Pc) : List UInt8 × Int := nxBs (cntN p.1).toNat (if p.2.1 = 200 then nxS (nx 4 (p.2.2, 0)) else nx 4 (p.2.2, 0))
def noR : R8 := ⟨0, false, ⟨0, 0, 0, 0⟩, []⟩
def ofE (p : Pc) : Int :=
  if p.2.1 ≠ 200 ∧ p.2.1 ≠ 201 then 5 else if endE (rawX p).1 (rawX p).2 ≠ 0 then endE (rawX p).1 (rawX p).2 else if mayR (rawR p) = true then 0 else 6
def ofR (p : Pc) : R8 := if ofE p = 0 then rawR p else noR
def r8V (r : R8) : V := .agg (r8L r)

set_option maxRecDepth 100000 in
set_option maxHeartbeats 4000000 in
theorem report_of (p : Pc) (hp : p.2.2.length ≤ maxLen) : Spec Try.prog 57 [.ca (.val (pcV p))] [] (.ca (.val (.tup [.agg (r8L (ofR p)), vi (ofE p)]))) [] := by
  obtain ⟨n, k, b⟩ := p
  dsimp only at hp
  have q1 := rd32 (b, 0) hp
  have l1 := Nat.le_trans (nx_len 4 (b, 0)) hp
  have q2 := report_sent (nx 4 (b, 0)) l1
  have l2 := Nat.le_trans (nxS_len (nx 4 (b, 0))) l1
  obtain ⟨E, hE⟩ : ∃ E, E = ofE (n, k, b) := ⟨_, rfl⟩
  obtain ⟨R, hR⟩ : ∃ R, R = ofR (n, k, b) := ⟨_, rfl⟩
  rw [← hE, ← hR]
  refine spec_of Try.func57 rfl Try.ntmps57 Try.results57 ⟨by decide, by simp⟩ fun C hC => ?_
  (repeat ((fail_if_success (refine stop_reg 1 ?_)); (first | refine aw_seq ?_ | refine aw_block ?_ | refine aw_reg hC (by kernel_rfl) ?_ | refine aw_regd hC Try.checked.mixed (by kernel_rfl) ?_ | refine chk_and (by kernel_rfl) ?_ | refine aw_skip ?_ | refine aw_if ?_ | refine And.intro (by first | omega | with_reducible assumption) ?_ | refine aw_exit ?_ | refine aw_ret ?_ | (simp (decide := true) (disch := omega) only [go_sem, ↓reduceIte, ↓put_at, reduceCtorEq, Nat.reduceAdd, Nat.reduceSub, Nat.reduceMul, Int.reduceToNat, Int.reducePow, Int.reduceAdd, Int.reduceSub, Int.reduceMul, Int.reduceNeg, Nat.min_eq_left, Nat.min_eq_right, Int.max_eq_left, Int.max_eq_right, Int.min_eq_left, Int.min_eq_right, Nat.reduceLeDiff]))))
  refine meet_s (α := {_x : Unit // k = 200 ∨ k = 201}) (fun _ => [(.s 1, .av (.ptr (1, 0) 0 0)), (.o (1, 0), .num 3), (.c (1, 0) 0, .av (.val (vi n))), (.c (1, 0) 1, .av (.val (vi k))), (.c (1, 0) 2, .av (.val (vs b))),
    (.s 2, .av (.ptr (2, 0) 0 0)), (.o (2, 0), .num 7), (.c (2, 0) 0, .av (.val (vu 0))), (.c (2, 0) 1, .av (.val (vb false))), (.c (2, 0) 2, .av (.val (vi 0))), (.c (2, 0) 3, .av (.val (vu 0))), (.c (2, 0) 4, .av (.val (vu 0))), (.c (2, 0) 5, .av (.val (vu 0))), (.c (2, 0) 6, .av (.val (.sc (.slice none 0 0)))), (.s 3, .av (.val (vi 0)))]) ?_ (fun x => ?_)
  · by_cases h1 : k = 200
    · subst h1
      (repeat (first | refine aw_seq ?_ | refine aw_block ?_ | refine aw_reg hC (by kernel_rfl) ?_ | refine aw_regd hC Try.checked.mixed (by kernel_rfl) ?_ | refine chk_and (by kernel_rfl) ?_ | refine aw_skip ?_ | refine aw_if ?_ | refine And.intro (by first | omega | with_reducible assumption) ?_ | refine aw_exit ?_ | refine aw_ret ?_ | (simp (decide := true) (disch := omega) only [go_sem, ↓reduceIte, ↓put_at, reduceCtorEq, Nat.reduceAdd, Nat.reduceSub, Nat.reduceMul, Int.reduceToNat, Int.reducePow, Int.reduceAdd, Int.reduceSub, Int.reduceMul, Int.reduceNeg, Nat.min_eq_left, Nat.min_eq_right, Int.max_eq_left, Int.max_eq_right, Int.min_eq_left, Int.min_eq_right, Nat.reduceLeDiff])))
      refine at_meet ⟨(), .inl rfl⟩ ?_
      simp (decide := true) (disch := omega) only [go_sem, ↓reduceIte, ↓put_at, reduceCtorEq, Nat.reduceAdd, Nat.reduceSub, Nat.reduceMul, Int.reduceToNat, Int.reducePow, Int.reduceAdd, Int.reduceSub, Int.reduceMul, Int.reduceNeg, Nat.min_eq_left, Nat.min_eq_right, Int.max_eq_left, Int.max_eq_right, Int.min_eq_left, Int.min_eq_right, Nat.reduceLeDiff]
    by_cases h2 : k = 201
    · subst h2
      (repeat (first | refine aw_seq ?_ | refine aw_block ?_ | refine aw_reg hC (by kernel_rfl) ?_ | refine aw_regd hC Try.checked.mixed (by kernel_rfl) ?_ | refine chk_and (by kernel_rfl) ?_ | refine aw_skip ?_ | refine aw_if ?_ | refine And.intro (by first | omega | with_reducible assumption) ?_ | refine aw_exit ?_ | refine aw_ret ?_ | (simp (decide := true) (disch := omega) only [go_sem, ↓reduceIte, ↓put_at, reduceCtorEq, Nat.reduceAdd, Nat.reduceSub, Nat.reduceMul, Int.reduceToNat, Int.reducePow, Int.reduceAdd, Int.reduceSub, Int.reduceMul, Int.reduceNeg, Nat.min_eq_left, Nat.min_eq_right, Int.max_eq_left, Int.max_eq_right, Int.min_eq_left, Int.min_eq_right, Nat.reduceLeDiff])))
      refine at_meet ⟨(), .inr rfl⟩ ?_
      simp (decide := true) (disch := omega) only [go_sem, ↓reduceIte, ↓put_at, reduceCtorEq, Nat.reduceAdd, Nat.reduceSub, Nat.reduceMul, Int.reduceToNat, Int.reducePow, Int.reduceAdd, Int.reduceSub, Int.reduceMul, Int.reduceNeg, Nat.min_eq_left, Nat.min_eq_right, Int.max_eq_left, Int.max_eq_right, Int.min_eq_left, Int.min_eq_right, Nat.reduceLeDiff]
    · have e : ofE (n, k, b) = 5 := by unfold ofE; rw [if_pos ⟨h1, h2⟩]
      rw [e] at hE
      have e2 : ofR (n, k, b) = noR := by unfold ofR; rw [e]; rfl
      rw [e2] at hR
      subst hE hR
      (repeat (first | refine aw_seq ?_ | refine aw_block ?_ | refine aw_reg hC (by kernel_rfl) ?_ | refine aw_regd hC Try.checked.mixed (by kernel_rfl) ?_ | refine chk_and (by kernel_rfl) ?_ | refine aw_skip ?_ | refine aw_if ?_ | refine And.intro (by first | omega | with_reducible assumption) ?_ | refine aw_exit ?_ | refine aw_ret ?_ | (simp (decide := true) (disch := omega) only [go_sem, ↓reduceIte, ↓put_at, reduceCtorEq, Nat.reduceAdd, Nat.reduceSub, Nat.reduceMul, Int.reduceToNat, Int.reducePow, Int.reduceAdd, Int.reduceSub, Int.reduceMul, Int.reduceNeg, Nat.min_eq_left, Nat.min_eq_right, Int.max_eq_left, Int.max_eq_right, Int.min_eq_left, Int.min_eq_right, Nat.reduceLeDiff])))
      (refine ret_s [] ?_; simp (decide := true) (disch := omega) only [go_sem, ↓reduceIte, ↓put_at, reduceCtorEq, Nat.reduceAdd, Nat.reduceSub, Nat.reduceMul, Int.reduceToNat, Int.reducePow, Int.reduceAdd, Int.reduceSub, Int.reduceMul, Int.reduceNeg, Nat.min_eq_left, Nat.min_eq_right, Int.max_eq_left, Int.max_eq_right, Int.min_eq_left, Int.min_eq_right, Nat.reduceLeDiff])
  obtain ⟨_, hk⟩ := x
  have hofE : ofE (n, k, b) = if endE (rawX (n, k, b)).1 (rawX (n, k, b)).2 ≠ 0 then endE (rawX (n, k, b)).1 (rawX (n, k, b)).2 else if mayR (rawR (n, k, b)) = true then 0 else 6 := by
    unfold ofE; rw [if_neg (by dsimp only; omega)]
  rw [hofE] at hE
  unfold ofR at hR
  rw [hofE, ← hE] at hR
  unfold rawR rawX at hE
  unfold rawR at hR
  dsimp only at hE hR
  obtain ⟨src, hsrc⟩ : ∃ x, x = vl 4 (b, 0) := ⟨_, rfl⟩
  obtain ⟨is, his⟩ : ∃ x, x = decide (k = 200) := ⟨_, rfl⟩
  obtain ⟨st, hst⟩ : ∃ x, x = if k = 200 then rdS (nx 4 (b, 0)) else ⟨0, 0, 0, 0⟩ := ⟨_, rfl⟩
  obtain ⟨x0, hx0⟩ : ∃ x, x = if k = 200 then nxS (nx 4 (b, 0)) else nx 4 (b, 0) := ⟨_, rfl⟩
  have hxl : x0.1.length ≤ maxLen := by rw [hx0]; split <;> assumption
  rw [← hst, ← hx0, ← hsrc, ← his] at hE hR
  rw [← hsrc] at q1
  have his' : (k == 200) = is := by rw [his]; rfl
  (repeat ((fail_if_success (refine stop_reg 5 ?_)); (first | refine aw_seq ?_ | refine aw_block ?_ | refine aw_reg hC (by kernel_rfl) ?_ | refine aw_regd hC Try.checked.mixed (by kernel_rfl) ?_ | refine chk_and (by kernel_rfl) ?_ | refine aw_skip ?_ | refine aw_if ?_ | refine And.intro (by first | omega | with_reducible assumption) ?_ | refine aw_exit ?_ | refine aw_ret ?_ | (simp (decide := true) (disch := omega) only [go_sem, ↓reduceIte, ↓put_at, reduceCtorEq, Nat.reduceAdd, Nat.reduceSub, Nat.reduceMul, Int.reduceToNat, Int.reducePow, Int.reduceAdd, Int.reduceSub, Int.reduceMul, Int.reduceNeg, Nat.min_eq_left, Nat.min_eq_right, Int.max_eq_left, Int.max_eq_right, Int.min_eq_left, Int.min_eq_right, Nat.reduceLeDiff]))))
  refine call_s Try.call17 (pen_of b) [] ?_
  (repeat (first | refine aw_seq ?_ | refine aw_block ?_ | refine aw_reg hC (by kernel_rfl) ?_ | refine aw_regd hC Try.checked.mixed (by kernel_rfl) ?_ | refine chk_and (by kernel_rfl) ?_ | refine aw_skip ?_ | refine aw_if ?_ | refine And.intro (by first | omega | with_reducible assumption) ?_ | refine aw_exit ?_ | refine aw_ret ?_ | (simp (decide := true) (disch := omega) only [go_sem, ↓reduceIte, ↓put_at, reduceCtorEq, Nat.reduceAdd, Nat.reduceSub, Nat.reduceMul, Int.reduceToNat, Int.reducePow, Int.reduceAdd, Int.reduceSub, Int.reduceMul, Int.reduceNeg, Nat.min_eq_left, Nat.min_eq_right, Int.max_eq_left, Int.max_eq_right, Int.min_eq_left, Int.min_eq_right, Nat.reduceLeDiff])))
  refine call_s Try.call26 q1 [(18, 0)] ?_
  (repeat ((fail_if_success (refine stop_reg 5 ?_)); (first | refine aw_seq ?_ | refine aw_block ?_ | refine aw_reg hC (by kernel_rfl) ?_ | refine aw_regd hC Try.checked.mixed (by kernel_rfl) ?_ | refine chk_and (by kernel_rfl) ?_ | refine aw_skip ?_ | refine aw_if ?_ | refine And.intro (by first | omega | with_reducible assumption) ?_ | refine aw_exit ?_ | refine aw_ret ?_ | (simp (decide := true) (disch := omega) only [go_sem, ↓reduceIte, ↓put_at, reduceCtorEq, Nat.reduceAdd, Nat.reduceSub, Nat.reduceMul, Int.reduceToNat, Int.reducePow, Int.reduceAdd, Int.reduceSub, Int.reduceMul, Int.reduceNeg, Nat.min_eq_left, Nat.min_eq_right, Int.max_eq_left, Int.max_eq_right, Int.min_eq_left, Int.min_eq_right, Nat.reduceLeDiff]))))
  refine meet_s (α := {_x : Unit // True}) (fun _ => [(.s 1, .av (.ptr (1, 0) 0 0)), (.o (1, 0), .num 3), (.c (1, 0) 0, .av (.val (vi n))), (.s 2, .av (.ptr (2, 0) 0 0)), (.o (2, 0), .num 7), (.c (2, 0) 0, .av (.val (vu 0))), (.c (2, 0) 1, .av (.val (vb false))), (.c (2, 0) 2, .av (.val (vi 0))), (.c (2, 0) 3, .av (.val (vu 0))), (.c (2, 0) 4, .av (.val (vu 0))), (.c (2, 0) 5, .av (.val (vu 0))), (.c (2, 0) 6, .av (.val (.sc (.slice none 0 0)))), (.s 3, .av (.val (vi 0))), (.o (18, 0), .num 2), (.c (18, 0) 0, .av (.val (vs x0.1))), (.c (18, 0) 1, .av (.val (vi x0.2))), (.s 4, .av (.ptr (18, 0) 0 0)), (.o (5, 0), .num 7), (.c (5, 0) 0, .av (.val (vu src))), (.c (5, 0) 1, .av (.val (vb is))), (.c (5, 0) 2, .av (.val (vi st.clock))), (.c (5, 0) 3, .av (.val (vu st.time))), (.c (5, 0) 4, .av (.val (vu st.packets))), (.c (5, 0) 5, .av (.val (vu st.bytes))), (.c (5, 0) 6, .av (.val (.sc (.slice none 0 0)))), (.s 5, .av (.ptr (5, 0) 0 0))]) ?_ (fun _ => ?_)
  · rcases hk with rfl | rfl
    · rw [if_pos rfl] at hst hx0
      rw [decide_eq_true rfl] at his
      subst his
      (repeat (first | refine aw_seq ?_ | refine aw_block ?_ | refine aw_reg hC (by kernel_rfl) ?_ | refine aw_regd hC Try.checked.mixed (by kernel_rfl) ?_ | refine chk_and (by kernel_rfl) ?_ | refine aw_skip ?_ | refine aw_if ?_ | refine And.intro (by first | omega | with_reducible assumption) ?_ | refine aw_exit ?_ | refine aw_ret ?_ | (simp (decide := true) (disch := omega) only [go_sem, ↓reduceIte, ↓put_at, reduceCtorEq, Nat.reduceAdd, Nat.reduceSub, Nat.reduceMul, Int.reduceToNat, Int.reducePow, Int.reduceAdd, Int.reduceSub, Int.reduceMul, Int.reduceNeg, Nat.min_eq_left, Nat.min_eq_right, Int.max_eq_left, Int.max_eq_right, Int.min_eq_left, Int.min_eq_right, Nat.reduceLeDiff])))
      refine call_s Try.call78 q2 [(18, 0)] ?_
      (repeat (first | refine aw_seq ?_ | refine aw_block ?_ | refine aw_reg hC (by kernel_rfl) ?_ | refine aw_regd hC Try.checked.mixed (by kernel_rfl) ?_ | refine chk_and (by kernel_rfl) ?_ | refine aw_skip ?_ | refine aw_if ?_ | refine And.intro (by first | omega | with_reducible assumption) ?_ | refine aw_exit ?_ | refine aw_ret ?_ | (simp (decide := true) (disch := omega) only [go_sem, ↓reduceIte, ↓put_at, reduceCtorEq, Nat.reduceAdd, Nat.reduceSub, Nat.reduceMul, Int.reduceToNat, Int.reducePow, Int.reduceAdd, Int.reduceSub, Int.reduceMul, Int.reduceNeg, Nat.min_eq_left, Nat.min_eq_right, Int.max_eq_left, Int.max_eq_right, Int.min_eq_left, Int.min_eq_right, Nat.reduceLeDiff])))
      subst hst hx0
      refine at_meet ⟨(), trivial⟩ ?_
      simp (decide := true) (disch := omega) only [go_sem, ↓reduceIte, ↓put_at, reduceCtorEq, Nat.reduceAdd, Nat.reduceSub, Nat.reduceMul, Int.reduceToNat, Int.reducePow, Int.reduceAdd, Int.reduceSub, Int.reduceMul, Int.reduceNeg, Nat.min_eq_left, Nat.min_eq_right, Int.max_eq_left, Int.max_eq_right, Int.min_eq_left, Int.min_eq_right, Nat.reduceLeDiff]
    · rw [if_neg (by decide)] at hst hx0
      rw [decide_eq_false (by decide)] at his
      subst his
      (repeat (first | refine aw_seq ?_ | refine aw_block ?_ | refine aw_reg hC (by kernel_rfl) ?_ | refine aw_regd hC Try.checked.mixed (by kernel_rfl) ?_ | refine chk_and (by kernel_rfl) ?_ | refine aw_skip ?_ | refine aw_if ?_ | refine And.intro (by first | omega | with_reducible assumption) ?_ | refine aw_exit ?_ | refine aw_ret ?_ | (simp (decide := true) (disch := omega) only [go_sem, ↓reduceIte, ↓put_at, reduceCtorEq, Nat.reduceAdd, Nat.reduceSub, Nat.reduceMul, Int.reduceToNat, Int.reducePow, Int.reduceAdd, Int.reduceSub, Int.reduceMul, Int.reduceNeg, Nat.min_eq_left, Nat.min_eq_right, Int.max_eq_left, Int.max_eq_right, Int.min_eq_left, Int.min_eq_right, Nat.reduceLeDiff])))
      subst hst hx0
      refine at_meet ⟨(), trivial⟩ ?_
      simp (decide := true) (disch := omega) only [go_sem, ↓reduceIte, ↓put_at, reduceCtorEq, Nat.reduceAdd, Nat.reduceSub, Nat.reduceMul, Int.reduceToNat, Int.reducePow, Int.reduceAdd, Int.reduceSub, Int.reduceMul, Int.reduceNeg, Nat.min_eq_left, Nat.min_eq_right, Int.max_eq_left, Int.max_eq_right, Int.min_eq_left, Int.min_eq_right, Nat.reduceLeDiff]
  obtain ⟨N, hN⟩ : ∃ N, N = (cntN n).toNat := ⟨_, rfl⟩
  have hcn : max 0 (min n 32) = (N : Int) := by unfold cntN at hN; omega
  have hN32 : N ≤ 32 := by unfold cntN at hN; omega
  obtain ⟨BS, hBS⟩ : ∃ x, x = rdBs N x0 := ⟨_, rfl⟩
  obtain ⟨XF, hXF⟩ : ∃ x, x = nxBs N x0 := ⟨_, rfl⟩
  rw [← hN, ← hBS, ← hXF] at hE
  rw [← hN, ← hBS] at hR
  (repeat (first | refine aw_seq ?_ | refine aw_block ?_ | refine aw_reg hC (by kernel_rfl) ?_ | refine aw_regd hC Try.checked.mixed (by kernel_rfl) ?_ | refine chk_and (by kernel_rfl) ?_ | refine aw_skip ?_ | refine aw_if ?_ | refine And.intro (by first | omega | with_reducible assumption) ?_ | refine aw_exit ?_ | refine aw_ret ?_ | (simp (decide := true) (disch := omega) only [go_sem, ↓reduceIte, ↓put_at, reduceCtorEq, Nat.reduceAdd, Nat.reduceSub, Nat.reduceMul, Int.reduceToNat, Int.reducePow, Int.reduceAdd, Int.reduceSub, Int.reduceMul, Int.reduceNeg, Nat.min_eq_left, Nat.min_eq_right, Int.max_eq_left, Int.max_eq_right, Int.min_eq_left, Int.min_eq_right, Nat.reduceLeDiff])))
  refine own_c (5, 0) 6 (5, 7) 112 7 ?_
  simp (decide := true) (disch := omega) only [go_sem, ↓reduceIte, ↓put_at, reduceCtorEq, Nat.reduceAdd, Nat.reduceSub, Nat.reduceMul, Int.reduceToNat, Int.reducePow, Int.reduceAdd, Int.reduceSub, Int.reduceMul, Int.reduceNeg, Nat.min_eq_left, Nat.min_eq_right, Int.max_eq_left, Int.max_eq_right, Int.min_eq_left, Int.min_eq_right, Nat.reduceLeDiff]
  refine loop_s (α := {y : Nat × (List UInt8 × Int) × List B8 // y.1 ≤ N ∧ y.2.1.1.length ≤ maxLen ∧ y.2.2.length = y.1 ∧ y.2.2 ++ rdBs (N - y.1) y.2.1 = BS ∧ nxBs (N - y.1) y.2.1 = XF}) (fun y => [(.s 1, .av (.ptr (1, 0) 0 0)), (.o (1, 0), .num 3), (.c (1, 0) 0, .av (.val (vi n))), (.s 2, .av (.ptr (2, 0) 0 0)), (.o (2, 0), .num 7), (.c (2, 0) 0, .av (.val (vu 0))), (.c (2, 0) 1, .av (.val (vb false))), (.c (2, 0) 2, .av (.val (vi 0))), (.c (2, 0) 3, .av (.val (vu 0))), (.c (2, 0) 4, .av (.val (vu 0))), (.c (2, 0) 5, .av (.val (vu 0))), (.c (2, 0) 6, .av (.val (.sc (.slice none 0 0)))), (.s 3, .av (.val (vi 0))), (.o (18, 0), .num 2), (.c (18, 0) 0, .av (.val (vs y.1.2.1.1))), (.c (18, 0) 1, .av (.val (vi y.1.2.1.2))), (.s 4, .av (.ptr (18, 0) 0 0)), (.o (5, 0), .num 7), (.c (5, 0) 0, .av (.val (vu src))), (.c (5, 0) 1, .av (.val (vb is))), (.c (5, 0) 2, .av (.val (vi st.clock))), (.c (5, 0) 3, .av (.val (vu st.time))), (.c (5, 0) 4, .av (.val (vu st.packets))), (.c (5, 0) 5, .av (.val (vu st.bytes))), (.c (5, 0) 6, .av (.own (5, 7) 0 112 7 (y.1.2.2.map b8El))), (.s 5, .av (.ptr (5, 0) 0 0)), (.k (5, 7), .row 112 7 y.1.2.2.length), (.s 33, .av (.val (vi N))), (.s 34, .av (.val (vi y.1.1)))]) (fun y => N - y.1.1) ⟨(0, x0, []), Nat.zero_le _, hxl, rfl, hBS.symm, hXF.symm⟩ ?_ (fun y => ?_)
  · simp only [List.map_nil]
    simp (decide := true) (disch := omega) only [go_sem, ↓reduceIte, ↓put_at, reduceCtorEq, Nat.reduceAdd, Nat.reduceSub, Nat.reduceMul, Int.reduceToNat, Int.reducePow, Int.reduceAdd, Int.reduceSub, Int.reduceMul, Int.reduceNeg, Nat.min_eq_left, Nat.min_eq_right, Int.max_eq_left, Int.max_eq_right, Int.min_eq_left, Int.min_eq_right, Nat.reduceLeDiff]
    exact hcn
  · obtain ⟨⟨j, x, acc⟩, hj, hxl', hac, hb1, hb2⟩ := y
    dsimp only at hj hxl' hac hb1 hb2 ⊢
    by_cases hlt : j < N
    · have hbl := report_block x hxl'
      have hnl := Nat.le_trans (nxB_len x) hxl'
      obtain ⟨m, hm⟩ : ∃ m, N - j = m + 1 := ⟨N - j - 1, by omega⟩
      have hm2 : N - (j + 1) = m := by omega
      rw [hm] at hb1 hb2
      rw [rdBs] at hb1
      rw [nxBs] at hb2
      (repeat (first | refine aw_seq ?_ | refine aw_block ?_ | refine aw_reg hC (by kernel_rfl) ?_ | refine aw_regd hC Try.checked.mixed (by kernel_rfl) ?_ | refine chk_and (by kernel_rfl) ?_ | refine aw_skip ?_ | refine aw_if ?_ | refine And.intro (by first | omega | with_reducible assumption) ?_ | refine aw_exit ?_ | refine aw_ret ?_ | (simp (decide := true) (disch := omega) only [go_sem, ↓reduceIte, ↓put_at, reduceCtorEq, Nat.reduceAdd, Nat.reduceSub, Nat.reduceMul, Int.reduceToNat, Int.reducePow, Int.reduceAdd, Int.reduceSub, Int.reduceMul, Int.reduceNeg, Nat.min_eq_left, Nat.min_eq_right, Int.max_eq_left, Int.max_eq_right, Int.min_eq_left, Int.min_eq_right, Nat.reduceLeDiff])))
      refine call_s Try.call79 hbl [(18, 0)] ?_
      (repeat (first | refine aw_seq ?_ | refine aw_block ?_ | refine aw_reg hC (by kernel_rfl) ?_ | refine aw_regd hC Try.checked.mixed (by kernel_rfl) ?_ | refine chk_and (by kernel_rfl) ?_ | refine aw_skip ?_ | refine aw_if ?_ | refine And.intro (by first | omega | with_reducible assumption) ?_ | refine aw_exit ?_ | refine aw_ret ?_ | (simp (decide := true) (disch := omega) only [go_sem, ↓reduceIte, ↓put_at, reduceCtorEq, Nat.reduceAdd, Nat.reduceSub, Nat.reduceMul, Int.reduceToNat, Int.reducePow, Int.reduceAdd, Int.reduceSub, Int.reduceMul, Int.reduceNeg, Nat.min_eq_left, Nat.min_eq_right, Int.max_eq_left, Int.max_eq_right, Int.min_eq_left, Int.min_eq_right, Nat.reduceLeDiff])))
      refine next_s ⟨(j + 1, nxB x, acc ++ [rdB x]), hlt, hnl, by simp [hac], by dsimp only; rw [hm2, List.append_assoc]; exact hb1, by dsimp only; rw [hm2]; exact hb2⟩ ⟨?_, by dsimp only; omega⟩
      simp (decide := true) (disch := omega) only [go_sem, ↓reduceIte, ↓put_at, reduceCtorEq, Nat.reduceAdd, Nat.reduceSub, Nat.reduceMul, Int.reduceToNat, Int.reducePow, Int.reduceAdd, Int.reduceSub, Int.reduceMul, Int.reduceNeg, Nat.min_eq_left, Nat.min_eq_right, Int.max_eq_left, Int.max_eq_right, Int.min_eq_left, Int.min_eq_right, Nat.reduceLeDiff]
      rw [List.map_append]; rfl
    · have hjN : N - j = 0 := by omega
      rw [hjN] at hb1 hb2
      simp only [rdBs, nxBs, List.append_nil] at hb1 hb2
      clear hBS hXF
      subst hb1 hb2
      have c1 := in_end x.1 x.2
      have c2 := report_check ⟨src, is, st, acc⟩ (by dsimp only; omega)
      obtain ⟨e, he⟩ : ∃ e, e = endE x.1 x.2 := ⟨_, rfl⟩
      rw [← he] at hE c1
      by_cases h0 : e = 0
      · rw [if_neg (by simpa using h0)] at hE
        subst h0
        cases hm : mayR ⟨src, is, st, acc⟩ with
        | false =>
          rw [hm, if_neg (by decide)] at hE c2
          subst hE
          rw [if_neg (by decide)] at hR
          subst hR
          (repeat (first | refine aw_seq ?_ | refine aw_block ?_ | refine aw_reg hC (by kernel_rfl) ?_ | refine aw_regd hC Try.checked.mixed (by kernel_rfl) ?_ | refine chk_and (by kernel_rfl) ?_ | refine aw_skip ?_ | refine aw_if ?_ | refine And.intro (by first | omega | with_reducible assumption) ?_ | refine aw_exit ?_ | refine aw_ret ?_ | (simp (decide := true) (disch := omega) only [go_sem, ↓reduceIte, ↓put_at, reduceCtorEq, Nat.reduceAdd, Nat.reduceSub, Nat.reduceMul, Int.reduceToNat, Int.reducePow, Int.reduceAdd, Int.reduceSub, Int.reduceMul, Int.reduceNeg, Nat.min_eq_left, Nat.min_eq_right, Int.max_eq_left, Int.max_eq_right, Int.min_eq_left, Int.min_eq_right, Nat.reduceLeDiff])))
          refine call_s Try.call21 c1 [(18, 0)] ?_
          (repeat (first | refine aw_seq ?_ | refine aw_block ?_ | refine aw_reg hC (by kernel_rfl) ?_ | refine aw_regd hC Try.checked.mixed (by kernel_rfl) ?_ | refine chk_and (by kernel_rfl) ?_ | refine aw_skip ?_ | refine aw_if ?_ | refine And.intro (by first | omega | with_reducible assumption) ?_ | refine aw_exit ?_ | refine aw_ret ?_ | (simp (decide := true) (disch := omega) only [go_sem, ↓reduceIte, ↓put_at, reduceCtorEq, Nat.reduceAdd, Nat.reduceSub, Nat.reduceMul, Int.reduceToNat, Int.reducePow, Int.reduceAdd, Int.reduceSub, Int.reduceMul, Int.reduceNeg, Nat.min_eq_left, Nat.min_eq_right, Int.max_eq_left, Int.max_eq_right, Int.min_eq_left, Int.min_eq_right, Nat.reduceLeDiff])))
          refine call_s Try.call63 c2 [] ?_
          (repeat (first | refine aw_seq ?_ | refine aw_block ?_ | refine aw_reg hC (by kernel_rfl) ?_ | refine aw_regd hC Try.checked.mixed (by kernel_rfl) ?_ | refine chk_and (by kernel_rfl) ?_ | refine aw_skip ?_ | refine aw_if ?_ | refine And.intro (by first | omega | with_reducible assumption) ?_ | refine aw_exit ?_ | refine aw_ret ?_ | (simp (decide := true) (disch := omega) only [go_sem, ↓reduceIte, ↓put_at, reduceCtorEq, Nat.reduceAdd, Nat.reduceSub, Nat.reduceMul, Int.reduceToNat, Int.reducePow, Int.reduceAdd, Int.reduceSub, Int.reduceMul, Int.reduceNeg, Nat.min_eq_left, Nat.min_eq_right, Int.max_eq_left, Int.max_eq_right, Int.min_eq_left, Int.min_eq_right, Nat.reduceLeDiff])))
          (refine ret_s [] ?_; simp (decide := true) (disch := omega) only [go_sem, ↓reduceIte, ↓put_at, reduceCtorEq, Nat.reduceAdd, Nat.reduceSub, Nat.reduceMul, Int.reduceToNat, Int.reducePow, Int.reduceAdd, Int.reduceSub, Int.reduceMul, Int.reduceNeg, Nat.min_eq_left, Nat.min_eq_right, Int.max_eq_left, Int.max_eq_right, Int.min_eq_left, Int.min_eq_right, Nat.reduceLeDiff])
        | true =>
          rw [hm, if_pos rfl] at hE c2
          subst hE
          rw [if_pos rfl] at hR
          subst hR
          (repeat (first | refine aw_seq ?_ | refine aw_block ?_ | refine aw_reg hC (by kernel_rfl) ?_ | refine aw_regd hC Try.checked.mixed (by kernel_rfl) ?_ | refine chk_and (by kernel_rfl) ?_ | refine aw_skip ?_ | refine aw_if ?_ | refine And.intro (by first | omega | with_reducible assumption) ?_ | refine aw_exit ?_ | refine aw_ret ?_ | (simp (decide := true) (disch := omega) only [go_sem, ↓reduceIte, ↓put_at, reduceCtorEq, Nat.reduceAdd, Nat.reduceSub, Nat.reduceMul, Int.reduceToNat, Int.reducePow, Int.reduceAdd, Int.reduceSub, Int.reduceMul, Int.reduceNeg, Nat.min_eq_left, Nat.min_eq_right, Int.max_eq_left, Int.max_eq_right, Int.min_eq_left, Int.min_eq_right, Nat.reduceLeDiff])))
          refine call_s Try.call21 c1 [(18, 0)] ?_
          (repeat (first | refine aw_seq ?_ | refine aw_block ?_ | refine aw_reg hC (by kernel_rfl) ?_ | refine aw_regd hC Try.checked.mixed (by kernel_rfl) ?_ | refine chk_and (by kernel_rfl) ?_ | refine aw_skip ?_ | refine aw_if ?_ | refine And.intro (by first | omega | with_reducible assumption) ?_ | refine aw_exit ?_ | refine aw_ret ?_ | (simp (decide := true) (disch := omega) only [go_sem, ↓reduceIte, ↓put_at, reduceCtorEq, Nat.reduceAdd, Nat.reduceSub, Nat.reduceMul, Int.reduceToNat, Int.reducePow, Int.reduceAdd, Int.reduceSub, Int.reduceMul, Int.reduceNeg, Nat.min_eq_left, Nat.min_eq_right, Int.max_eq_left, Int.max_eq_right, Int.min_eq_left, Int.min_eq_right, Nat.reduceLeDiff])))
          refine call_s Try.call63 c2 [] ?_
          (repeat (first | refine aw_seq ?_ | refine aw_block ?_ | refine aw_reg hC (by kernel_rfl) ?_ | refine aw_regd hC Try.checked.mixed (by kernel_rfl) ?_ | refine chk_and (by kernel_rfl) ?_ | refine aw_skip ?_ | refine aw_if ?_ | refine And.intro (by first | omega | with_reducible assumption) ?_ | refine aw_exit ?_ | refine aw_ret ?_ | (simp (decide := true) (disch := omega) only [go_sem, ↓reduceIte, ↓put_at, reduceCtorEq, Nat.reduceAdd, Nat.reduceSub, Nat.reduceMul, Int.reduceToNat, Int.reducePow, Int.reduceAdd, Int.reduceSub, Int.reduceMul, Int.reduceNeg, Nat.min_eq_left, Nat.min_eq_right, Int.max_eq_left, Int.max_eq_right, Int.min_eq_left, Int.min_eq_right, Nat.reduceLeDiff])))
          (refine ret_s [] ?_; simp (decide := true) (disch := omega) only [go_sem, ↓reduceIte, ↓put_at, reduceCtorEq, Nat.reduceAdd, Nat.reduceSub, Nat.reduceMul, Int.reduceToNat, Int.reducePow, Int.reduceAdd, Int.reduceSub, Int.reduceMul, Int.reduceNeg, Nat.min_eq_left, Nat.min_eq_right, Int.max_eq_left, Int.max_eq_right, Int.min_eq_left, Int.min_eq_right, Nat.reduceLeDiff])
      · rw [if_pos h0] at hE
        subst hE
        rw [if_neg h0] at hR
        subst hR
        (repeat (first | refine aw_seq ?_ | refine aw_block ?_ | refine aw_reg hC (by kernel_rfl) ?_ | refine aw_regd hC Try.checked.mixed (by kernel_rfl) ?_ | refine chk_and (by kernel_rfl) ?_ | refine aw_skip ?_ | refine aw_if ?_ | refine And.intro (by first | omega | with_reducible assumption) ?_ | refine aw_exit ?_ | refine aw_ret ?_ | (simp (decide := true) (disch := omega) only [go_sem, ↓reduceIte, ↓put_at, reduceCtorEq, Nat.reduceAdd, Nat.reduceSub, Nat.reduceMul, Int.reduceToNat, Int.reducePow, Int.reduceAdd, Int.reduceSub, Int.reduceMul, Int.reduceNeg, Nat.min_eq_left, Nat.min_eq_right, Int.max_eq_left, Int.max_eq_right, Int.min_eq_left, Int.min_eq_right, Nat.reduceLeDiff])))
        refine call_s Try.call21 c1 [(18, 0)] ?_
        (repeat (first | refine aw_seq ?_ | refine aw_block ?_ | refine aw_reg hC (by kernel_rfl) ?_ | refine aw_regd hC Try.checked.mixed (by kernel_rfl) ?_ | refine chk_and (by kernel_rfl) ?_ | refine aw_skip ?_ | refine aw_if ?_ | refine And.intro (by first | omega | with_reducible assumption) ?_ | refine aw_exit ?_ | refine aw_ret ?_ | (simp (decide := true) (disch := omega) only [go_sem, ↓reduceIte, ↓put_at, reduceCtorEq, Nat.reduceAdd, Nat.reduceSub, Nat.reduceMul, Int.reduceToNat, Int.reducePow, Int.reduceAdd, Int.reduceSub, Int.reduceMul, Int.reduceNeg, Nat.min_eq_left, Nat.min_eq_right, Int.max_eq_left, Int.max_eq_right, Int.min_eq_left, Int.min_eq_right, Nat.reduceLeDiff])))
        (refine ret_s [] ?_; simp (decide := true) (disch := omega) only [go_sem, ↓reduceIte, ↓put_at, reduceCtorEq, Nat.reduceAdd, Nat.reduceSub, Nat.reduceMul, Int.reduceToNat, Int.reducePow, Int.reduceAdd, Int.reduceSub, Int.reduceMul, Int.reduceNeg, Nat.min_eq_left, Nat.min_eq_right, Int.max_eq_left, Int.max_eq_right, Int.min_eq_left, Int.min_eq_right, Nat.reduceLeDiff])
end Go.Proofs.Ytiehcdcimllooaa
