
/- Package exts: its rules, their map. -/
import Derived.Test.YtojcjbaimdjhoaaExtsM
import Derived.Test.YtojcjbaimdjhoaaRJ
namespace Go.Proofs.Ytojcjbaimdjhoaa
open Go.RowKit
set_option linter.unusedVariables false
set_option linter.unusedSimpArgs false

abbrev vfn (K : FuncId) : V := .sc (.func (.func K) #[] #[])
def hdK (f : Nat) : FuncId := if f = 1 then 16 else 19
def rdK (f : Nat) : FuncId := if f = 1 then 18 else 20
abbrev rulesV (f : Nat) : List V := [vi (prof f), vi (mostId f), vi (leastL f), vi (mostL f), vfn (hdK f), vfn (rdK f)]
def formsK : List (Value × T) := [(.int .i64 1, .av (.agg (rulesV 1))), (.int .i64 2, .av (.agg (rulesV 2)))]
abbrev e5L (x : E5) : List V := [vi x.id, vs x.data]
def e5El (x : E5) : List V := e5L x
attribute [go_sem] e5El
set_option maxRecDepth 100000 in
theorem exts_forms : Spec Try.prog 10 [] [] (.ca (.hd (.mp formsK))) [] := by
  refine spec_of Try.func10 rfl Try.ntmps10 Try.results10 ⟨by decide, by simp⟩ fun C hC => ?_
  (repeat (first | refine aw_seq ?_ | refine aw_block ?_ | refine aw_reg hC (by kernel_rfl) ?_ | refine aw_regd hC Try.checked.mixed (by kernel_rfl) ?_ | refine chk_and (by kernel_rfl) ?_ | refine aw_skip ?_ | refine aw_if ?_ | refine And.intro (by first | omega | with_reducible assumption) ?_ | refine aw_exit ?_ | refine aw_ret ?_ | (simp (decide := true) (disch := omega) only [go_sem, ↓reduceIte, ↓put_at, reduceCtorEq, Nat.reduceAdd, Nat.reduceSub, Nat.reduceMul, Int.reduceToNat, Int.reducePow, Int.reduceAdd, Int.reduceSub, Int.reduceMul, Int.reduceNeg, Nat.min_eq_left, Nat.min_eq_right, Int.max_eq_left, Int.max_eq_right, Int.min_eq_left, Int.min_eq_right, Nat.reduceLeDiff])))
  (refine ret_s [] ?_; simp (decide := true) (disch := omega) only [go_sem, ↓reduceIte, ↓put_at, reduceCtorEq, Nat.reduceAdd, Nat.reduceSub, Nat.reduceMul, Int.reduceToNat, Int.reducePow, Int.reduceAdd, Int.reduceSub, Int.reduceMul, Int.reduceNeg, Nat.min_eq_left, Nat.min_eq_right, Int.max_eq_left, Int.max_eq_right, Int.min_eq_left, Int.min_eq_right, Nat.reduceLeDiff])
  rfl
theorem forms_get {f : Nat} (h : f = 1 ∨ f = 2) : kvGet formsK (.int .i64 f) = some (.av (.agg (rulesV f))) := by
  unfold formsK
  rcases h with rfl | rfl
  · rw [kvGet_cons, if_pos (by rfl)]
  · rw [kvGet_cons, if_neg (by simp), kvGet_cons, if_pos (by rfl)]
theorem forms_none {n : Int} (h : formOk n = 0) : kvGet formsK (.int .i64 n) = none := by
  have h1 : n ≠ 1 := fun e => by subst e; cases h
  have h2 : n ≠ 2 := fun e => by subst e; cases h
  unfold formsK
  rw [kvGet_cons, if_neg (by simp [Ne.symm h1]), kvGet_cons, if_neg (by simp [Ne.symm h2]), kvGet_nil]
theorem forms_keys : keysIs (.int .i64) (formsK.map (·.1)) := ⟨rfl, rfl, trivial⟩
set_option maxRecDepth 100000 in
theorem exts_head1 (x : E5) (hx : may5 1 x = true) (l : List UInt8) (hl : l.length ≤ 1099511627776) : Spec Try.prog 16 [.ptr 0 0, .ca (.val (.agg (e5L x)))] [outO l] (.ca (.val (.tup []))) [outO (l ++ head5 1 x)] := by
  obtain ⟨i, d⟩ := x
  obtain ⟨h1, h2, h3, h4⟩ := (may5_iff _ _).1 hx
  have m1 : mostId 1 = 14 := rfl
  have m2 : mostL 1 = 16 := rfl
  have m3 : leastL 1 = 1 := rfl
  dsimp only at h1 h2 h3 h4 ⊢
  have c := out_u8 l [16 * i + (d.length : Int) - 1] (by simp only [List.length_cons, List.length_nil]; omega)
  have e : puts' 1 [16 * i + (d.length : Int) - 1] = head5 1 ⟨i, d⟩ := by simp [puts', head5]
  have b : bits .or .i64 (i * 16) ((d.length : Int) - 1) = 16 * i + (d.length : Int) - 1 := by
    rw [i64_join 4 _ _ (by omega) (by omega) (by omega) (by omega) (by omega) (by omega)]; omega
  rw [e] at c
  refine spec_of Try.func16 rfl Try.ntmps16 Try.results16 ⟨by decide, by simp⟩ fun C hC => ?_
  (repeat (first | refine aw_seq ?_ | refine aw_block ?_ | refine aw_reg hC (by kernel_rfl) ?_ | refine aw_regd hC Try.checked.mixed (by kernel_rfl) ?_ | refine chk_and (by kernel_rfl) ?_ | refine aw_skip ?_ | refine aw_if ?_ | refine And.intro (by first | omega | with_reducible assumption) ?_ | refine aw_exit ?_ | refine aw_ret ?_ | (simp (decide := true) (disch := omega) only [go_sem, ↓reduceIte, ↓put_at, reduceCtorEq, Nat.reduceAdd, Nat.reduceSub, Nat.reduceMul, Int.reduceToNat, Int.reducePow, Int.reduceAdd, Int.reduceSub, Int.reduceMul, Int.reduceNeg, Nat.min_eq_left, Nat.min_eq_right, Int.max_eq_left, Int.max_eq_right, Int.min_eq_left, Int.min_eq_right, Nat.reduceLeDiff])))
  simp only [b]
  refine call_s Try.call17 c [(1000, 0)] ?_
  (repeat (first | refine aw_seq ?_ | refine aw_block ?_ | refine aw_reg hC (by kernel_rfl) ?_ | refine aw_regd hC Try.checked.mixed (by kernel_rfl) ?_ | refine chk_and (by kernel_rfl) ?_ | refine aw_skip ?_ | refine aw_if ?_ | refine And.intro (by first | omega | with_reducible assumption) ?_ | refine aw_exit ?_ | refine aw_ret ?_ | (simp (decide := true) (disch := omega) only [go_sem, ↓reduceIte, ↓put_at, reduceCtorEq, Nat.reduceAdd, Nat.reduceSub, Nat.reduceMul, Int.reduceToNat, Int.reducePow, Int.reduceAdd, Int.reduceSub, Int.reduceMul, Int.reduceNeg, Nat.min_eq_left, Nat.min_eq_right, Int.max_eq_left, Int.max_eq_right, Int.min_eq_left, Int.min_eq_right, Nat.reduceLeDiff])))
  (refine ret_s [] ?_; simp (decide := true) (disch := omega) only [go_sem, ↓reduceIte, ↓put_at, reduceCtorEq, Nat.reduceAdd, Nat.reduceSub, Nat.reduceMul, Int.reduceToNat, Int.reducePow, Int.reduceAdd, Int.reduceSub, Int.reduceMul, Int.reduceNeg, Nat.min_eq_left, Nat.min_eq_right, Int.max_eq_left, Int.max_eq_right, Int.min_eq_left, Int.min_eq_right, Nat.reduceLeDiff])
set_option maxRecDepth 100000 in
theorem exts_head2 (x : E5) (hx : may5 2 x = true) (l : List UInt8) (hl : l.length ≤ 1099511627776) : Spec Try.prog 19 [.ptr 0 0, .ca (.val (.agg (e5L x)))] [outO l] (.ca (.val (.tup []))) [outO (l ++ head5 2 x)] := by
  obtain ⟨i, d⟩ := x
  have c := out_u8 l [i, (d.length : Int)] (by simp only [List.length_cons, List.length_nil]; omega)
  have e : puts' 1 [i, (d.length : Int)] = head5 2 ⟨i, d⟩ := by simp [puts', head5]
  rw [e] at c
  refine spec_of Try.func19 rfl Try.ntmps19 Try.results19 ⟨by decide, by simp⟩ fun C hC => ?_
  (repeat (first | refine aw_seq ?_ | refine aw_block ?_ | refine aw_reg hC (by kernel_rfl) ?_ | refine aw_regd hC Try.checked.mixed (by kernel_rfl) ?_ | refine chk_and (by kernel_rfl) ?_ | refine aw_skip ?_ | refine aw_if ?_ | refine And.intro (by first | omega | with_reducible assumption) ?_ | refine aw_exit ?_ | refine aw_ret ?_ | (simp (decide := true) (disch := omega) only [go_sem, ↓reduceIte, ↓put_at, reduceCtorEq, Nat.reduceAdd, Nat.reduceSub, Nat.reduceMul, Int.reduceToNat, Int.reducePow, Int.reduceAdd, Int.reduceSub, Int.reduceMul, Int.reduceNeg, Nat.min_eq_left, Nat.min_eq_right, Int.max_eq_left, Int.max_eq_right, Int.min_eq_left, Int.min_eq_right, Nat.reduceLeDiff])))
  refine call_s Try.call17 c [(1000, 0)] ?_
  (repeat (first | refine aw_seq ?_ | refine aw_block ?_ | refine aw_reg hC (by kernel_rfl) ?_ | refine aw_regd hC Try.checked.mixed (by kernel_rfl) ?_ | refine chk_and (by kernel_rfl) ?_ | refine aw_skip ?_ | refine aw_if ?_ | refine And.intro (by first | omega | with_reducible assumption) ?_ | refine aw_exit ?_ | refine aw_ret ?_ | (simp (decide := true) (disch := omega) only [go_sem, ↓reduceIte, ↓put_at, reduceCtorEq, Nat.reduceAdd, Nat.reduceSub, Nat.reduceMul, Int.reduceToNat, Int.reducePow, Int.reduceAdd, Int.reduceSub, Int.reduceMul, Int.reduceNeg, Nat.min_eq_left, Nat.min_eq_right, Int.max_eq_left, Int.max_eq_right, Int.min_eq_left, Int.min_eq_right, Nat.reduceLeDiff])))
  (refine ret_s [] ?_; simp (decide := true) (disch := omega) only [go_sem, ↓reduceIte, ↓put_at, reduceCtorEq, Nat.reduceAdd, Nat.reduceSub, Nat.reduceMul, Int.reduceToNat, Int.reducePow, Int.reduceAdd, Int.reduceSub, Int.reduceMul, Int.reduceNeg, Nat.min_eq_left, Nat.min_eq_right, Int.max_eq_left, Int.max_eq_right, Int.min_eq_left, Int.min_eq_right, Nat.reduceLeDiff])
set_option maxRecDepth 100000 in
theorem exts_read1 (l : List UInt8) (e : Int) (b : Nat) (hb : b < 256) : Spec Try.prog 18 [.ptr 0 0, .ca (.val (vi b))] [inO l e] (.ca (.val (.tup [vi (b / 16 : Nat), vi (b % 16 + 1 : Nat)]))) [inO l e] := by
  refine spec_of Try.func18 rfl Try.ntmps18 Try.results18 ⟨by decide, by simp⟩ fun C hC => ?_
  (repeat (first | refine aw_seq ?_ | refine aw_block ?_ | refine aw_reg hC (by kernel_rfl) ?_ | refine aw_regd hC Try.checked.mixed (by kernel_rfl) ?_ | refine chk_and (by kernel_rfl) ?_ | refine aw_skip ?_ | refine aw_if ?_ | refine And.intro (by first | omega | with_reducible assumption) ?_ | refine aw_exit ?_ | refine aw_ret ?_ | (simp (decide := true) (disch := omega) only [go_sem, ↓reduceIte, ↓put_at, reduceCtorEq, Nat.reduceAdd, Nat.reduceSub, Nat.reduceMul, Int.reduceToNat, Int.reducePow, Int.reduceAdd, Int.reduceSub, Int.reduceMul, Int.reduceNeg, Nat.min_eq_left, Nat.min_eq_right, Int.max_eq_left, Int.max_eq_right, Int.min_eq_left, Int.min_eq_right, Nat.reduceLeDiff])))
  (refine ret_s [] ?_; simp (decide := true) (disch := omega) only [go_sem, ↓reduceIte, ↓put_at, reduceCtorEq, Nat.reduceAdd, Nat.reduceSub, Nat.reduceMul, Int.reduceToNat, Int.reducePow, Int.reduceAdd, Int.reduceSub, Int.reduceMul, Int.reduceNeg, Nat.min_eq_left, Nat.min_eq_right, Int.max_eq_left, Int.max_eq_right, Int.min_eq_left, Int.min_eq_right, Nat.reduceLeDiff])
  exact ⟨by omega, by omega⟩
set_option maxRecDepth 100000 in
theorem exts_read2 (l : List UInt8) (e : Int) (b : Nat) (hl : l.length ≤ maxLen) : Spec Try.prog 20 [.ptr 0 0, .ca (.val (vi b))] [inO l e] (.ca (.val (.tup [vi b, vi (getN (rawT l 1))]))) [inO (rawL l e 1) (rawE l e 1)] := by
  refine spec_of Try.func20 rfl Try.ntmps20 Try.results20 ⟨by decide, by simp⟩ fun C hC => ?_
  (repeat (first | refine aw_seq ?_ | refine aw_block ?_ | refine aw_reg hC (by kernel_rfl) ?_ | refine aw_regd hC Try.checked.mixed (by kernel_rfl) ?_ | refine chk_and (by kernel_rfl) ?_ | refine aw_skip ?_ | refine aw_if ?_ | refine And.intro (by first | omega | with_reducible assumption) ?_ | refine aw_exit ?_ | refine aw_ret ?_ | (simp (decide := true) (disch := omega) only [go_sem, ↓reduceIte, ↓put_at, reduceCtorEq, Nat.reduceAdd, Nat.reduceSub, Nat.reduceMul, Int.reduceToNat, Int.reducePow, Int.reduceAdd, Int.reduceSub, Int.reduceMul, Int.reduceNeg, Nat.min_eq_left, Nat.min_eq_right, Int.max_eq_left, Int.max_eq_right, Int.min_eq_left, Int.min_eq_right, Nat.reduceLeDiff])))
  refine call_s Try.call21 (in_u8 l e hl) [(1000, 0)] ?_
  (repeat (first | refine aw_seq ?_ | refine aw_block ?_ | refine aw_reg hC (by kernel_rfl) ?_ | refine aw_regd hC Try.checked.mixed (by kernel_rfl) ?_ | refine chk_and (by kernel_rfl) ?_ | refine aw_skip ?_ | refine aw_if ?_ | refine And.intro (by first | omega | with_reducible assumption) ?_ | refine aw_exit ?_ | refine aw_ret ?_ | (simp (decide := true) (disch := omega) only [go_sem, ↓reduceIte, ↓put_at, reduceCtorEq, Nat.reduceAdd, Nat.reduceSub, Nat.reduceMul, Int.reduceToNat, Int.reducePow, Int.reduceAdd, Int.reduceSub, Int.reduceMul, Int.reduceNeg, Nat.min_eq_left, Nat.min_eq_right, Int.max_eq_left, Int.max_eq_right, Int.min_eq_left, Int.min_eq_right, Nat.reduceLeDiff])))
  (refine ret_s [] ?_; simp (decide := true) (disch := omega) only [go_sem, ↓reduceIte, ↓put_at, reduceCtorEq, Nat.reduceAdd, Nat.reduceSub, Nat.reduceMul, Int.reduceToNat, Int.reducePow, Int.reduceAdd, Int.reduceSub, Int.reduceMul, Int.reduceNeg, Nat.min_eq_left, Nat.min_eq_right, Int.max_eq_left, Int.max_eq_right, Int.min_eq_left, Int.min_eq_right, Nat.reduceLeDiff])
theorem hdK_call {f : Nat} (hf : f = 1 ∨ f = 2) : ∀ (args : Array Value) (w : World), (callFunc (hdK f) args).run Try.prog w = .ok (.enter (hdK f) args) w := by
  rcases hf with rfl | rfl
  · exact Try.call16
  · exact Try.call19
theorem rdK_call {f : Nat} (hf : f = 1 ∨ f = 2) : ∀ (args : Array Value) (w : World), (callFunc (rdK f) args).run Try.prog w = .ok (.enter (rdK f) args) w := by
  rcases hf with rfl | rfl
  · exact Try.call18
  · exact Try.call20
theorem exts_head (f : Nat) (hf : f = 1 ∨ f = 2) (x : E5) (hx : may5 f x = true) (l : List UInt8) (hl : l.length ≤ 1099511627776) : Spec Try.prog (hdK f) [.ptr 0 0, .ca (.val (.agg (e5L x)))] [outO l] (.ca (.val (.tup []))) [outO (l ++ head5 f x)] := by
  rcases hf with rfl | rfl
  · exact exts_head1 x hx l hl
  · exact exts_head2 x hx l hl
def eof5 (f : Nat) (t : List UInt8) : Int := if f ≠ 1 ∧ t = [] then 2 else 0
theorem exts_read (f : Nat) (hf : f = 1 ∨ f = 2) (b : UInt8) (t : List UInt8) (hl : t.length ≤ maxLen) : Spec Try.prog (rdK f) [.ptr 0 0, .ca (.val (vi b.toNat))] [inO t 0] (.ca (.val (.tup [vi (id5 f b), vi (len5 f b t)]))) [inO (rest5 f t) (eof5 f t)] := by
  rcases hf with rfl | rfl
  · exact exts_read1 t 0 b.toNat b.toNat_lt
  · have h := exts_read2 t 0 b.toNat hl
    have e1 : getN (rawT t 1) = len5 2 b t := by
      cases t with
      | nil => rfl
      | cons c t =>
        have : rawT (c :: t) 1 = [c] := by unfold rawT; rw [if_pos (by simp only [List.length_cons]; omega)]; rfl
        rw [this]
        simp [getN, len5]
    have e2 : rawL t 0 1 = rest5 2 t := by
      cases t with
      | nil => rfl
      | cons c t => unfold rawL; rw [if_pos (by simp only [List.length_cons]; omega)]; rfl
    have e3 : rawE t 0 1 = eof5 2 t := by
      cases t with
      | nil => rfl
      | cons c t => unfold rawE eof5; rw [if_pos (by simp only [List.length_cons]; omega), if_neg (fun h => by cases h.2)]
    rw [e1, e2, e3] at h
    exact h
set_option maxRecDepth 100000 in
theorem exts_may (f : Nat) (x : E5) (hf : f = 1 ∨ f = 2) (hl : x.data.length ≤ maxLen) : Spec Try.prog 11 [.ca (.val (.agg (rulesV f))), .ca (.val (.agg (e5L x)))] [] (.ca (.val (vb (may5 f x)))) [] := by
  obtain ⟨i, d⟩ := x
  unfold maxLen at hl
  obtain ⟨M, hM⟩ : ∃ M, M = may5 f ⟨i, d⟩ := ⟨_, rfl⟩
  rw [← hM]
  unfold may5 at hM
  have hb : 0 ≤ mostId f ∧ mostId f ≤ 255 ∧ 0 ≤ leastL f ∧ leastL f ≤ 1 ∧ 0 ≤ mostL f ∧ mostL f ≤ 255 := by
    rcases hf with rfl | rfl <;> decide
  dsimp only at hM hl ⊢
  dsimp only [rulesV]
  generalize mostId f = A at *
  generalize leastL f = B at *
  generalize mostL f = D at *
  generalize prof f = G at *
  by_cases g1 : 1 ≤ i
  · by_cases g2 : i ≤ A
    · by_cases g3 : B ≤ (d.length : Int)
      · by_cases g4 : (d.length : Int) ≤ D
        · rw [decide_eq_true ⟨g1, g2, g3, g4⟩] at hM
          subst hM
          refine spec_of Try.func11 rfl Try.ntmps11 Try.results11 ⟨by decide, by simp⟩ fun C hC => ?_
          (repeat (first | refine aw_seq ?_ | refine aw_block ?_ | refine aw_reg hC (by kernel_rfl) ?_ | refine aw_regd hC Try.checked.mixed (by kernel_rfl) ?_ | refine chk_and (by kernel_rfl) ?_ | refine aw_skip ?_ | refine aw_if ?_ | refine And.intro (by first | omega | with_reducible assumption) ?_ | refine aw_exit ?_ | refine aw_ret ?_ | (simp (decide := true) (disch := omega) only [go_sem, ↓reduceIte, ↓put_at, reduceCtorEq, Nat.reduceAdd, Nat.reduceSub, Nat.reduceMul, Int.reduceToNat, Int.reducePow, Int.reduceAdd, Int.reduceSub, Int.reduceMul, Int.reduceNeg, Nat.min_eq_left, Nat.min_eq_right, Int.max_eq_left, Int.max_eq_right, Int.min_eq_left, Int.min_eq_right, Nat.reduceLeDiff])))
          (refine ret_s [] ?_; simp (decide := true) (disch := omega) only [go_sem, ↓reduceIte, ↓put_at, reduceCtorEq, Nat.reduceAdd, Nat.reduceSub, Nat.reduceMul, Int.reduceToNat, Int.reducePow, Int.reduceAdd, Int.reduceSub, Int.reduceMul, Int.reduceNeg, Nat.min_eq_left, Nat.min_eq_right, Int.max_eq_left, Int.max_eq_right, Int.min_eq_left, Int.min_eq_right, Nat.reduceLeDiff])
        · rw [decide_eq_false (fun h => g4 h.2.2.2)] at hM
          subst hM
          refine spec_of Try.func11 rfl Try.ntmps11 Try.results11 ⟨by decide, by simp⟩ fun C hC => ?_
          (repeat (first | refine aw_seq ?_ | refine aw_block ?_ | refine aw_reg hC (by kernel_rfl) ?_ | refine aw_regd hC Try.checked.mixed (by kernel_rfl) ?_ | refine chk_and (by kernel_rfl) ?_ | refine aw_skip ?_ | refine aw_if ?_ | refine And.intro (by first | omega | with_reducible assumption) ?_ | refine aw_exit ?_ | refine aw_ret ?_ | (simp (decide := true) (disch := omega) only [go_sem, ↓reduceIte, ↓put_at, reduceCtorEq, Nat.reduceAdd, Nat.reduceSub, Nat.reduceMul, Int.reduceToNat, Int.reducePow, Int.reduceAdd, Int.reduceSub, Int.reduceMul, Int.reduceNeg, Nat.min_eq_left, Nat.min_eq_right, Int.max_eq_left, Int.max_eq_right, Int.min_eq_left, Int.min_eq_right, Nat.reduceLeDiff])))
          (refine ret_s [] ?_; simp (decide := true) (disch := omega) only [go_sem, ↓reduceIte, ↓put_at, reduceCtorEq, Nat.reduceAdd, Nat.reduceSub, Nat.reduceMul, Int.reduceToNat, Int.reducePow, Int.reduceAdd, Int.reduceSub, Int.reduceMul, Int.reduceNeg, Nat.min_eq_left, Nat.min_eq_right, Int.max_eq_left, Int.max_eq_right, Int.min_eq_left, Int.min_eq_right, Nat.reduceLeDiff])
      · rw [decide_eq_false (fun h => g3 h.2.2.1)] at hM
        subst hM
        refine spec_of Try.func11 rfl Try.ntmps11 Try.results11 ⟨by decide, by simp⟩ fun C hC => ?_
        (repeat (first | refine aw_seq ?_ | refine aw_block ?_ | refine aw_reg hC (by kernel_rfl) ?_ | refine aw_regd hC Try.checked.mixed (by kernel_rfl) ?_ | refine chk_and (by kernel_rfl) ?_ | refine aw_skip ?_ | refine aw_if ?_ | refine And.intro (by first | omega | with_reducible assumption) ?_ | refine aw_exit ?_ | refine aw_ret ?_ | (simp (decide := true) (disch := omega) only [go_sem, ↓reduceIte, ↓put_at, reduceCtorEq, Nat.reduceAdd, Nat.reduceSub, Nat.reduceMul, Int.reduceToNat, Int.reducePow, Int.reduceAdd, Int.reduceSub, Int.reduceMul, Int.reduceNeg, Nat.min_eq_left, Nat.min_eq_right, Int.max_eq_left, Int.max_eq_right, Int.min_eq_left, Int.min_eq_right, Nat.reduceLeDiff])))
        (refine ret_s [] ?_; simp (decide := true) (disch := omega) only [go_sem, ↓reduceIte, ↓put_at, reduceCtorEq, Nat.reduceAdd, Nat.reduceSub, Nat.reduceMul, Int.reduceToNat, Int.reducePow, Int.reduceAdd, Int.reduceSub, Int.reduceMul, Int.reduceNeg, Nat.min_eq_left, Nat.min_eq_right, Int.max_eq_left, Int.max_eq_right, Int.min_eq_left, Int.min_eq_right, Nat.reduceLeDiff])
    · rw [decide_eq_false (fun h => g2 h.2.1)] at hM
      subst hM
      refine spec_of Try.func11 rfl Try.ntmps11 Try.results11 ⟨by decide, by simp⟩ fun C hC => ?_
      (repeat (first | refine aw_seq ?_ | refine aw_block ?_ | refine aw_reg hC (by kernel_rfl) ?_ | refine aw_regd hC Try.checked.mixed (by kernel_rfl) ?_ | refine chk_and (by kernel_rfl) ?_ | refine aw_skip ?_ | refine aw_if ?_ | refine And.intro (by first | omega | with_reducible assumption) ?_ | refine aw_exit ?_ | refine aw_ret ?_ | (simp (decide := true) (disch := omega) only [go_sem, ↓reduceIte, ↓put_at, reduceCtorEq, Nat.reduceAdd, Nat.reduceSub, Nat.reduceMul, Int.reduceToNat, Int.reducePow, Int.reduceAdd, Int.reduceSub, Int.reduceMul, Int.reduceNeg, Nat.min_eq_left, Nat.min_eq_right, Int.max_eq_left, Int.max_eq_right, Int.min_eq_left, Int.min_eq_right, Nat.reduceLeDiff])))
      (refine ret_s [] ?_; simp (decide := true) (disch := omega) only [go_sem, ↓reduceIte, ↓put_at, reduceCtorEq, Nat.reduceAdd, Nat.reduceSub, Nat.reduceMul, Int.reduceToNat, Int.reducePow, Int.reduceAdd, Int.reduceSub, Int.reduceMul, Int.reduceNeg, Nat.min_eq_left, Nat.min_eq_right, Int.max_eq_left, Int.max_eq_right, Int.min_eq_left, Int.min_eq_right, Nat.reduceLeDiff])
  · rw [decide_eq_false (fun h => g1 h.1)] at hM
    subst hM
    refine spec_of Try.func11 rfl Try.ntmps11 Try.results11 ⟨by decide, by simp⟩ fun C hC => ?_
    (repeat (first | refine aw_seq ?_ | refine aw_block ?_ | refine aw_reg hC (by kernel_rfl) ?_ | refine aw_regd hC Try.checked.mixed (by kernel_rfl) ?_ | refine chk_and (by kernel_rfl) ?_ | refine aw_skip ?_ | refine aw_if ?_ | refine And.intro (by first | omega | with_reducible assumption) ?_ | refine aw_exit ?_ | refine aw_ret ?_ | (simp (decide := true) (disch := omega) only [go_sem, ↓reduceIte, ↓put_at, reduceCtorEq, Nat.reduceAdd, Nat.reduceSub, Nat.reduceMul, Int.reduceToNat, Int.reducePow, Int.reduceAdd, Int.reduceSub, Int.reduceMul, Int.reduceNeg, Nat.min_eq_left, Nat.min_eq_right, Int.max_eq_left, Int.max_eq_right, Int.min_eq_left, Int.min_eq_right, Nat.reduceLeDiff])))
    (refine ret_s [] ?_; simp (decide := true) (disch := omega) only [go_sem, ↓reduceIte, ↓put_at, reduceCtorEq, Nat.reduceAdd, Nat.reduceSub, Nat.reduceMul, Int.reduceToNat, Int.reducePow, Int.reduceAdd, Int.reduceSub, Int.reduceMul, Int.reduceNeg, Nat.min_eq_left, Nat.min_eq_right, Int.max_eq_left, Int.max_eq_right, Int.min_eq_left, Int.min_eq_right, Nat.reduceLeDiff])
end Go.Proofs.Ytojcjbaimdjhoaa
