
/- The reference's readers of goodbyes and words. -/
import Derived.Test.YtlhkhncdnaibgaaNotesT
import Derived.Test.YtlhkhncdnaibgaaNotesL
import Derived.Test.YtlhkhncdnaibgaaRJ
namespace Go.Proofs.Ytlhkhncdnaibgaa
open Go.RowKit
set_option linter.unusedVariables false
set_option linter.unusedSimpArgs false

set_option maxRecDepth 100000 in
set_option maxHeartbeats 4000000 in
theorem ref_toapp9 (p : Pc) (hp : p.2.2.length ≤ maxLen) : Spec Try.prog 48 [.ca (.val (pcV p))] [] (.ca (.val (.tup [.agg (za9L (appR p)), vi (appE p)]))) [] := by
  rw [(appE_ref p).1, (appE_ref p).2]
  obtain ⟨E, hE⟩ : ∃ E, E = refAE p := ⟨_, rfl⟩
  obtain ⟨R, hR⟩ : ∃ R, R = refAR p := ⟨_, rfl⟩
  rw [← hE, ← hR]
  unfold refAR at hR
  rw [← hE] at hR
  unfold refAE at hE
  have hq4 := getN_lt (p.2.2.take 4)
  have hq4l : (p.2.2.take 4).length ≤ 4 := by rw [List.length_take]; omega
  have hq4p : (256 : Nat) ^ (p.2.2.take 4).length ≤ 256 ^ 4 := Nat.pow_le_pow_right (by decide) hq4l
  have hq4e : (256 : Nat) ^ 4 = 4294967296 := by decide
  have hok : (ansA p).Ok := ⟨by unfold ansA; dsimp only; omega, by unfold ansA maxLen; dsimp only; rw [List.length_take]; omega, by unfold ansA; dsimp only; rw [List.length_drop]; omega⟩
  have c1 := q_get (p.2.2.take 4) (by omega)
  have c2 := ref_app9 (ansA p) hok
  clear hq4 hq4l hq4p hq4e
  obtain ⟨n, k, b⟩ := p
  dsimp only at *
  unfold maxLen at hp
  by_cases hk : k = 204
  · rw [if_neg (by simpa using hk)] at hE
    by_cases hl : b.length < 8
    · rw [if_pos hl] at hE
      subst hE
      rw [if_neg (by decide)] at hR
      subst hR
      refine spec_of Try.func48 rfl Try.ntmps48 Try.results48 ⟨by decide, by simp⟩ fun C hC => ?_
      (repeat (first | refine aw_seq ?_ | refine aw_block ?_ | refine aw_reg hC (by kernel_rfl) ?_ | refine aw_regd hC Try.checked.mixed (by kernel_rfl) ?_ | refine chk_and (by kernel_rfl) ?_ | refine aw_skip ?_ | refine aw_if ?_ | refine And.intro (by first | omega | with_reducible assumption) ?_ | refine aw_exit ?_ | refine aw_ret ?_ | (simp (decide := true) (disch := omega) only [go_sem, ↓reduceIte, ↓put_at, reduceCtorEq, Nat.reduceAdd, Nat.reduceSub, Nat.reduceMul, Int.reduceToNat, Int.reducePow, Int.reduceAdd, Int.reduceSub, Int.reduceMul, Int.reduceNeg, Nat.min_eq_left, Nat.min_eq_right, Int.max_eq_left, Int.max_eq_right, Int.min_eq_left, Int.min_eq_right, Nat.reduceLeDiff])))
      (refine ret_s [] ?_; simp (decide := true) (disch := omega) only [go_sem, ↓reduceIte, ↓put_at, reduceCtorEq, Nat.reduceAdd, Nat.reduceSub, Nat.reduceMul, Int.reduceToNat, Int.reducePow, Int.reduceAdd, Int.reduceSub, Int.reduceMul, Int.reduceNeg, Nat.min_eq_left, Nat.min_eq_right, Int.max_eq_left, Int.max_eq_right, Int.min_eq_left, Int.min_eq_right, Nat.reduceLeDiff])
    · rw [if_neg hl] at hE
      have hcm := rp_ne (appP (ansA (n, k, b))).1 n (appP (ansA (n, k, b))).2.1 k (appP (ansA (n, k, b))).2.2 b
      rw [pc_dec (appP (ansA (n, k, b))) (n, k, b)] at hcm
      obtain ⟨A, hA⟩ : ∃ A, A = ansA (n, k, b) := ⟨_, rfl⟩
      rw [← hA] at hcm hE hR c2 hok
      generalize appP A = Q at *
      unfold ansA at hA
      dsimp only at hA
      by_cases hQ : Q = (n, k, b)
      · rw [if_neg (by simpa using hQ)] at hE
        subst hE
        rw [if_pos rfl] at hR
        subst hR
        rw [decide_eq_true hQ] at hcm
        subst hA
        refine spec_of Try.func48 rfl Try.ntmps48 Try.results48 ⟨by decide, by simp⟩ fun C hC => ?_
        (repeat (first | refine aw_seq ?_ | refine aw_block ?_ | refine aw_reg hC (by kernel_rfl) ?_ | refine aw_regd hC Try.checked.mixed (by kernel_rfl) ?_ | refine chk_and (by kernel_rfl) ?_ | refine aw_skip ?_ | refine aw_if ?_ | refine And.intro (by first | omega | with_reducible assumption) ?_ | refine aw_exit ?_ | refine aw_ret ?_ | (simp (decide := true) (disch := omega) only [go_sem, ↓reduceIte, ↓put_at, reduceCtorEq, Nat.reduceAdd, Nat.reduceSub, Nat.reduceMul, Int.reduceToNat, Int.reducePow, Int.reduceAdd, Int.reduceSub, Int.reduceMul, Int.reduceNeg, Nat.min_eq_left, Nat.min_eq_right, Int.max_eq_left, Int.max_eq_right, Int.min_eq_left, Int.min_eq_right, Nat.reduceLeDiff])))
        refine call_s Try.call94 c1 [] ?_
        (repeat (first | refine aw_seq ?_ | refine aw_block ?_ | refine aw_reg hC (by kernel_rfl) ?_ | refine aw_regd hC Try.checked.mixed (by kernel_rfl) ?_ | refine chk_and (by kernel_rfl) ?_ | refine aw_skip ?_ | refine aw_if ?_ | refine And.intro (by first | omega | with_reducible assumption) ?_ | refine aw_exit ?_ | refine aw_ret ?_ | (simp (decide := true) (disch := omega) only [go_sem, ↓reduceIte, ↓put_at, reduceCtorEq, Nat.reduceAdd, Nat.reduceSub, Nat.reduceMul, Int.reduceToNat, Int.reducePow, Int.reduceAdd, Int.reduceSub, Int.reduceMul, Int.reduceNeg, Nat.min_eq_left, Nat.min_eq_right, Int.max_eq_left, Int.max_eq_right, Int.min_eq_left, Int.min_eq_right, Nat.reduceLeDiff])))
        refine call_s Try.call33 c2 [] ?_
        (repeat (first | refine aw_seq ?_ | refine aw_block ?_ | refine aw_reg hC (by kernel_rfl) ?_ | refine aw_regd hC Try.checked.mixed (by kernel_rfl) ?_ | refine chk_and (by kernel_rfl) ?_ | refine aw_skip ?_ | refine aw_if ?_ | refine And.intro (by first | omega | with_reducible assumption) ?_ | refine aw_exit ?_ | refine aw_ret ?_ | (simp (decide := true) (disch := omega) only [go_sem, ↓reduceIte, ↓put_at, reduceCtorEq, Nat.reduceAdd, Nat.reduceSub, Nat.reduceMul, Int.reduceToNat, Int.reducePow, Int.reduceAdd, Int.reduceSub, Int.reduceMul, Int.reduceNeg, Nat.min_eq_left, Nat.min_eq_right, Int.max_eq_left, Int.max_eq_right, Int.min_eq_left, Int.min_eq_right, Nat.reduceLeDiff])))
        refine cmpA_s _ _ _ (.inr rfl) (by simp (decide := true) (disch := omega) only [go_sem, ↓reduceIte, ↓put_at, reduceCtorEq, Nat.reduceAdd, Nat.reduceSub, Nat.reduceMul, Int.reduceToNat, Int.reducePow, Int.reduceAdd, Int.reduceSub, Int.reduceMul, Int.reduceNeg, Nat.min_eq_left, Nat.min_eq_right, Int.max_eq_left, Int.max_eq_right, Int.min_eq_left, Int.min_eq_right, Nat.reduceLeDiff]) (by simp (decide := true) (disch := omega) only [go_sem, ↓reduceIte, ↓put_at, reduceCtorEq, Nat.reduceAdd, Nat.reduceSub, Nat.reduceMul, Int.reduceToNat, Int.reducePow, Int.reduceAdd, Int.reduceSub, Int.reduceMul, Int.reduceNeg, Nat.min_eq_left, Nat.min_eq_right, Int.max_eq_left, Int.max_eq_right, Int.min_eq_left, Int.min_eq_right, Nat.reduceLeDiff]) (by kernel_rfl) hcm ?_
        (repeat (first | refine aw_seq ?_ | refine aw_block ?_ | refine aw_reg hC (by kernel_rfl) ?_ | refine aw_regd hC Try.checked.mixed (by kernel_rfl) ?_ | refine chk_and (by kernel_rfl) ?_ | refine aw_skip ?_ | refine aw_if ?_ | refine And.intro (by first | omega | with_reducible assumption) ?_ | refine aw_exit ?_ | refine aw_ret ?_ | (simp (decide := true) (disch := omega) only [go_sem, ↓reduceIte, ↓put_at, reduceCtorEq, Nat.reduceAdd, Nat.reduceSub, Nat.reduceMul, Int.reduceToNat, Int.reducePow, Int.reduceAdd, Int.reduceSub, Int.reduceMul, Int.reduceNeg, Nat.min_eq_left, Nat.min_eq_right, Int.max_eq_left, Int.max_eq_right, Int.min_eq_left, Int.min_eq_right, Nat.reduceLeDiff])))
        (refine ret_s [] ?_; simp (decide := true) (disch := omega) only [go_sem, ↓reduceIte, ↓put_at, reduceCtorEq, Nat.reduceAdd, Nat.reduceSub, Nat.reduceMul, Int.reduceToNat, Int.reducePow, Int.reduceAdd, Int.reduceSub, Int.reduceMul, Int.reduceNeg, Nat.min_eq_left, Nat.min_eq_right, Int.max_eq_left, Int.max_eq_right, Int.min_eq_left, Int.min_eq_right, Nat.reduceLeDiff])
      · rw [if_pos hQ] at hE
        subst hE
        rw [if_neg (by decide)] at hR
        subst hR
        rw [decide_eq_false hQ] at hcm
        subst hA
        refine spec_of Try.func48 rfl Try.ntmps48 Try.results48 ⟨by decide, by simp⟩ fun C hC => ?_
        (repeat (first | refine aw_seq ?_ | refine aw_block ?_ | refine aw_reg hC (by kernel_rfl) ?_ | refine aw_regd hC Try.checked.mixed (by kernel_rfl) ?_ | refine chk_and (by kernel_rfl) ?_ | refine aw_skip ?_ | refine aw_if ?_ | refine And.intro (by first | omega | with_reducible assumption) ?_ | refine aw_exit ?_ | refine aw_ret ?_ | (simp (decide := true) (disch := omega) only [go_sem, ↓reduceIte, ↓put_at, reduceCtorEq, Nat.reduceAdd, Nat.reduceSub, Nat.reduceMul, Int.reduceToNat, Int.reducePow, Int.reduceAdd, Int.reduceSub, Int.reduceMul, Int.reduceNeg, Nat.min_eq_left, Nat.min_eq_right, Int.max_eq_left, Int.max_eq_right, Int.min_eq_left, Int.min_eq_right, Nat.reduceLeDiff])))
        refine call_s Try.call94 c1 [] ?_
        (repeat (first | refine aw_seq ?_ | refine aw_block ?_ | refine aw_reg hC (by kernel_rfl) ?_ | refine aw_regd hC Try.checked.mixed (by kernel_rfl) ?_ | refine chk_and (by kernel_rfl) ?_ | refine aw_skip ?_ | refine aw_if ?_ | refine And.intro (by first | omega | with_reducible assumption) ?_ | refine aw_exit ?_ | refine aw_ret ?_ | (simp (decide := true) (disch := omega) only [go_sem, ↓reduceIte, ↓put_at, reduceCtorEq, Nat.reduceAdd, Nat.reduceSub, Nat.reduceMul, Int.reduceToNat, Int.reducePow, Int.reduceAdd, Int.reduceSub, Int.reduceMul, Int.reduceNeg, Nat.min_eq_left, Nat.min_eq_right, Int.max_eq_left, Int.max_eq_right, Int.min_eq_left, Int.min_eq_right, Nat.reduceLeDiff])))
        refine call_s Try.call33 c2 [] ?_
        (repeat (first | refine aw_seq ?_ | refine aw_block ?_ | refine aw_reg hC (by kernel_rfl) ?_ | refine aw_regd hC Try.checked.mixed (by kernel_rfl) ?_ | refine chk_and (by kernel_rfl) ?_ | refine aw_skip ?_ | refine aw_if ?_ | refine And.intro (by first | omega | with_reducible assumption) ?_ | refine aw_exit ?_ | refine aw_ret ?_ | (simp (decide := true) (disch := omega) only [go_sem, ↓reduceIte, ↓put_at, reduceCtorEq, Nat.reduceAdd, Nat.reduceSub, Nat.reduceMul, Int.reduceToNat, Int.reducePow, Int.reduceAdd, Int.reduceSub, Int.reduceMul, Int.reduceNeg, Nat.min_eq_left, Nat.min_eq_right, Int.max_eq_left, Int.max_eq_right, Int.min_eq_left, Int.min_eq_right, Nat.reduceLeDiff])))
        refine cmpA_s _ _ _ (.inr rfl) (by simp (decide := true) (disch := omega) only [go_sem, ↓reduceIte, ↓put_at, reduceCtorEq, Nat.reduceAdd, Nat.reduceSub, Nat.reduceMul, Int.reduceToNat, Int.reducePow, Int.reduceAdd, Int.reduceSub, Int.reduceMul, Int.reduceNeg, Nat.min_eq_left, Nat.min_eq_right, Int.max_eq_left, Int.max_eq_right, Int.min_eq_left, Int.min_eq_right, Nat.reduceLeDiff]) (by simp (decide := true) (disch := omega) only [go_sem, ↓reduceIte, ↓put_at, reduceCtorEq, Nat.reduceAdd, Nat.reduceSub, Nat.reduceMul, Int.reduceToNat, Int.reducePow, Int.reduceAdd, Int.reduceSub, Int.reduceMul, Int.reduceNeg, Nat.min_eq_left, Nat.min_eq_right, Int.max_eq_left, Int.max_eq_right, Int.min_eq_left, Int.min_eq_right, Nat.reduceLeDiff]) (by kernel_rfl) hcm ?_
        (repeat (first | refine aw_seq ?_ | refine aw_block ?_ | refine aw_reg hC (by kernel_rfl) ?_ | refine aw_regd hC Try.checked.mixed (by kernel_rfl) ?_ | refine chk_and (by kernel_rfl) ?_ | refine aw_skip ?_ | refine aw_if ?_ | refine And.intro (by first | omega | with_reducible assumption) ?_ | refine aw_exit ?_ | refine aw_ret ?_ | (simp (decide := true) (disch := omega) only [go_sem, ↓reduceIte, ↓put_at, reduceCtorEq, Nat.reduceAdd, Nat.reduceSub, Nat.reduceMul, Int.reduceToNat, Int.reducePow, Int.reduceAdd, Int.reduceSub, Int.reduceMul, Int.reduceNeg, Nat.min_eq_left, Nat.min_eq_right, Int.max_eq_left, Int.max_eq_right, Int.min_eq_left, Int.min_eq_right, Nat.reduceLeDiff])))
        (refine ret_s [] ?_; simp (decide := true) (disch := omega) only [go_sem, ↓reduceIte, ↓put_at, reduceCtorEq, Nat.reduceAdd, Nat.reduceSub, Nat.reduceMul, Int.reduceToNat, Int.reducePow, Int.reduceAdd, Int.reduceSub, Int.reduceMul, Int.reduceNeg, Nat.min_eq_left, Nat.min_eq_right, Int.max_eq_left, Int.max_eq_right, Int.min_eq_left, Int.min_eq_right, Nat.reduceLeDiff])
  · rw [if_pos hk] at hE
    subst hE
    rw [if_neg (by decide)] at hR
    subst hR
    refine spec_of Try.func48 rfl Try.ntmps48 Try.results48 ⟨by decide, by simp⟩ fun C hC => ?_
    (repeat (first | refine aw_seq ?_ | refine aw_block ?_ | refine aw_reg hC (by kernel_rfl) ?_ | refine aw_regd hC Try.checked.mixed (by kernel_rfl) ?_ | refine chk_and (by kernel_rfl) ?_ | refine aw_skip ?_ | refine aw_if ?_ | refine And.intro (by first | omega | with_reducible assumption) ?_ | refine aw_exit ?_ | refine aw_ret ?_ | (simp (decide := true) (disch := omega) only [go_sem, ↓reduceIte, ↓put_at, reduceCtorEq, Nat.reduceAdd, Nat.reduceSub, Nat.reduceMul, Int.reduceToNat, Int.reducePow, Int.reduceAdd, Int.reduceSub, Int.reduceMul, Int.reduceNeg, Nat.min_eq_left, Nat.min_eq_right, Int.max_eq_left, Int.max_eq_right, Int.min_eq_left, Int.min_eq_right, Nat.reduceLeDiff])))
    (refine ret_s [] ?_; simp (decide := true) (disch := omega) only [go_sem, ↓reduceIte, ↓put_at, reduceCtorEq, Nat.reduceAdd, Nat.reduceSub, Nat.reduceMul, Int.reduceToNat, Int.reducePow, Int.reduceAdd, Int.reduceSub, Int.reduceMul, Int.reduceNeg, Nat.min_eq_left, Nat.min_eq_right, Int.max_eq_left, Int.max_eq_right, Int.min_eq_left, Int.min_eq_right, Nat.reduceLeDiff])
set_option maxRecDepth 100000 in
set_option maxHeartbeats 8000000 in
theorem ref_tobye9 (p : Pc) (hp : p.2.2.length ≤ maxLen) : Spec Try.prog 47 [.ca (.val (pcV p))] [] (.ca (.val (.tup [.agg (zy9L (byeR p)), vi (byeE p)]))) [] := by
  rw [(byeE_ref p hp).1, (byeE_ref p hp).2]
  obtain ⟨E, hE⟩ : ∃ E, E = refYE p := ⟨_, rfl⟩
  obtain ⟨R, hR⟩ : ∃ R, R = refYR p := ⟨_, rfl⟩
  rw [← hE, ← hR]
  unfold refYR at hR
  rw [← hE] at hR
  unfold refYE at hE
  obtain ⟨n, k, b⟩ := p
  unfold maxLen at hp
  dsimp only at hp hE
  by_cases hk : k = 203
  · rw [if_neg (by simpa using hk)] at hE
    by_cases h1 : n < 0
    · rw [if_neg (fun h => by obtain ⟨⟨g1, g2, g3⟩, _⟩ := h; dsimp only at g1; omega)] at hE
      subst hE
      rw [if_neg (by decide)] at hR
      subst hR
      refine spec_of Try.func47 rfl Try.ntmps47 Try.results47 ⟨by decide, by simp⟩ fun C hC => ?_
      (repeat (first | refine aw_seq ?_ | refine aw_block ?_ | refine aw_reg hC (by kernel_rfl) ?_ | refine aw_regd hC Try.checked.mixed (by kernel_rfl) ?_ | refine chk_and (by kernel_rfl) ?_ | refine aw_skip ?_ | refine aw_if ?_ | refine And.intro (by first | omega | with_reducible assumption) ?_ | refine aw_exit ?_ | refine aw_ret ?_ | (simp (decide := true) (disch := omega) only [go_sem, ↓reduceIte, ↓put_at, reduceCtorEq, Nat.reduceAdd, Nat.reduceSub, Nat.reduceMul, Int.reduceToNat, Int.reducePow, Int.reduceAdd, Int.reduceSub, Int.reduceMul, Int.reduceNeg, Nat.min_eq_left, Nat.min_eq_right, Int.max_eq_left, Int.max_eq_right, Int.min_eq_left, Int.min_eq_right, Nat.reduceLeDiff])))
      (refine ret_s [] ?_; simp (decide := true) (disch := omega) only [go_sem, ↓reduceIte, ↓put_at, reduceCtorEq, Nat.reduceAdd, Nat.reduceSub, Nat.reduceMul, Int.reduceToNat, Int.reducePow, Int.reduceAdd, Int.reduceSub, Int.reduceMul, Int.reduceNeg, Nat.min_eq_left, Nat.min_eq_right, Int.max_eq_left, Int.max_eq_right, Int.min_eq_left, Int.min_eq_right, Nat.reduceLeDiff])
    by_cases h2 : 31 < n
    · rw [if_neg (fun h => by obtain ⟨⟨g1, g2, g3⟩, _⟩ := h; dsimp only at g2; omega)] at hE
      subst hE
      rw [if_neg (by decide)] at hR
      subst hR
      refine spec_of Try.func47 rfl Try.ntmps47 Try.results47 ⟨by decide, by simp⟩ fun C hC => ?_
      (repeat (first | refine aw_seq ?_ | refine aw_block ?_ | refine aw_reg hC (by kernel_rfl) ?_ | refine aw_regd hC Try.checked.mixed (by kernel_rfl) ?_ | refine chk_and (by kernel_rfl) ?_ | refine aw_skip ?_ | refine aw_if ?_ | refine And.intro (by first | omega | with_reducible assumption) ?_ | refine aw_exit ?_ | refine aw_ret ?_ | (simp (decide := true) (disch := omega) only [go_sem, ↓reduceIte, ↓put_at, reduceCtorEq, Nat.reduceAdd, Nat.reduceSub, Nat.reduceMul, Int.reduceToNat, Int.reducePow, Int.reduceAdd, Int.reduceSub, Int.reduceMul, Int.reduceNeg, Nat.min_eq_left, Nat.min_eq_right, Int.max_eq_left, Int.max_eq_right, Int.min_eq_left, Int.min_eq_right, Nat.reduceLeDiff])))
      (refine ret_s [] ?_; simp (decide := true) (disch := omega) only [go_sem, ↓reduceIte, ↓put_at, reduceCtorEq, Nat.reduceAdd, Nat.reduceSub, Nat.reduceMul, Int.reduceToNat, Int.reducePow, Int.reduceAdd, Int.reduceSub, Int.reduceMul, Int.reduceNeg, Nat.min_eq_left, Nat.min_eq_right, Int.max_eq_left, Int.max_eq_right, Int.min_eq_left, Int.min_eq_right, Nat.reduceLeDiff])
    by_cases h3 : b.length < 4 * n.toNat
    · rw [if_neg (fun h => by obtain ⟨⟨g1, g2, g3⟩, _⟩ := h; dsimp only at g3; omega)] at hE
      subst hE
      rw [if_neg (by decide)] at hR
      subst hR
      refine spec_of Try.func47 rfl Try.ntmps47 Try.results47 ⟨by decide, by simp⟩ fun C hC => ?_
      (repeat (first | refine aw_seq ?_ | refine aw_block ?_ | refine aw_reg hC (by kernel_rfl) ?_ | refine aw_regd hC Try.checked.mixed (by kernel_rfl) ?_ | refine chk_and (by kernel_rfl) ?_ | refine aw_skip ?_ | refine aw_if ?_ | refine And.intro (by first | omega | with_reducible assumption) ?_ | refine aw_exit ?_ | refine aw_ret ?_ | (simp (decide := true) (disch := omega) only [go_sem, ↓reduceIte, ↓put_at, reduceCtorEq, Nat.reduceAdd, Nat.reduceSub, Nat.reduceMul, Int.reduceToNat, Int.reducePow, Int.reduceAdd, Int.reduceSub, Int.reduceMul, Int.reduceNeg, Nat.min_eq_left, Nat.min_eq_right, Int.max_eq_left, Int.max_eq_right, Int.min_eq_left, Int.min_eq_right, Nat.reduceLeDiff])))
      (refine ret_s [] ?_; simp (decide := true) (disch := omega) only [go_sem, ↓reduceIte, ↓put_at, reduceCtorEq, Nat.reduceAdd, Nat.reduceSub, Nat.reduceMul, Int.reduceToNat, Int.reducePow, Int.reduceAdd, Int.reduceSub, Int.reduceMul, Int.reduceNeg, Nat.min_eq_left, Nat.min_eq_right, Int.max_eq_left, Int.max_eq_right, Int.min_eq_left, Int.min_eq_right, Nat.reduceLeDiff])
    · obtain ⟨N, rfl⟩ : ∃ N : Nat, n = N := ⟨n.toNat, by omega⟩
      rw [Int.toNat_natCast] at h3
      have hrest : restY ((N : Int), k, b) = b.drop (4 * N) := by unfold restY; dsimp only; rw [Int.toNat_natCast]
      have hans : ansY ((N : Int), k, b) = ⟨if b.drop (4 * N) = [] then [] else ((b.drop (4 * N)).drop 1).take ((b.drop (4 * N)).getD 0 0).toNat, gets N b⟩ := by
        unfold ansY lenY
        rw [hrest]
        dsimp only
        rw [Int.toNat_natCast]
      have hlenY : lenY ((N : Int), k, b) = ((b.drop (4 * N)).getD 0 0).toNat := by unfold lenY; rw [hrest]
      rw [hans] at hR
      have hgood : goodY ((N : Int), k, b) ↔ (b.drop (4 * N) = [] ∨ (((b.drop (4 * N)).getD 0 0).toNat ≠ 0 ∧ ((b.drop (4 * N)).getD 0 0).toNat < (b.drop (4 * N)).length ∧ fillB ((b.drop (4 * N)).take (((b.drop (4 * N)).getD 0 0).toNat + 1)) = b.drop (4 * N))) := by
        unfold goodY
        rw [hrest, hlenY]
        dsimp only
        rw [Int.toNat_natCast]
        exact ⟨fun h => h.2, fun h => ⟨⟨by omega, by omega, by omega⟩, h⟩⟩
      refine spec_of Try.func47 rfl Try.ntmps47 Try.results47 ⟨by decide, by simp⟩ fun C hC => ?_
      (repeat (first | refine aw_seq ?_ | refine aw_block ?_ | refine aw_reg hC (by kernel_rfl) ?_ | refine aw_regd hC Try.checked.mixed (by kernel_rfl) ?_ | refine chk_and (by kernel_rfl) ?_ | refine aw_skip ?_ | refine aw_if ?_ | refine And.intro (by first | omega | with_reducible assumption) ?_ | refine aw_exit ?_ | refine aw_ret ?_ | (simp (decide := true) (disch := omega) only [go_sem, ↓reduceIte, ↓put_at, reduceCtorEq, Nat.reduceAdd, Nat.reduceSub, Nat.reduceMul, Int.reduceToNat, Int.reducePow, Int.reduceAdd, Int.reduceSub, Int.reduceMul, Int.reduceNeg, Nat.min_eq_left, Nat.min_eq_right, Int.max_eq_left, Int.max_eq_right, Int.min_eq_left, Int.min_eq_right, Nat.reduceLeDiff])))
      refine own_c (4, 0) 1 (4, 2) 3 1 ?_
      simp (decide := true) (disch := omega) only [go_sem, ↓reduceIte, ↓put_at, reduceCtorEq, Nat.reduceAdd, Nat.reduceSub, Nat.reduceMul, Int.reduceToNat, Int.reducePow, Int.reduceAdd, Int.reduceSub, Int.reduceMul, Int.reduceNeg, Nat.min_eq_left, Nat.min_eq_right, Int.max_eq_left, Int.max_eq_right, Int.min_eq_left, Int.min_eq_right, Nat.reduceLeDiff]
      refine loop_s (α := {j : Nat // j ≤ N}) (fun j => [(.s 1, .av (.ptr (1, 0) 0 0)), (.o (1, 0), .num 3), (.c (1, 0) 0, .av (.val (vi N))), (.c (1, 0) 1, .av (.val (vi k))), (.c (1, 0) 2, .av (.val (vs b))), (.s 2, .av (.ptr (2, 0) 0 0)), (.o (2, 0), .num 2), (.c (2, 0) 0, .av (.val (vs []))), (.c (2, 0) 1, .av (.val (.sc (.slice none 0 0)))), (.s 3, .av (.val (vi 0))), (.s 4, .av (.ptr (4, 0) 0 0)), (.o (4, 0), .num 2), (.c (4, 0) 0, .av (.val (vs []))), (.c (4, 0) 1, .av (.own (4, 2) 0 3 1 ((gets j.1 b).map intEl))), (.k (4, 2), .row 3 1 (gets j.1 b).length), (.s 5, .av (.val (vi j.1)))]) (fun j => N - j.1) ⟨0, Nat.zero_le _⟩ ?_ (fun j => ?_)
      · simp only [gets, List.range_zero, List.map_nil]
        simp (decide := true) (disch := omega) only [go_sem, ↓reduceIte, ↓put_at, reduceCtorEq, Nat.reduceAdd, Nat.reduceSub, Nat.reduceMul, Int.reduceToNat, Int.reducePow, Int.reduceAdd, Int.reduceSub, Int.reduceMul, Int.reduceNeg, Nat.min_eq_left, Nat.min_eq_right, Int.max_eq_left, Int.max_eq_right, Int.min_eq_left, Int.min_eq_right, Nat.reduceLeDiff]
      · obtain ⟨j, hj⟩ := j
        dsimp only at hj ⊢
        have hgl := gets_len j b
        by_cases hlt : j < N
        · have hgs := gets_succ j b
          have e1 : (4 * (j : Int) + 4).toNat = 4 * j + 4 := by omega
          have e2 : (4 * (j : Int)).toNat = 4 * j := by omega
          have c1 := q_getw b (4 * j) 4 (by decide)
          (repeat (first | refine aw_seq ?_ | refine aw_block ?_ | refine aw_reg hC (by kernel_rfl) ?_ | refine aw_regd hC Try.checked.mixed (by kernel_rfl) ?_ | refine chk_and (by kernel_rfl) ?_ | refine aw_skip ?_ | refine aw_if ?_ | refine And.intro (by first | omega | with_reducible assumption) ?_ | refine aw_exit ?_ | refine aw_ret ?_ | (simp (decide := true) (disch := omega) only [go_sem, ↓reduceIte, ↓put_at, reduceCtorEq, Nat.reduceAdd, Nat.reduceSub, Nat.reduceMul, Int.reduceToNat, Int.reducePow, Int.reduceAdd, Int.reduceSub, Int.reduceMul, Int.reduceNeg, Nat.min_eq_left, Nat.min_eq_right, Int.max_eq_left, Int.max_eq_right, Int.min_eq_left, Int.min_eq_right, Nat.reduceLeDiff])))
          simp only [e1, e2, Nat.add_sub_cancel_left]
          refine call_s Try.call94 c1 [] ?_
          (repeat (first | refine aw_seq ?_ | refine aw_block ?_ | refine aw_reg hC (by kernel_rfl) ?_ | refine aw_regd hC Try.checked.mixed (by kernel_rfl) ?_ | refine chk_and (by kernel_rfl) ?_ | refine aw_skip ?_ | refine aw_if ?_ | refine And.intro (by first | omega | with_reducible assumption) ?_ | refine aw_exit ?_ | refine aw_ret ?_ | (simp (decide := true) (disch := omega) only [go_sem, ↓reduceIte, ↓put_at, reduceCtorEq, Nat.reduceAdd, Nat.reduceSub, Nat.reduceMul, Int.reduceToNat, Int.reducePow, Int.reduceAdd, Int.reduceSub, Int.reduceMul, Int.reduceNeg, Nat.min_eq_left, Nat.min_eq_right, Int.max_eq_left, Int.max_eq_right, Int.min_eq_left, Int.min_eq_right, Nat.reduceLeDiff])))
          refine next_s ⟨j + 1, hlt⟩ ⟨?_, by dsimp only; omega⟩
          rw [hgs]
          simp (decide := true) (disch := omega) only [go_sem, ↓reduceIte, ↓put_at, reduceCtorEq, Nat.reduceAdd, Nat.reduceSub, Nat.reduceMul, Int.reduceToNat, Int.reducePow, Int.reduceAdd, Int.reduceSub, Int.reduceMul, Int.reduceNeg, Nat.min_eq_left, Nat.min_eq_right, Int.max_eq_left, Int.max_eq_right, Int.min_eq_left, Int.min_eq_right, Nat.reduceLeDiff]
          rw [List.map_append]; rfl
        · have hjN : j = N := by omega
          subst hjN
          have e1 : (4 * (j : Int)).toNat = 4 * j := by omega
          have hdl : (b.drop (4 * j)).length = b.length - 4 * j := List.length_drop
          (repeat (first | refine aw_seq ?_ | refine aw_block ?_ | refine aw_reg hC (by kernel_rfl) ?_ | refine aw_regd hC Try.checked.mixed (by kernel_rfl) ?_ | refine chk_and (by kernel_rfl) ?_ | refine aw_skip ?_ | refine aw_if ?_ | refine And.intro (by first | omega | with_reducible assumption) ?_ | refine aw_exit ?_ | refine aw_ret ?_ | (simp (decide := true) (disch := omega) only [go_sem, ↓reduceIte, ↓put_at, reduceCtorEq, Nat.reduceAdd, Nat.reduceSub, Nat.reduceMul, Int.reduceToNat, Int.reducePow, Int.reduceAdd, Int.reduceSub, Int.reduceMul, Int.reduceNeg, Nat.min_eq_left, Nat.min_eq_right, Int.max_eq_left, Int.max_eq_right, Int.min_eq_left, Int.min_eq_right, Nat.reduceLeDiff])))
          simp only [e1]
          have hsl : (b.drop (4 * j)).length ≤ 9223372036854775807 := by omega
          generalize b.drop (4 * j) = s at *
          by_cases hs : s = []
          · subst hs
            rw [if_pos (hgood.2 (.inl rfl))] at hE
            subst hE
            rw [if_pos rfl, if_pos rfl] at hR
            subst hR
            have hb : (([] : List UInt8) == []) = true := rfl
            simp only [hb]
            (repeat (first | refine aw_seq ?_ | refine aw_block ?_ | refine aw_reg hC (by kernel_rfl) ?_ | refine aw_regd hC Try.checked.mixed (by kernel_rfl) ?_ | refine chk_and (by kernel_rfl) ?_ | refine aw_skip ?_ | refine aw_if ?_ | refine And.intro (by first | omega | with_reducible assumption) ?_ | refine aw_exit ?_ | refine aw_ret ?_ | (simp (decide := true) (disch := omega) only [go_sem, ↓reduceIte, ↓put_at, reduceCtorEq, Nat.reduceAdd, Nat.reduceSub, Nat.reduceMul, Int.reduceToNat, Int.reducePow, Int.reduceAdd, Int.reduceSub, Int.reduceMul, Int.reduceNeg, Nat.min_eq_left, Nat.min_eq_right, Int.max_eq_left, Int.max_eq_right, Int.min_eq_left, Int.min_eq_right, Nat.reduceLeDiff])))
            (refine ret_s [] ?_; simp (decide := true) (disch := omega) only [go_sem, ↓reduceIte, ↓put_at, reduceCtorEq, Nat.reduceAdd, Nat.reduceSub, Nat.reduceMul, Int.reduceToNat, Int.reducePow, Int.reduceAdd, Int.reduceSub, Int.reduceMul, Int.reduceNeg, Nat.min_eq_left, Nat.min_eq_right, Int.max_eq_left, Int.max_eq_right, Int.min_eq_left, Int.min_eq_right, Nat.reduceLeDiff])
          · have hb : (s == []) = false := by simpa using hs
            have hs0 : 0 < s.length := List.length_pos_iff.2 hs
            simp only [hb]
            have hn1 : (s.getD 0 0).toNat < 256 := UInt8.toNat_lt _
            generalize hv : (s.getD 0 0).toNat = v at *
            by_cases hv0 : v = 0
            · rw [if_neg (fun h => by rcases hgood.1 h with h | h; exact hs h; exact h.1 hv0)] at hE
              subst hE
              rw [if_neg (by decide)] at hR
              subst hR
              (repeat (first | refine aw_seq ?_ | refine aw_block ?_ | refine aw_reg hC (by kernel_rfl) ?_ | refine aw_regd hC Try.checked.mixed (by kernel_rfl) ?_ | refine chk_and (by kernel_rfl) ?_ | refine aw_skip ?_ | refine aw_if ?_ | refine And.intro (by first | omega | with_reducible assumption) ?_ | refine aw_exit ?_ | refine aw_ret ?_ | (simp (decide := true) (disch := omega) only [go_sem, ↓reduceIte, ↓put_at, reduceCtorEq, Nat.reduceAdd, Nat.reduceSub, Nat.reduceMul, Int.reduceToNat, Int.reducePow, Int.reduceAdd, Int.reduceSub, Int.reduceMul, Int.reduceNeg, Nat.min_eq_left, Nat.min_eq_right, Int.max_eq_left, Int.max_eq_right, Int.min_eq_left, Int.min_eq_right, Nat.reduceLeDiff])))
              rw [hv]
              (repeat (first | refine aw_seq ?_ | refine aw_block ?_ | refine aw_reg hC (by kernel_rfl) ?_ | refine aw_regd hC Try.checked.mixed (by kernel_rfl) ?_ | refine chk_and (by kernel_rfl) ?_ | refine aw_skip ?_ | refine aw_if ?_ | refine And.intro (by first | omega | with_reducible assumption) ?_ | refine aw_exit ?_ | refine aw_ret ?_ | (simp (decide := true) (disch := omega) only [go_sem, ↓reduceIte, ↓put_at, reduceCtorEq, Nat.reduceAdd, Nat.reduceSub, Nat.reduceMul, Int.reduceToNat, Int.reducePow, Int.reduceAdd, Int.reduceSub, Int.reduceMul, Int.reduceNeg, Nat.min_eq_left, Nat.min_eq_right, Int.max_eq_left, Int.max_eq_right, Int.min_eq_left, Int.min_eq_right, Nat.reduceLeDiff])))
              (refine ret_s [] ?_; simp (decide := true) (disch := omega) only [go_sem, ↓reduceIte, ↓put_at, reduceCtorEq, Nat.reduceAdd, Nat.reduceSub, Nat.reduceMul, Int.reduceToNat, Int.reducePow, Int.reduceAdd, Int.reduceSub, Int.reduceMul, Int.reduceNeg, Nat.min_eq_left, Nat.min_eq_right, Int.max_eq_left, Int.max_eq_right, Int.min_eq_left, Int.min_eq_right, Nat.reduceLeDiff])
            by_cases hvl : s.length ≤ v
            · rw [if_neg (fun h => by rcases hgood.1 h with h | h; exact hs h; omega)] at hE
              subst hE
              rw [if_neg (by decide)] at hR
              subst hR
              (repeat (first | refine aw_seq ?_ | refine aw_block ?_ | refine aw_reg hC (by kernel_rfl) ?_ | refine aw_regd hC Try.checked.mixed (by kernel_rfl) ?_ | refine chk_and (by kernel_rfl) ?_ | refine aw_skip ?_ | refine aw_if ?_ | refine And.intro (by first | omega | with_reducible assumption) ?_ | refine aw_exit ?_ | refine aw_ret ?_ | (simp (decide := true) (disch := omega) only [go_sem, ↓reduceIte, ↓put_at, reduceCtorEq, Nat.reduceAdd, Nat.reduceSub, Nat.reduceMul, Int.reduceToNat, Int.reducePow, Int.reduceAdd, Int.reduceSub, Int.reduceMul, Int.reduceNeg, Nat.min_eq_left, Nat.min_eq_right, Int.max_eq_left, Int.max_eq_right, Int.min_eq_left, Int.min_eq_right, Nat.reduceLeDiff])))
              rw [hv]
              (repeat (first | refine aw_seq ?_ | refine aw_block ?_ | refine aw_reg hC (by kernel_rfl) ?_ | refine aw_regd hC Try.checked.mixed (by kernel_rfl) ?_ | refine chk_and (by kernel_rfl) ?_ | refine aw_skip ?_ | refine aw_if ?_ | refine And.intro (by first | omega | with_reducible assumption) ?_ | refine aw_exit ?_ | refine aw_ret ?_ | (simp (decide := true) (disch := omega) only [go_sem, ↓reduceIte, ↓put_at, reduceCtorEq, Nat.reduceAdd, Nat.reduceSub, Nat.reduceMul, Int.reduceToNat, Int.reducePow, Int.reduceAdd, Int.reduceSub, Int.reduceMul, Int.reduceNeg, Nat.min_eq_left, Nat.min_eq_right, Int.max_eq_left, Int.max_eq_right, Int.min_eq_left, Int.min_eq_right, Nat.reduceLeDiff])))
              (refine ret_s [] ?_; simp (decide := true) (disch := omega) only [go_sem, ↓reduceIte, ↓put_at, reduceCtorEq, Nat.reduceAdd, Nat.reduceSub, Nat.reduceMul, Int.reduceToNat, Int.reducePow, Int.reduceAdd, Int.reduceSub, Int.reduceMul, Int.reduceNeg, Nat.min_eq_left, Nat.min_eq_right, Int.max_eq_left, Int.max_eq_right, Int.min_eq_left, Int.min_eq_right, Nat.reduceLeDiff])
            · have c1 := ref_fill (s.take (v + 1)) (by rw [List.length_take]; omega)
              have ev : ((v : Int) + 1).toNat = v + 1 := by omega
              by_cases hf : fillB (s.take (v + 1)) = s
              · have hbf : (fillB (s.take (v + 1)) == s) = true := by simpa using hf
                rw [if_pos (hgood.2 (.inr ⟨hv0, by omega, hf⟩))] at hE
                subst hE
                rw [if_pos rfl, if_neg hs] at hR
                subst hR
                (repeat (first | refine aw_seq ?_ | refine aw_block ?_ | refine aw_reg hC (by kernel_rfl) ?_ | refine aw_regd hC Try.checked.mixed (by kernel_rfl) ?_ | refine chk_and (by kernel_rfl) ?_ | refine aw_skip ?_ | refine aw_if ?_ | refine And.intro (by first | omega | with_reducible assumption) ?_ | refine aw_exit ?_ | refine aw_ret ?_ | (simp (decide := true) (disch := omega) only [go_sem, ↓reduceIte, ↓put_at, reduceCtorEq, Nat.reduceAdd, Nat.reduceSub, Nat.reduceMul, Int.reduceToNat, Int.reducePow, Int.reduceAdd, Int.reduceSub, Int.reduceMul, Int.reduceNeg, Nat.min_eq_left, Nat.min_eq_right, Int.max_eq_left, Int.max_eq_right, Int.min_eq_left, Int.min_eq_right, Nat.reduceLeDiff])))
                rw [hv]
                (repeat (first | refine aw_seq ?_ | refine aw_block ?_ | refine aw_reg hC (by kernel_rfl) ?_ | refine aw_regd hC Try.checked.mixed (by kernel_rfl) ?_ | refine chk_and (by kernel_rfl) ?_ | refine aw_skip ?_ | refine aw_if ?_ | refine And.intro (by first | omega | with_reducible assumption) ?_ | refine aw_exit ?_ | refine aw_ret ?_ | (simp (decide := true) (disch := omega) only [go_sem, ↓reduceIte, ↓put_at, reduceCtorEq, Nat.reduceAdd, Nat.reduceSub, Nat.reduceMul, Int.reduceToNat, Int.reducePow, Int.reduceAdd, Int.reduceSub, Int.reduceMul, Int.reduceNeg, Nat.min_eq_left, Nat.min_eq_right, Int.max_eq_left, Int.max_eq_right, Int.min_eq_left, Int.min_eq_right, Nat.reduceLeDiff])))
                simp only [ev]
                refine gcall_s Try.call73 c1 [] ?_
                (repeat (first | refine aw_seq ?_ | refine aw_block ?_ | refine aw_reg hC (by kernel_rfl) ?_ | refine aw_regd hC Try.checked.mixed (by kernel_rfl) ?_ | refine chk_and (by kernel_rfl) ?_ | refine aw_skip ?_ | refine aw_if ?_ | refine And.intro (by first | omega | with_reducible assumption) ?_ | refine aw_exit ?_ | refine aw_ret ?_ | (simp (decide := true) (disch := omega) only [go_sem, ↓reduceIte, ↓put_at, reduceCtorEq, Nat.reduceAdd, Nat.reduceSub, Nat.reduceMul, Int.reduceToNat, Int.reducePow, Int.reduceAdd, Int.reduceSub, Int.reduceMul, Int.reduceNeg, Nat.min_eq_left, Nat.min_eq_right, Int.max_eq_left, Int.max_eq_right, Int.min_eq_left, Int.min_eq_right, Nat.reduceLeDiff])))
                simp only [hbf]
                (repeat (first | refine aw_seq ?_ | refine aw_block ?_ | refine aw_reg hC (by kernel_rfl) ?_ | refine aw_regd hC Try.checked.mixed (by kernel_rfl) ?_ | refine chk_and (by kernel_rfl) ?_ | refine aw_skip ?_ | refine aw_if ?_ | refine And.intro (by first | omega | with_reducible assumption) ?_ | refine aw_exit ?_ | refine aw_ret ?_ | (simp (decide := true) (disch := omega) only [go_sem, ↓reduceIte, ↓put_at, reduceCtorEq, Nat.reduceAdd, Nat.reduceSub, Nat.reduceMul, Int.reduceToNat, Int.reducePow, Int.reduceAdd, Int.reduceSub, Int.reduceMul, Int.reduceNeg, Nat.min_eq_left, Nat.min_eq_right, Int.max_eq_left, Int.max_eq_right, Int.min_eq_left, Int.min_eq_right, Nat.reduceLeDiff])))
                (refine ret_s [] ?_; simp (decide := true) (disch := omega) only [go_sem, ↓reduceIte, ↓put_at, reduceCtorEq, Nat.reduceAdd, Nat.reduceSub, Nat.reduceMul, Int.reduceToNat, Int.reducePow, Int.reduceAdd, Int.reduceSub, Int.reduceMul, Int.reduceNeg, Nat.min_eq_left, Nat.min_eq_right, Int.max_eq_left, Int.max_eq_right, Int.min_eq_left, Int.min_eq_right, Nat.reduceLeDiff])
                try simp only [ev, Nat.add_sub_cancel]
              · have hbf : (fillB (s.take (v + 1)) == s) = false := by simpa using hf
                rw [if_neg (fun h => by rcases hgood.1 h with h | h; exact hs h; exact hf h.2.2)] at hE
                subst hE
                rw [if_neg (by decide)] at hR
                subst hR
                (repeat (first | refine aw_seq ?_ | refine aw_block ?_ | refine aw_reg hC (by kernel_rfl) ?_ | refine aw_regd hC Try.checked.mixed (by kernel_rfl) ?_ | refine chk_and (by kernel_rfl) ?_ | refine aw_skip ?_ | refine aw_if ?_ | refine And.intro (by first | omega | with_reducible assumption) ?_ | refine aw_exit ?_ | refine aw_ret ?_ | (simp (decide := true) (disch := omega) only [go_sem, ↓reduceIte, ↓put_at, reduceCtorEq, Nat.reduceAdd, Nat.reduceSub, Nat.reduceMul, Int.reduceToNat, Int.reducePow, Int.reduceAdd, Int.reduceSub, Int.reduceMul, Int.reduceNeg, Nat.min_eq_left, Nat.min_eq_right, Int.max_eq_left, Int.max_eq_right, Int.min_eq_left, Int.min_eq_right, Nat.reduceLeDiff])))
                rw [hv]
                (repeat (first | refine aw_seq ?_ | refine aw_block ?_ | refine aw_reg hC (by kernel_rfl) ?_ | refine aw_regd hC Try.checked.mixed (by kernel_rfl) ?_ | refine chk_and (by kernel_rfl) ?_ | refine aw_skip ?_ | refine aw_if ?_ | refine And.intro (by first | omega | with_reducible assumption) ?_ | refine aw_exit ?_ | refine aw_ret ?_ | (simp (decide := true) (disch := omega) only [go_sem, ↓reduceIte, ↓put_at, reduceCtorEq, Nat.reduceAdd, Nat.reduceSub, Nat.reduceMul, Int.reduceToNat, Int.reducePow, Int.reduceAdd, Int.reduceSub, Int.reduceMul, Int.reduceNeg, Nat.min_eq_left, Nat.min_eq_right, Int.max_eq_left, Int.max_eq_right, Int.min_eq_left, Int.min_eq_right, Nat.reduceLeDiff])))
                simp only [ev]
                refine gcall_s Try.call73 c1 [] ?_
                (repeat (first | refine aw_seq ?_ | refine aw_block ?_ | refine aw_reg hC (by kernel_rfl) ?_ | refine aw_regd hC Try.checked.mixed (by kernel_rfl) ?_ | refine chk_and (by kernel_rfl) ?_ | refine aw_skip ?_ | refine aw_if ?_ | refine And.intro (by first | omega | with_reducible assumption) ?_ | refine aw_exit ?_ | refine aw_ret ?_ | (simp (decide := true) (disch := omega) only [go_sem, ↓reduceIte, ↓put_at, reduceCtorEq, Nat.reduceAdd, Nat.reduceSub, Nat.reduceMul, Int.reduceToNat, Int.reducePow, Int.reduceAdd, Int.reduceSub, Int.reduceMul, Int.reduceNeg, Nat.min_eq_left, Nat.min_eq_right, Int.max_eq_left, Int.max_eq_right, Int.min_eq_left, Int.min_eq_right, Nat.reduceLeDiff])))
                simp only [hbf]
                (repeat (first | refine aw_seq ?_ | refine aw_block ?_ | refine aw_reg hC (by kernel_rfl) ?_ | refine aw_regd hC Try.checked.mixed (by kernel_rfl) ?_ | refine chk_and (by kernel_rfl) ?_ | refine aw_skip ?_ | refine aw_if ?_ | refine And.intro (by first | omega | with_reducible assumption) ?_ | refine aw_exit ?_ | refine aw_ret ?_ | (simp (decide := true) (disch := omega) only [go_sem, ↓reduceIte, ↓put_at, reduceCtorEq, Nat.reduceAdd, Nat.reduceSub, Nat.reduceMul, Int.reduceToNat, Int.reducePow, Int.reduceAdd, Int.reduceSub, Int.reduceMul, Int.reduceNeg, Nat.min_eq_left, Nat.min_eq_right, Int.max_eq_left, Int.max_eq_right, Int.min_eq_left, Int.min_eq_right, Nat.reduceLeDiff])))
                (refine ret_s [] ?_; simp (decide := true) (disch := omega) only [go_sem, ↓reduceIte, ↓put_at, reduceCtorEq, Nat.reduceAdd, Nat.reduceSub, Nat.reduceMul, Int.reduceToNat, Int.reducePow, Int.reduceAdd, Int.reduceSub, Int.reduceMul, Int.reduceNeg, Nat.min_eq_left, Nat.min_eq_right, Int.max_eq_left, Int.max_eq_right, Int.min_eq_left, Int.min_eq_right, Nat.reduceLeDiff])
  · rw [if_pos hk] at hE
    subst hE
    rw [if_neg (by decide)] at hR
    subst hR
    refine spec_of Try.func47 rfl Try.ntmps47 Try.results47 ⟨by decide, by simp⟩ fun C hC => ?_
    (repeat (first | refine aw_seq ?_ | refine aw_block ?_ | refine aw_reg hC (by kernel_rfl) ?_ | refine aw_regd hC Try.checked.mixed (by kernel_rfl) ?_ | refine chk_and (by kernel_rfl) ?_ | refine aw_skip ?_ | refine aw_if ?_ | refine And.intro (by first | omega | with_reducible assumption) ?_ | refine aw_exit ?_ | refine aw_ret ?_ | (simp (decide := true) (disch := omega) only [go_sem, ↓reduceIte, ↓put_at, reduceCtorEq, Nat.reduceAdd, Nat.reduceSub, Nat.reduceMul, Int.reduceToNat, Int.reducePow, Int.reduceAdd, Int.reduceSub, Int.reduceMul, Int.reduceNeg, Nat.min_eq_left, Nat.min_eq_right, Int.max_eq_left, Int.max_eq_right, Int.min_eq_left, Int.min_eq_right, Nat.reduceLeDiff])))
    (refine ret_s [] ?_; simp (decide := true) (disch := omega) only [go_sem, ↓reduceIte, ↓put_at, reduceCtorEq, Nat.reduceAdd, Nat.reduceSub, Nat.reduceMul, Int.reduceToNat, Int.reducePow, Int.reduceAdd, Int.reduceSub, Int.reduceMul, Int.reduceNeg, Nat.min_eq_left, Nat.min_eq_right, Int.max_eq_left, Int.max_eq_right, Int.min_eq_left, Int.min_eq_right, Nat.reduceLeDiff])
end Go.Proofs.Ytlhkhncdnaibgaa
