
/- Package notes: goodbyes and words as pieces; and their references. -/
import Derived.Test.YtlhkhncdnaibgaaNotes1
namespace Go.Proofs.Ytlhkhncdnaibgaa
open Go.RowKit
set_option linter.unusedVariables false
set_option linter.unusedSimpArgs false

attribute [go_sem] putZ_length
def intok (n : Int) : Prop := -9223372036854775808 ≤ n ∧ n ≤ 9223372036854775807
def u32in (n : Int) : Prop := 0 ≤ n ∧ n < 4294967296
set_option maxRecDepth 100000 in
set_option maxHeartbeats 4000000 in
theorem ref_names9 (l : List N9) (hl : l.length ≤ 1000) (ho : ∀ x ∈ l, (-9223372036854775808 ≤ x.src ∧ x.src ≤ 9223372036854775807) ∧ x.text.length ≤ maxLen) : Spec Try.prog 42 [.ca (.val (.lst 2 (l.map zn9El)))] [] (.ca (.val (pcV (namesP l)))) [] := by
  obtain ⟨R, hR⟩ : ∃ R, R = namesP l := ⟨_, rfl⟩
  rw [← hR]
  unfold namesP at hR
  refine spec_of Try.func42 rfl Try.ntmps42 Try.results42 ⟨by decide, by simp⟩ fun C hC => ?_
  (repeat (first | refine aw_seq ?_ | refine aw_block ?_ | refine aw_reg hC (by kernel_rfl) ?_ | refine aw_regd hC Try.checked.mixed (by kernel_rfl) ?_ | refine chk_and (by kernel_rfl) ?_ | refine aw_skip ?_ | refine aw_if ?_ | refine And.intro (by first | omega | with_reducible assumption) ?_ | refine aw_exit ?_ | refine aw_ret ?_ | (simp (decide := true) (disch := omega) only [go_sem, ↓reduceIte, ↓put_at, reduceCtorEq, Nat.reduceAdd, Nat.reduceSub, Nat.reduceMul, Int.reduceToNat, Int.reducePow, Int.reduceAdd, Int.reduceSub, Int.reduceMul, Int.reduceNeg, Nat.min_eq_left, Nat.min_eq_right, Int.max_eq_left, Int.max_eq_right, Int.min_eq_left, Int.min_eq_right, Nat.reduceLeDiff])))
  refine loop_s (α := {j : Nat // j ≤ l.length ∧ (l.take j).all mayN = true}) (fun j => [(.s 0, .av (.val (.lst 2 (l.map zn9El)))), (.s 2, .av (.ptr (2, 0) 0 0)), (.o (2, 0), .num 3), (.c (2, 0) 0, .av (.val (vi 0))), (.c (2, 0) 1, .av (.val (vi 0))), (.c (2, 0) 2, .av (.val (vs []))), (.s 3, .av (.val (vs ((l.take j.1).flatMap itemB)))), (.s 6, .av (.val (.lst 2 (l.map zn9El)))), (.s 7, .av (.val (vi l.length))), (.s 8, .av (.val (vi j.1)))]) (fun j => l.length - j.1) ⟨0, Nat.zero_le _, rfl⟩ ?_ (fun j => ?_)
  · simp only [List.take_zero, List.flatMap_nil]
    simp (decide := true) (disch := omega) only [go_sem, ↓reduceIte, ↓put_at, reduceCtorEq, Nat.reduceAdd, Nat.reduceSub, Nat.reduceMul, Int.reduceToNat, Int.reducePow, Int.reduceAdd, Int.reduceSub, Int.reduceMul, Int.reduceNeg, Nat.min_eq_left, Nat.min_eq_right, Int.max_eq_left, Int.max_eq_right, Int.min_eq_left, Int.min_eq_right, Nat.reduceLeDiff]
  · obtain ⟨j, hj, ha⟩ := j
    dsimp only at hj ⊢
    have hw := items_le _ ha
    have hwm := items_mod (l.take j)
    rw [List.length_take, Nat.min_eq_left hj] at hw
    by_cases hlt : j < l.length
    · have ht : l.take (j + 1) = l.take j ++ [l[j]] := List.take_succ_eq_append_getElem hlt
      have hmem := List.getElem_mem hlt
      obtain ⟨o1, o2⟩ := ho _ hmem
      by_cases hm : mayN l[j] = true
      · have hn : (l.take (j + 1)).all mayN = true := by rw [ht, List.all_append, ha]; simp [hm]
        unfold mayN at hm
        rw [decide_eq_true_eq] at hm
        generalize hB : (l.take j).flatMap itemB = B at *
        have c1 := q_putz l[j].src 4 o1 (by decide)
        have c2 := q_putz (l[j].text.length : Int) 1 (by omega) (by decide)
        obtain ⟨D, hD⟩ : ∃ D, D = B ++ (putZ l[j].src 4 ++ [1] ++ putZ (l[j].text.length : Int) 1 ++ l[j].text ++ [0]) := ⟨_, rfl⟩
        have hDl : D.length = B.length + 7 + l[j].text.length := by rw [hD]; simp [putZ_length]; omega
        have c3 := ref_fill D (by omega)
        have e1 : (l.take (j + 1)).flatMap itemB = fillB D := by
          rw [ht, List.flatMap_append, hB]
          unfold fillB
          have e2 : padN (6 + l[j].text.length) 1 = padN D.length 0 + 1 := by unfold padN; omega
          simp only [List.flatMap_cons, List.flatMap_nil, List.append_nil, itemB, e2, hD]
          have e3 : ∀ k, zer (k + 1) = 0 :: zer k := fun k => rfl
          have e4 : putZ 1 1 = [1] := by decide
          simp [puts', e3, e4]
        rw [hD] at c3
        (repeat (first | refine aw_seq ?_ | refine aw_block ?_ | refine aw_reg hC (by kernel_rfl) ?_ | refine aw_regd hC Try.checked.mixed (by kernel_rfl) ?_ | refine chk_and (by kernel_rfl) ?_ | refine aw_skip ?_ | refine aw_if ?_ | refine And.intro (by first | omega | with_reducible assumption) ?_ | refine aw_exit ?_ | refine aw_ret ?_ | (simp (decide := true) (disch := omega) only [go_sem, ↓reduceIte, ↓put_at, reduceCtorEq, Nat.reduceAdd, Nat.reduceSub, Nat.reduceMul, Int.reduceToNat, Int.reducePow, Int.reduceAdd, Int.reduceSub, Int.reduceMul, Int.reduceNeg, Nat.min_eq_left, Nat.min_eq_right, Int.max_eq_left, Int.max_eq_right, Int.min_eq_left, Int.min_eq_right, Nat.reduceLeDiff])))
        refine call_s Try.call69 c1 [] ?_
        (repeat (first | refine aw_seq ?_ | refine aw_block ?_ | refine aw_reg hC (by kernel_rfl) ?_ | refine aw_regd hC Try.checked.mixed (by kernel_rfl) ?_ | refine chk_and (by kernel_rfl) ?_ | refine aw_skip ?_ | refine aw_if ?_ | refine And.intro (by first | omega | with_reducible assumption) ?_ | refine aw_exit ?_ | refine aw_ret ?_ | (simp (decide := true) (disch := omega) only [go_sem, ↓reduceIte, ↓put_at, reduceCtorEq, Nat.reduceAdd, Nat.reduceSub, Nat.reduceMul, Int.reduceToNat, Int.reducePow, Int.reduceAdd, Int.reduceSub, Int.reduceMul, Int.reduceNeg, Nat.min_eq_left, Nat.min_eq_right, Int.max_eq_left, Int.max_eq_right, Int.min_eq_left, Int.min_eq_right, Nat.reduceLeDiff])))
        refine call_s Try.call69 c2 [] ?_
        (repeat (first | refine aw_seq ?_ | refine aw_block ?_ | refine aw_reg hC (by kernel_rfl) ?_ | refine aw_regd hC Try.checked.mixed (by kernel_rfl) ?_ | refine chk_and (by kernel_rfl) ?_ | refine aw_skip ?_ | refine aw_if ?_ | refine And.intro (by first | omega | with_reducible assumption) ?_ | refine aw_exit ?_ | refine aw_ret ?_ | (simp (decide := true) (disch := omega) only [go_sem, ↓reduceIte, ↓put_at, reduceCtorEq, Nat.reduceAdd, Nat.reduceSub, Nat.reduceMul, Int.reduceToNat, Int.reducePow, Int.reduceAdd, Int.reduceSub, Int.reduceMul, Int.reduceNeg, Nat.min_eq_left, Nat.min_eq_right, Int.max_eq_left, Int.max_eq_right, Int.min_eq_left, Int.min_eq_right, Nat.reduceLeDiff])))
        refine call_s Try.call73 c3 [] ?_
        (repeat (first | refine aw_seq ?_ | refine aw_block ?_ | refine aw_reg hC (by kernel_rfl) ?_ | refine aw_regd hC Try.checked.mixed (by kernel_rfl) ?_ | refine chk_and (by kernel_rfl) ?_ | refine aw_skip ?_ | refine aw_if ?_ | refine And.intro (by first | omega | with_reducible assumption) ?_ | refine aw_exit ?_ | refine aw_ret ?_ | (simp (decide := true) (disch := omega) only [go_sem, ↓reduceIte, ↓put_at, reduceCtorEq, Nat.reduceAdd, Nat.reduceSub, Nat.reduceMul, Int.reduceToNat, Int.reducePow, Int.reduceAdd, Int.reduceSub, Int.reduceMul, Int.reduceNeg, Nat.min_eq_left, Nat.min_eq_right, Int.max_eq_left, Int.max_eq_right, Int.min_eq_left, Int.min_eq_right, Nat.reduceLeDiff])))
        refine next_s ⟨j + 1, hlt, hn⟩ ⟨?_, by dsimp only; omega⟩
        dsimp only
        rw [e1, hD]
        simp (decide := true) (disch := omega) only [go_sem, ↓reduceIte, ↓put_at, reduceCtorEq, Nat.reduceAdd, Nat.reduceSub, Nat.reduceMul, Int.reduceToNat, Int.reducePow, Int.reduceAdd, Int.reduceSub, Int.reduceMul, Int.reduceNeg, Nat.min_eq_left, Nat.min_eq_right, Int.max_eq_left, Int.max_eq_right, Int.min_eq_left, Int.min_eq_right, Nat.reduceLeDiff]
      · have hR0 : R = (0, 0, []) := by
          rw [hR, if_neg]
          intro h
          have := List.all_eq_true.1 h.2 _ hmem
          exact hm this
        subst hR0
        unfold mayN at hm
        rw [decide_eq_true_eq] at hm
        by_cases h0 : l[j].text.length < 1
        · (repeat (first | refine aw_seq ?_ | refine aw_block ?_ | refine aw_reg hC (by kernel_rfl) ?_ | refine aw_regd hC Try.checked.mixed (by kernel_rfl) ?_ | refine chk_and (by kernel_rfl) ?_ | refine aw_skip ?_ | refine aw_if ?_ | refine And.intro (by first | omega | with_reducible assumption) ?_ | refine aw_exit ?_ | refine aw_ret ?_ | (simp (decide := true) (disch := omega) only [go_sem, ↓reduceIte, ↓put_at, reduceCtorEq, Nat.reduceAdd, Nat.reduceSub, Nat.reduceMul, Int.reduceToNat, Int.reducePow, Int.reduceAdd, Int.reduceSub, Int.reduceMul, Int.reduceNeg, Nat.min_eq_left, Nat.min_eq_right, Int.max_eq_left, Int.max_eq_right, Int.min_eq_left, Int.min_eq_right, Nat.reduceLeDiff])))
          (refine ret_s [] ?_; simp (decide := true) (disch := omega) only [go_sem, ↓reduceIte, ↓put_at, reduceCtorEq, Nat.reduceAdd, Nat.reduceSub, Nat.reduceMul, Int.reduceToNat, Int.reducePow, Int.reduceAdd, Int.reduceSub, Int.reduceMul, Int.reduceNeg, Nat.min_eq_left, Nat.min_eq_right, Int.max_eq_left, Int.max_eq_right, Int.min_eq_left, Int.min_eq_right, Nat.reduceLeDiff])
        · (repeat (first | refine aw_seq ?_ | refine aw_block ?_ | refine aw_reg hC (by kernel_rfl) ?_ | refine aw_regd hC Try.checked.mixed (by kernel_rfl) ?_ | refine chk_and (by kernel_rfl) ?_ | refine aw_skip ?_ | refine aw_if ?_ | refine And.intro (by first | omega | with_reducible assumption) ?_ | refine aw_exit ?_ | refine aw_ret ?_ | (simp (decide := true) (disch := omega) only [go_sem, ↓reduceIte, ↓put_at, reduceCtorEq, Nat.reduceAdd, Nat.reduceSub, Nat.reduceMul, Int.reduceToNat, Int.reducePow, Int.reduceAdd, Int.reduceSub, Int.reduceMul, Int.reduceNeg, Nat.min_eq_left, Nat.min_eq_right, Int.max_eq_left, Int.max_eq_right, Int.min_eq_left, Int.min_eq_right, Nat.reduceLeDiff])))
          (refine ret_s [] ?_; simp (decide := true) (disch := omega) only [go_sem, ↓reduceIte, ↓put_at, reduceCtorEq, Nat.reduceAdd, Nat.reduceSub, Nat.reduceMul, Int.reduceToNat, Int.reducePow, Int.reduceAdd, Int.reduceSub, Int.reduceMul, Int.reduceNeg, Nat.min_eq_left, Nat.min_eq_right, Int.max_eq_left, Int.max_eq_right, Int.min_eq_left, Int.min_eq_right, Nat.reduceLeDiff])
    · have e : l.take j = l := List.take_of_length_le (by omega)
      rw [e] at hw ha
      simp only [e]
      by_cases h31 : 31 < l.length
      · rw [if_neg (by omega)] at hR
        subst hR
        (repeat (first | refine aw_seq ?_ | refine aw_block ?_ | refine aw_reg hC (by kernel_rfl) ?_ | refine aw_regd hC Try.checked.mixed (by kernel_rfl) ?_ | refine chk_and (by kernel_rfl) ?_ | refine aw_skip ?_ | refine aw_if ?_ | refine And.intro (by first | omega | with_reducible assumption) ?_ | refine aw_exit ?_ | refine aw_ret ?_ | (simp (decide := true) (disch := omega) only [go_sem, ↓reduceIte, ↓put_at, reduceCtorEq, Nat.reduceAdd, Nat.reduceSub, Nat.reduceMul, Int.reduceToNat, Int.reducePow, Int.reduceAdd, Int.reduceSub, Int.reduceMul, Int.reduceNeg, Nat.min_eq_left, Nat.min_eq_right, Int.max_eq_left, Int.max_eq_right, Int.min_eq_left, Int.min_eq_right, Nat.reduceLeDiff])))
        (refine ret_s [] ?_; simp (decide := true) (disch := omega) only [go_sem, ↓reduceIte, ↓put_at, reduceCtorEq, Nat.reduceAdd, Nat.reduceSub, Nat.reduceMul, Int.reduceToNat, Int.reducePow, Int.reduceAdd, Int.reduceSub, Int.reduceMul, Int.reduceNeg, Nat.min_eq_left, Nat.min_eq_right, Int.max_eq_left, Int.max_eq_right, Int.min_eq_left, Int.min_eq_right, Nat.reduceLeDiff])
      · rw [if_pos ⟨by omega, ha⟩] at hR
        subst hR
        (repeat (first | refine aw_seq ?_ | refine aw_block ?_ | refine aw_reg hC (by kernel_rfl) ?_ | refine aw_regd hC Try.checked.mixed (by kernel_rfl) ?_ | refine chk_and (by kernel_rfl) ?_ | refine aw_skip ?_ | refine aw_if ?_ | refine And.intro (by first | omega | with_reducible assumption) ?_ | refine aw_exit ?_ | refine aw_ret ?_ | (simp (decide := true) (disch := omega) only [go_sem, ↓reduceIte, ↓put_at, reduceCtorEq, Nat.reduceAdd, Nat.reduceSub, Nat.reduceMul, Int.reduceToNat, Int.reducePow, Int.reduceAdd, Int.reduceSub, Int.reduceMul, Int.reduceNeg, Nat.min_eq_left, Nat.min_eq_right, Int.max_eq_left, Int.max_eq_right, Int.min_eq_left, Int.min_eq_right, Nat.reduceLeDiff])))
        (refine ret_s [] ?_; simp (decide := true) (disch := omega) only [go_sem, ↓reduceIte, ↓put_at, reduceCtorEq, Nat.reduceAdd, Nat.reduceSub, Nat.reduceMul, Int.reduceToNat, Int.reducePow, Int.reduceAdd, Int.reduceSub, Int.reduceMul, Int.reduceNeg, Nat.min_eq_left, Nat.min_eq_right, Int.max_eq_left, Int.max_eq_right, Int.min_eq_left, Int.min_eq_right, Nat.reduceLeDiff])
abbrev y9L (b : Y9) : List V := [vs b.reason, .lst 1 (b.srcs.map u32El)]
abbrev zy9L (b : Y9) : List V := [vs b.reason, .lst 1 (b.srcs.map intEl)]
structure Y9.Ok (b : Y9) : Prop where
  reason : b.reason.length ≤ maxLen
  len : b.srcs.length ≤ maxLen
  srcs : ∀ n ∈ b.srcs, 0 ≤ n ∧ n < 4294967296
theorem reasonB_fill (s : List UInt8) (r : List UInt8) (hs : s.length % 4 = 0) (hr : r ≠ []) : fillB (s ++ (puts' 1 [(r.length : Int)] ++ r)) = s ++ reasonB r := by
  unfold fillB reasonB
  rw [if_neg hr]
  have e : padN (s ++ (puts' 1 [(r.length : Int)] ++ r)).length 0 = padN (1 + r.length) 0 := padN_mod _ _ _ (by simp only [List.length_append, puts'_length, List.length_cons, List.length_nil]; omega)
  rw [e]
  simp
set_option maxRecDepth 100000 in
set_option maxHeartbeats 4000000 in
theorem notes_bye (b : Y9) (ho : b.Ok) : Spec Try.prog 26 [.ca (.val (.agg (y9L b)))] [] (.ca (.val (pcV (byeP b)))) [] := by
  obtain ⟨r, ss⟩ := b
  obtain ⟨o1, o2, o3⟩ := ho
  obtain ⟨R, hR⟩ : ∃ R, R = byeP ⟨r, ss⟩ := ⟨_, rfl⟩
  rw [← hR]
  unfold byeP mayY at hR
  unfold maxLen at o1 o2
  dsimp only at *
  by_cases h1 : 31 < ss.length
  · rw [if_neg (by simp; omega)] at hR
    subst hR
    refine spec_of Try.func26 rfl Try.ntmps26 Try.results26 ⟨by decide, by simp⟩ fun C hC => ?_
    (repeat (first | refine aw_seq ?_ | refine aw_block ?_ | refine aw_reg hC (by kernel_rfl) ?_ | refine aw_regd hC Try.checked.mixed (by kernel_rfl) ?_ | refine chk_and (by kernel_rfl) ?_ | refine aw_skip ?_ | refine aw_if ?_ | refine And.intro (by first | omega | with_reducible assumption) ?_ | refine aw_exit ?_ | refine aw_ret ?_ | (simp (decide := true) (disch := omega) only [go_sem, ↓reduceIte, ↓put_at, reduceCtorEq, Nat.reduceAdd, Nat.reduceSub, Nat.reduceMul, Int.reduceToNat, Int.reducePow, Int.reduceAdd, Int.reduceSub, Int.reduceMul, Int.reduceNeg, Nat.min_eq_left, Nat.min_eq_right, Int.max_eq_left, Int.max_eq_right, Int.min_eq_left, Int.min_eq_right, Nat.reduceLeDiff])))
    (refine ret_s [] ?_; simp (decide := true) (disch := omega) only [go_sem, ↓reduceIte, ↓put_at, reduceCtorEq, Nat.reduceAdd, Nat.reduceSub, Nat.reduceMul, Int.reduceToNat, Int.reducePow, Int.reduceAdd, Int.reduceSub, Int.reduceMul, Int.reduceNeg, Nat.min_eq_left, Nat.min_eq_right, Int.max_eq_left, Int.max_eq_right, Int.min_eq_left, Int.min_eq_right, Nat.reduceLeDiff])
  by_cases h2 : 255 < r.length
  · rw [if_neg (by simp; omega)] at hR
    subst hR
    refine spec_of Try.func26 rfl Try.ntmps26 Try.results26 ⟨by decide, by simp⟩ fun C hC => ?_
    (repeat (first | refine aw_seq ?_ | refine aw_block ?_ | refine aw_reg hC (by kernel_rfl) ?_ | refine aw_regd hC Try.checked.mixed (by kernel_rfl) ?_ | refine chk_and (by kernel_rfl) ?_ | refine aw_skip ?_ | refine aw_if ?_ | refine And.intro (by first | omega | with_reducible assumption) ?_ | refine aw_exit ?_ | refine aw_ret ?_ | (simp (decide := true) (disch := omega) only [go_sem, ↓reduceIte, ↓put_at, reduceCtorEq, Nat.reduceAdd, Nat.reduceSub, Nat.reduceMul, Int.reduceToNat, Int.reducePow, Int.reduceAdd, Int.reduceSub, Int.reduceMul, Int.reduceNeg, Nat.min_eq_left, Nat.min_eq_right, Int.max_eq_left, Int.max_eq_right, Int.min_eq_left, Int.min_eq_right, Nat.reduceLeDiff])))
    (refine ret_s [] ?_; simp (decide := true) (disch := omega) only [go_sem, ↓reduceIte, ↓put_at, reduceCtorEq, Nat.reduceAdd, Nat.reduceSub, Nat.reduceMul, Int.reduceToNat, Int.reducePow, Int.reduceAdd, Int.reduceSub, Int.reduceMul, Int.reduceNeg, Nat.min_eq_left, Nat.min_eq_right, Int.max_eq_left, Int.max_eq_right, Int.min_eq_left, Int.min_eq_right, Nat.reduceLeDiff])
  rw [if_pos (by simp; omega)] at hR
  have hq := puts'_length 4 ss
  have c1 := out_u32 [] ss (by simp only [List.length_nil]; omega) o3
  rw [List.nil_append] at c1
  by_cases hr : r = []
  · subst hr
    have hR' : R = ((ss.length : Int), 203, puts' 4 ss) := by rw [hR]; simp [reasonB]
    subst hR'
    refine spec_of Try.func26 rfl Try.ntmps26 Try.results26 ⟨by decide, by simp⟩ fun C hC => ?_
    (repeat (first | refine aw_seq ?_ | refine aw_block ?_ | refine aw_reg hC (by kernel_rfl) ?_ | refine aw_regd hC Try.checked.mixed (by kernel_rfl) ?_ | refine chk_and (by kernel_rfl) ?_ | refine aw_skip ?_ | refine aw_if ?_ | refine And.intro (by first | omega | with_reducible assumption) ?_ | refine aw_exit ?_ | refine aw_ret ?_ | (simp (decide := true) (disch := omega) only [go_sem, ↓reduceIte, ↓put_at, reduceCtorEq, Nat.reduceAdd, Nat.reduceSub, Nat.reduceMul, Int.reduceToNat, Int.reducePow, Int.reduceAdd, Int.reduceSub, Int.reduceMul, Int.reduceNeg, Nat.min_eq_left, Nat.min_eq_right, Int.max_eq_left, Int.max_eq_right, Int.min_eq_left, Int.min_eq_right, Nat.reduceLeDiff])))
    refine call_s Try.call70 c1 [(3, 0)] ?_
    (repeat (first | refine aw_seq ?_ | refine aw_block ?_ | refine aw_reg hC (by kernel_rfl) ?_ | refine aw_regd hC Try.checked.mixed (by kernel_rfl) ?_ | refine chk_and (by kernel_rfl) ?_ | refine aw_skip ?_ | refine aw_if ?_ | refine And.intro (by first | omega | with_reducible assumption) ?_ | refine aw_exit ?_ | refine aw_ret ?_ | (simp (decide := true) (disch := omega) only [go_sem, ↓reduceIte, ↓put_at, reduceCtorEq, Nat.reduceAdd, Nat.reduceSub, Nat.reduceMul, Int.reduceToNat, Int.reducePow, Int.reduceAdd, Int.reduceSub, Int.reduceMul, Int.reduceNeg, Nat.min_eq_left, Nat.min_eq_right, Int.max_eq_left, Int.max_eq_right, Int.min_eq_left, Int.min_eq_right, Nat.reduceLeDiff])))
    refine call_s Try.call67 (out_bytes (puts' 4 ss) (by omega)) [(3, 0)] ?_
    (repeat (first | refine aw_seq ?_ | refine aw_block ?_ | refine aw_reg hC (by kernel_rfl) ?_ | refine aw_regd hC Try.checked.mixed (by kernel_rfl) ?_ | refine chk_and (by kernel_rfl) ?_ | refine aw_skip ?_ | refine aw_if ?_ | refine And.intro (by first | omega | with_reducible assumption) ?_ | refine aw_exit ?_ | refine aw_ret ?_ | (simp (decide := true) (disch := omega) only [go_sem, ↓reduceIte, ↓put_at, reduceCtorEq, Nat.reduceAdd, Nat.reduceSub, Nat.reduceMul, Int.reduceToNat, Int.reducePow, Int.reduceAdd, Int.reduceSub, Int.reduceMul, Int.reduceNeg, Nat.min_eq_left, Nat.min_eq_right, Int.max_eq_left, Int.max_eq_right, Int.min_eq_left, Int.min_eq_right, Nat.reduceLeDiff])))
    (refine ret_s [] ?_; simp (decide := true) (disch := omega) only [go_sem, ↓reduceIte, ↓put_at, reduceCtorEq, Nat.reduceAdd, Nat.reduceSub, Nat.reduceMul, Int.reduceToNat, Int.reducePow, Int.reduceAdd, Int.reduceSub, Int.reduceMul, Int.reduceNeg, Nat.min_eq_left, Nat.min_eq_right, Int.max_eq_left, Int.max_eq_right, Int.min_eq_left, Int.min_eq_right, Nat.reduceLeDiff])
  · have hb : (r == []) = false := by simpa using hr
    have hrl : 0 < r.length := List.length_pos_iff.2 hr
    have hq2 := puts'_length 1 [(r.length : Int)]
    simp only [List.length_cons, List.length_nil] at hq2
    have c2 := out_u8 (puts' 4 ss) [(r.length : Int)] (by simp only [List.length_cons, List.length_nil]; omega)
    have c3 := out_raw (puts' 4 ss ++ puts' 1 [(r.length : Int)]) [r] (by simp only [List.length_append, List.flatten_cons, List.flatten_nil, List.append_nil]; omega) (by simp)
    have c4 := notes_pad (puts' 4 ss ++ puts' 1 [(r.length : Int)] ++ [r].flatten) 0 (by decide) (by simp only [List.length_append, List.flatten_cons, List.flatten_nil, List.append_nil]; omega)
    have e1 : padN (puts' 4 ss ++ puts' 1 [(r.length : Int)] ++ [r].flatten).length 0 = padN (1 + r.length) 0 := padN_mod _ _ _ (by simp only [List.length_append, List.flatten_cons, List.flatten_nil, List.append_nil]; omega)
    rw [e1] at c4
    have hpz := zer_len (padN (1 + r.length) 0)
    have hpz2 : padN (1 + r.length) 0 ≤ 4 := by unfold padN; omega
    have e2 : puts' 4 ss ++ puts' 1 [(r.length : Int)] ++ [r].flatten ++ zer (padN (1 + r.length) 0) = puts' 4 ss ++ reasonB r := by unfold reasonB; rw [if_neg hr]; simp
    have e3 : (puts' 4 ss ++ reasonB r).length ≤ 1000 := by rw [← e2]; simp only [List.length_append, List.flatten_cons, List.flatten_nil, List.append_nil]; omega
    rw [e2] at c4
    subst hR
    refine spec_of Try.func26 rfl Try.ntmps26 Try.results26 ⟨by decide, by simp⟩ fun C hC => ?_
    (repeat (first | refine aw_seq ?_ | refine aw_block ?_ | refine aw_reg hC (by kernel_rfl) ?_ | refine aw_regd hC Try.checked.mixed (by kernel_rfl) ?_ | refine chk_and (by kernel_rfl) ?_ | refine aw_skip ?_ | refine aw_if ?_ | refine And.intro (by first | omega | with_reducible assumption) ?_ | refine aw_exit ?_ | refine aw_ret ?_ | (simp (decide := true) (disch := omega) only [go_sem, ↓reduceIte, ↓put_at, reduceCtorEq, Nat.reduceAdd, Nat.reduceSub, Nat.reduceMul, Int.reduceToNat, Int.reducePow, Int.reduceAdd, Int.reduceSub, Int.reduceMul, Int.reduceNeg, Nat.min_eq_left, Nat.min_eq_right, Int.max_eq_left, Int.max_eq_right, Int.min_eq_left, Int.min_eq_right, Nat.reduceLeDiff])))
    refine call_s Try.call70 c1 [(3, 0)] ?_
    (repeat (first | refine aw_seq ?_ | refine aw_block ?_ | refine aw_reg hC (by kernel_rfl) ?_ | refine aw_regd hC Try.checked.mixed (by kernel_rfl) ?_ | refine chk_and (by kernel_rfl) ?_ | refine aw_skip ?_ | refine aw_if ?_ | refine And.intro (by first | omega | with_reducible assumption) ?_ | refine aw_exit ?_ | refine aw_ret ?_ | (simp (decide := true) (disch := omega) only [go_sem, ↓reduceIte, ↓put_at, reduceCtorEq, Nat.reduceAdd, Nat.reduceSub, Nat.reduceMul, Int.reduceToNat, Int.reducePow, Int.reduceAdd, Int.reduceSub, Int.reduceMul, Int.reduceNeg, Nat.min_eq_left, Nat.min_eq_right, Int.max_eq_left, Int.max_eq_right, Int.min_eq_left, Int.min_eq_right, Nat.reduceLeDiff])))
    simp only [hb]
    (repeat (first | refine aw_seq ?_ | refine aw_block ?_ | refine aw_reg hC (by kernel_rfl) ?_ | refine aw_regd hC Try.checked.mixed (by kernel_rfl) ?_ | refine chk_and (by kernel_rfl) ?_ | refine aw_skip ?_ | refine aw_if ?_ | refine And.intro (by first | omega | with_reducible assumption) ?_ | refine aw_exit ?_ | refine aw_ret ?_ | (simp (decide := true) (disch := omega) only [go_sem, ↓reduceIte, ↓put_at, reduceCtorEq, Nat.reduceAdd, Nat.reduceSub, Nat.reduceMul, Int.reduceToNat, Int.reducePow, Int.reduceAdd, Int.reduceSub, Int.reduceMul, Int.reduceNeg, Nat.min_eq_left, Nat.min_eq_right, Int.max_eq_left, Int.max_eq_right, Int.min_eq_left, Int.min_eq_right, Nat.reduceLeDiff])))
    refine call_s Try.call71 c2 [(3, 0)] ?_
    (repeat (first | refine aw_seq ?_ | refine aw_block ?_ | refine aw_reg hC (by kernel_rfl) ?_ | refine aw_regd hC Try.checked.mixed (by kernel_rfl) ?_ | refine chk_and (by kernel_rfl) ?_ | refine aw_skip ?_ | refine aw_if ?_ | refine And.intro (by first | omega | with_reducible assumption) ?_ | refine aw_exit ?_ | refine aw_ret ?_ | (simp (decide := true) (disch := omega) only [go_sem, ↓reduceIte, ↓put_at, reduceCtorEq, Nat.reduceAdd, Nat.reduceSub, Nat.reduceMul, Int.reduceToNat, Int.reducePow, Int.reduceAdd, Int.reduceSub, Int.reduceMul, Int.reduceNeg, Nat.min_eq_left, Nat.min_eq_right, Int.max_eq_left, Int.max_eq_right, Int.min_eq_left, Int.min_eq_right, Nat.reduceLeDiff])))
    refine call_s Try.call66 c3 [(3, 0)] ?_
    (repeat (first | refine aw_seq ?_ | refine aw_block ?_ | refine aw_reg hC (by kernel_rfl) ?_ | refine aw_regd hC Try.checked.mixed (by kernel_rfl) ?_ | refine chk_and (by kernel_rfl) ?_ | refine aw_skip ?_ | refine aw_if ?_ | refine And.intro (by first | omega | with_reducible assumption) ?_ | refine aw_exit ?_ | refine aw_ret ?_ | (simp (decide := true) (disch := omega) only [go_sem, ↓reduceIte, ↓put_at, reduceCtorEq, Nat.reduceAdd, Nat.reduceSub, Nat.reduceMul, Int.reduceToNat, Int.reducePow, Int.reduceAdd, Int.reduceSub, Int.reduceMul, Int.reduceNeg, Nat.min_eq_left, Nat.min_eq_right, Int.max_eq_left, Int.max_eq_right, Int.min_eq_left, Int.min_eq_right, Nat.reduceLeDiff])))
    refine call_s Try.call72 c4 [(3, 0)] ?_
    (repeat (first | refine aw_seq ?_ | refine aw_block ?_ | refine aw_reg hC (by kernel_rfl) ?_ | refine aw_regd hC Try.checked.mixed (by kernel_rfl) ?_ | refine chk_and (by kernel_rfl) ?_ | refine aw_skip ?_ | refine aw_if ?_ | refine And.intro (by first | omega | with_reducible assumption) ?_ | refine aw_exit ?_ | refine aw_ret ?_ | (simp (decide := true) (disch := omega) only [go_sem, ↓reduceIte, ↓put_at, reduceCtorEq, Nat.reduceAdd, Nat.reduceSub, Nat.reduceMul, Int.reduceToNat, Int.reducePow, Int.reduceAdd, Int.reduceSub, Int.reduceMul, Int.reduceNeg, Nat.min_eq_left, Nat.min_eq_right, Int.max_eq_left, Int.max_eq_right, Int.min_eq_left, Int.min_eq_right, Nat.reduceLeDiff])))
    refine call_s Try.call67 (out_bytes (puts' 4 ss ++ reasonB r) (by omega)) [(3, 0)] ?_
    (repeat (first | refine aw_seq ?_ | refine aw_block ?_ | refine aw_reg hC (by kernel_rfl) ?_ | refine aw_regd hC Try.checked.mixed (by kernel_rfl) ?_ | refine chk_and (by kernel_rfl) ?_ | refine aw_skip ?_ | refine aw_if ?_ | refine And.intro (by first | omega | with_reducible assumption) ?_ | refine aw_exit ?_ | refine aw_ret ?_ | (simp (decide := true) (disch := omega) only [go_sem, ↓reduceIte, ↓put_at, reduceCtorEq, Nat.reduceAdd, Nat.reduceSub, Nat.reduceMul, Int.reduceToNat, Int.reducePow, Int.reduceAdd, Int.reduceSub, Int.reduceMul, Int.reduceNeg, Nat.min_eq_left, Nat.min_eq_right, Int.max_eq_left, Int.max_eq_right, Int.min_eq_left, Int.min_eq_right, Nat.reduceLeDiff])))
    (refine ret_s [] ?_; simp (decide := true) (disch := omega) only [go_sem, ↓reduceIte, ↓put_at, reduceCtorEq, Nat.reduceAdd, Nat.reduceSub, Nat.reduceMul, Int.reduceToNat, Int.reducePow, Int.reduceAdd, Int.reduceSub, Int.reduceMul, Int.reduceNeg, Nat.min_eq_left, Nat.min_eq_right, Int.max_eq_left, Int.max_eq_right, Int.min_eq_left, Int.min_eq_right, Nat.reduceLeDiff])
end Go.Proofs.Ytlhkhncdnaibgaa
