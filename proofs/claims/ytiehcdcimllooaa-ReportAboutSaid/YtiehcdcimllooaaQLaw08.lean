/- The helpers of the laws of layer 8. -/
import Derived.Test.YtiehcdcimllooaaQReport5
import Derived.Test.YtiehcdcimllooaaQLaw07
import Derived.Test.YtiehcdcimllooaaRH
namespace Go.Proofs.Ytiehcdcimllooaa
open Go.RowKit
set_option linter.unusedVariables false
set_option linter.unusedSimpArgs false

set_option maxRecDepth 100000 in
set_option maxHeartbeats 4000000 in
theorem law_told8 (r : R8) (hr : r.Ok) (hl : r.bs.length ≤ 1099511627776) : Spec Try.prog 60 [.ca (.val (.agg (r8L r)))] [] (.ca (.val (.agg (zr8L r)))) [] := by
  obtain ⟨src, is, st, bs⟩ := r
  obtain ⟨h1, ⟨h2, h3, h4⟩, h5⟩ := hr
  dsimp only at *
  refine spec_of Try.func60 rfl Try.ntmps60 Try.results60 ⟨by decide, by simp⟩ fun C hC => ?_
  (repeat (first | refine aw_seq ?_ | refine aw_block ?_ | refine aw_reg hC (by kernel_rfl) ?_ | refine aw_regd hC Try.checked.mixed (by kernel_rfl) ?_ | refine chk_and (by kernel_rfl) ?_ | refine aw_skip ?_ | refine aw_if ?_ | refine And.intro (by first | omega | with_reducible assumption) ?_ | refine aw_exit ?_ | refine aw_ret ?_ | (simp (decide := true) (disch := omega) only [go_sem, ↓reduceIte, ↓put_at, reduceCtorEq, Nat.reduceAdd, Nat.reduceSub, Nat.reduceMul, Int.reduceToNat, Int.reducePow, Int.reduceAdd, Int.reduceSub, Int.reduceMul, Int.reduceNeg, Nat.min_eq_left, Nat.min_eq_right, Int.max_eq_left, Int.max_eq_right, Int.min_eq_left, Int.min_eq_right, Nat.reduceLeDiff])))
  refine own_c (3, 0) 6 (3, 7) 140 7 ?_
  simp (decide := true) (disch := omega) only [go_sem, ↓reduceIte, ↓put_at, reduceCtorEq, Nat.reduceAdd, Nat.reduceSub, Nat.reduceMul, Int.reduceToNat, Int.reducePow, Int.reduceAdd, Int.reduceSub, Int.reduceMul, Int.reduceNeg, Nat.min_eq_left, Nat.min_eq_right, Int.max_eq_left, Int.max_eq_right, Int.min_eq_left, Int.min_eq_right, Nat.reduceLeDiff]
  refine loop_s (α := {j : Nat // j ≤ bs.length}) (fun j => [(.s 2, .av (.ptr (2, 0) 0 0)), (.o (2, 0), .num 7), (.s 3, .av (.ptr (3, 0) 0 0)), (.o (3, 0), .num 7), (.c (3, 0) 0, .av (.val (vi src))), (.c (3, 0) 1, .av (.val (vb is))), (.c (3, 0) 2, .av (.val (vi st.clock))), (.c (3, 0) 3, .av (.val (vi st.time))), (.c (3, 0) 4, .av (.val (vi st.packets))), (.c (3, 0) 5, .av (.val (vi st.bytes))), (.c (3, 0) 6, .av (.own (3, 7) 0 140 7 ((bs.take j.1).map z8El))), (.k (3, 7), .row 140 7 (bs.take j.1).length), (.s 28, .av (.val (.lst 7 (bs.map b8El)))), (.s 29, .av (.val (vi bs.length))), (.s 30, .av (.val (vi j.1)))]) (fun j => bs.length - j.1) ⟨0, Nat.zero_le _⟩ ?_ (fun j => ?_)
  · simp only [List.take_zero, List.map_nil]
    simp (decide := true) (disch := omega) only [go_sem, ↓reduceIte, ↓put_at, reduceCtorEq, Nat.reduceAdd, Nat.reduceSub, Nat.reduceMul, Int.reduceToNat, Int.reducePow, Int.reduceAdd, Int.reduceSub, Int.reduceMul, Int.reduceNeg, Nat.min_eq_left, Nat.min_eq_right, Int.max_eq_left, Int.max_eq_right, Int.min_eq_left, Int.min_eq_right, Nat.reduceLeDiff]
  · obtain ⟨j, hj⟩ := j
    dsimp only at hj ⊢
    have hjl : (bs.take j).length = j := by rw [List.length_take]; omega
    by_cases hlt : j < bs.length
    · have ht : bs.take (j + 1) = bs.take j ++ [bs[j]] := List.take_succ_eq_append_getElem hlt
      obtain ⟨q1, q2, q3, q4, q5⟩ := h5 _ (List.getElem_mem hlt)
      (repeat (first | refine aw_seq ?_ | refine aw_block ?_ | refine aw_reg hC (by kernel_rfl) ?_ | refine aw_regd hC Try.checked.mixed (by kernel_rfl) ?_ | refine chk_and (by kernel_rfl) ?_ | refine aw_skip ?_ | refine aw_if ?_ | refine And.intro (by first | omega | with_reducible assumption) ?_ | refine aw_exit ?_ | refine aw_ret ?_ | (simp (decide := true) (disch := omega) only [go_sem, ↓reduceIte, ↓put_at, reduceCtorEq, Nat.reduceAdd, Nat.reduceSub, Nat.reduceMul, Int.reduceToNat, Int.reducePow, Int.reduceAdd, Int.reduceSub, Int.reduceMul, Int.reduceNeg, Nat.min_eq_left, Nat.min_eq_right, Int.max_eq_left, Int.max_eq_right, Int.min_eq_left, Int.min_eq_right, Nat.reduceLeDiff])))
      refine next_s ⟨j + 1, hlt⟩ ⟨?_, by dsimp only; omega⟩
      rw [ht]
      simp (decide := true) (disch := omega) only [go_sem, ↓reduceIte, ↓put_at, reduceCtorEq, Nat.reduceAdd, Nat.reduceSub, Nat.reduceMul, Int.reduceToNat, Int.reducePow, Int.reduceAdd, Int.reduceSub, Int.reduceMul, Int.reduceNeg, Nat.min_eq_left, Nat.min_eq_right, Int.max_eq_left, Int.max_eq_right, Int.min_eq_left, Int.min_eq_right, Nat.reduceLeDiff]
      rw [List.map_append]; rfl
    · rw [List.take_of_length_le (by omega)]
      (repeat (first | refine aw_seq ?_ | refine aw_block ?_ | refine aw_reg hC (by kernel_rfl) ?_ | refine aw_regd hC Try.checked.mixed (by kernel_rfl) ?_ | refine chk_and (by kernel_rfl) ?_ | refine aw_skip ?_ | refine aw_if ?_ | refine And.intro (by first | omega | with_reducible assumption) ?_ | refine aw_exit ?_ | refine aw_ret ?_ | (simp (decide := true) (disch := omega) only [go_sem, ↓reduceIte, ↓put_at, reduceCtorEq, Nat.reduceAdd, Nat.reduceSub, Nat.reduceMul, Int.reduceToNat, Int.reducePow, Int.reduceAdd, Int.reduceSub, Int.reduceMul, Int.reduceNeg, Nat.min_eq_left, Nat.min_eq_right, Int.max_eq_left, Int.max_eq_right, Int.min_eq_left, Int.min_eq_right, Nat.reduceLeDiff])))
      (refine ret_s [] ?_; simp (decide := true) (disch := omega) only [go_sem, ↓reduceIte, ↓put_at, reduceCtorEq, Nat.reduceAdd, Nat.reduceSub, Nat.reduceMul, Int.reduceToNat, Int.reducePow, Int.reduceAdd, Int.reduceSub, Int.reduceMul, Int.reduceNeg, Nat.min_eq_left, Nat.min_eq_right, Int.max_eq_left, Int.max_eq_right, Int.min_eq_left, Int.min_eq_right, Nat.reduceLeDiff])
set_option maxRecDepth 100000 in
theorem cmp_b8 (p q : B8) (w : World) : (binOp .neq 140 (.agg [.int .i64 p.src, .int .i64 p.fr, .int .i64 p.lost, .int .i64 p.hi, .int .i64 p.ji, .int .i64 p.la, .int .i64 p.de].toArray) (.agg [.int .i64 q.src, .int .i64 q.fr, .int .i64 q.lost, .int .i64 q.hi, .int .i64 q.ji, .int .i64 q.la, .int .i64 q.de].toArray)).run Try.prog w = .ok (.bool (!decide (p = q))) w := by
  obtain ⟨a, b, c, d, e, f, g⟩ := p
  obtain ⟨a', b', c', d', e', f', g'⟩ := q
  by_cases h1 : a = a'
  · by_cases h2 : b = b'
    · by_cases h3 : c = c'
      · by_cases h4 : d = d'
        · by_cases h5 : e = e'
          · by_cases h6 : f = f'
            · by_cases h7 : g = g'
              · subst h1 h2 h3 h4 h5 h6 h7
                simp [go_sem]
              · simp [go_sem, h1, h2, h3, h4, h5, h6, h7]
            · simp [go_sem, h1, h2, h3, h4, h5, h6]
          · simp [go_sem, h1, h2, h3, h4, h5]
        · simp [go_sem, h1, h2, h3, h4]
      · simp [go_sem, h1, h2, h3]
    · simp [go_sem, h1, h2]
  · simp [go_sem, h1]
set_option maxRecDepth 100000 in
set_option maxHeartbeats 4000000 in
theorem law_same8 (a b : R8) (ha : a.bs.length ≤ 1099511627776) (hb : b.bs.length ≤ 1099511627776) : Spec Try.prog 59 [.ca (.val (.agg (zr8L a))), .ca (.val (.agg (zr8L b)))] [] (.ca (.val (vb (decide (a = b))))) [] := by
  obtain ⟨s1, i1, ⟨c1, t1, p1, n1⟩, l1⟩ := a
  obtain ⟨s2, i2, ⟨c2, t2, p2, n2⟩, l2⟩ := b
  obtain ⟨M, hM⟩ : ∃ M, M = decide ((⟨s1, i1, ⟨c1, t1, p1, n1⟩, l1⟩ : R8) = ⟨s2, i2, ⟨c2, t2, p2, n2⟩, l2⟩) := ⟨_, rfl⟩
  rw [← hM]
  simp only [R8.mk.injEq, S8.mk.injEq] at hM
  dsimp only at ha hb ⊢
  refine spec_of Try.func59 rfl Try.ntmps59 Try.results59 ⟨by decide, by simp⟩ fun C hC => ?_
  (repeat ((fail_if_success (refine stop_reg 1 ?_)); (first | refine aw_seq ?_ | refine aw_block ?_ | refine aw_reg hC (by kernel_rfl) ?_ | refine aw_regd hC Try.checked.mixed (by kernel_rfl) ?_ | refine chk_and (by kernel_rfl) ?_ | refine aw_skip ?_ | refine aw_if ?_ | refine And.intro (by first | omega | with_reducible assumption) ?_ | refine aw_exit ?_ | refine aw_ret ?_ | (simp (decide := true) (disch := omega) only [go_sem, ↓reduceIte, ↓put_at, reduceCtorEq, Nat.reduceAdd, Nat.reduceSub, Nat.reduceMul, Int.reduceToNat, Int.reducePow, Int.reduceAdd, Int.reduceSub, Int.reduceMul, Int.reduceNeg, Nat.min_eq_left, Nat.min_eq_right, Int.max_eq_left, Int.max_eq_right, Int.min_eq_left, Int.min_eq_right, Nat.reduceLeDiff]))))
  refine meet_s (α := {_x : Unit // l1.length = l2.length ∧ M = decide (l1 = l2)}) (fun _ => [(.s 2, .av (.ptr (2, 0) 0 0)), (.o (2, 0), .num 7), (.c (2, 0) 6, .av (.val (.lst 7 (l1.map z8El)))), (.s 3, .av (.ptr (3, 0) 0 0)), (.o (3, 0), .num 7), (.c (3, 0) 6, .av (.val (.lst 7 (l2.map z8El)))), (.s 4, .av (.val (vb false)))]) ?_ (fun x => ?_)
  · by_cases g1 : l1.length = l2.length
    · by_cases g2 : s1 = s2
      · by_cases g3 : i1 = i2
        · subst g3
          by_cases g4 : c1 = c2
          · by_cases g5 : t1 = t2
            · by_cases g6 : p1 = p2
              · by_cases g7 : n1 = n2
                · have : M = decide (l1 = l2) := by rw [hM]; simp [g2, g4, g5, g6, g7]
                  (repeat (first | refine aw_seq ?_ | refine aw_block ?_ | refine aw_reg hC (by kernel_rfl) ?_ | refine aw_regd hC Try.checked.mixed (by kernel_rfl) ?_ | refine chk_and (by kernel_rfl) ?_ | refine aw_skip ?_ | refine aw_if ?_ | refine And.intro (by first | omega | with_reducible assumption) ?_ | refine aw_exit ?_ | refine aw_ret ?_ | (simp (decide := true) (disch := omega) only [go_sem, ↓reduceIte, ↓put_at, reduceCtorEq, Nat.reduceAdd, Nat.reduceSub, Nat.reduceMul, Int.reduceToNat, Int.reducePow, Int.reduceAdd, Int.reduceSub, Int.reduceMul, Int.reduceNeg, Nat.min_eq_left, Nat.min_eq_right, Int.max_eq_left, Int.max_eq_right, Int.min_eq_left, Int.min_eq_right, Nat.reduceLeDiff])))
                  refine at_meet ⟨(), g1, this⟩ ?_
                  simp (decide := true) (disch := omega) only [go_sem, ↓reduceIte, ↓put_at, reduceCtorEq, Nat.reduceAdd, Nat.reduceSub, Nat.reduceMul, Int.reduceToNat, Int.reducePow, Int.reduceAdd, Int.reduceSub, Int.reduceMul, Int.reduceNeg, Nat.min_eq_left, Nat.min_eq_right, Int.max_eq_left, Int.max_eq_right, Int.min_eq_left, Int.min_eq_right, Nat.reduceLeDiff]
                · have : M = false := by rw [hM]; exact decide_eq_false fun h => g7 h.2.2.1.2.2.2
                  subst this
                  (repeat (first | refine aw_seq ?_ | refine aw_block ?_ | refine aw_reg hC (by kernel_rfl) ?_ | refine aw_regd hC Try.checked.mixed (by kernel_rfl) ?_ | refine chk_and (by kernel_rfl) ?_ | refine aw_skip ?_ | refine aw_if ?_ | refine And.intro (by first | omega | with_reducible assumption) ?_ | refine aw_exit ?_ | refine aw_ret ?_ | (simp (decide := true) (disch := omega) only [go_sem, ↓reduceIte, ↓put_at, reduceCtorEq, Nat.reduceAdd, Nat.reduceSub, Nat.reduceMul, Int.reduceToNat, Int.reducePow, Int.reduceAdd, Int.reduceSub, Int.reduceMul, Int.reduceNeg, Nat.min_eq_left, Nat.min_eq_right, Int.max_eq_left, Int.max_eq_right, Int.min_eq_left, Int.min_eq_right, Nat.reduceLeDiff])))
                  (refine ret_s [] ?_; simp (decide := true) (disch := omega) only [go_sem, ↓reduceIte, ↓put_at, reduceCtorEq, Nat.reduceAdd, Nat.reduceSub, Nat.reduceMul, Int.reduceToNat, Int.reducePow, Int.reduceAdd, Int.reduceSub, Int.reduceMul, Int.reduceNeg, Nat.min_eq_left, Nat.min_eq_right, Int.max_eq_left, Int.max_eq_right, Int.min_eq_left, Int.min_eq_right, Nat.reduceLeDiff])
              · have : M = false := by rw [hM]; exact decide_eq_false fun h => g6 h.2.2.1.2.2.1
                subst this
                (repeat (first | refine aw_seq ?_ | refine aw_block ?_ | refine aw_reg hC (by kernel_rfl) ?_ | refine aw_regd hC Try.checked.mixed (by kernel_rfl) ?_ | refine chk_and (by kernel_rfl) ?_ | refine aw_skip ?_ | refine aw_if ?_ | refine And.intro (by first | omega | with_reducible assumption) ?_ | refine aw_exit ?_ | refine aw_ret ?_ | (simp (decide := true) (disch := omega) only [go_sem, ↓reduceIte, ↓put_at, reduceCtorEq, Nat.reduceAdd, Nat.reduceSub, Nat.reduceMul, Int.reduceToNat, Int.reducePow, Int.reduceAdd, Int.reduceSub, Int.reduceMul, Int.reduceNeg, Nat.min_eq_left, Nat.min_eq_right, Int.max_eq_left, Int.max_eq_right, Int.min_eq_left, Int.min_eq_right, Nat.reduceLeDiff])))
                (refine ret_s [] ?_; simp (decide := true) (disch := omega) only [go_sem, ↓reduceIte, ↓put_at, reduceCtorEq, Nat.reduceAdd, Nat.reduceSub, Nat.reduceMul, Int.reduceToNat, Int.reducePow, Int.reduceAdd, Int.reduceSub, Int.reduceMul, Int.reduceNeg, Nat.min_eq_left, Nat.min_eq_right, Int.max_eq_left, Int.max_eq_right, Int.min_eq_left, Int.min_eq_right, Nat.reduceLeDiff])
            · have : M = false := by rw [hM]; exact decide_eq_false fun h => g5 h.2.2.1.2.1
              subst this
              (repeat (first | refine aw_seq ?_ | refine aw_block ?_ | refine aw_reg hC (by kernel_rfl) ?_ | refine aw_regd hC Try.checked.mixed (by kernel_rfl) ?_ | refine chk_and (by kernel_rfl) ?_ | refine aw_skip ?_ | refine aw_if ?_ | refine And.intro (by first | omega | with_reducible assumption) ?_ | refine aw_exit ?_ | refine aw_ret ?_ | (simp (decide := true) (disch := omega) only [go_sem, ↓reduceIte, ↓put_at, reduceCtorEq, Nat.reduceAdd, Nat.reduceSub, Nat.reduceMul, Int.reduceToNat, Int.reducePow, Int.reduceAdd, Int.reduceSub, Int.reduceMul, Int.reduceNeg, Nat.min_eq_left, Nat.min_eq_right, Int.max_eq_left, Int.max_eq_right, Int.min_eq_left, Int.min_eq_right, Nat.reduceLeDiff])))
              (refine ret_s [] ?_; simp (decide := true) (disch := omega) only [go_sem, ↓reduceIte, ↓put_at, reduceCtorEq, Nat.reduceAdd, Nat.reduceSub, Nat.reduceMul, Int.reduceToNat, Int.reducePow, Int.reduceAdd, Int.reduceSub, Int.reduceMul, Int.reduceNeg, Nat.min_eq_left, Nat.min_eq_right, Int.max_eq_left, Int.max_eq_right, Int.min_eq_left, Int.min_eq_right, Nat.reduceLeDiff])
          · have : M = false := by rw [hM]; exact decide_eq_false fun h => g4 h.2.2.1.1
            subst this
            (repeat (first | refine aw_seq ?_ | refine aw_block ?_ | refine aw_reg hC (by kernel_rfl) ?_ | refine aw_regd hC Try.checked.mixed (by kernel_rfl) ?_ | refine chk_and (by kernel_rfl) ?_ | refine aw_skip ?_ | refine aw_if ?_ | refine And.intro (by first | omega | with_reducible assumption) ?_ | refine aw_exit ?_ | refine aw_ret ?_ | (simp (decide := true) (disch := omega) only [go_sem, ↓reduceIte, ↓put_at, reduceCtorEq, Nat.reduceAdd, Nat.reduceSub, Nat.reduceMul, Int.reduceToNat, Int.reducePow, Int.reduceAdd, Int.reduceSub, Int.reduceMul, Int.reduceNeg, Nat.min_eq_left, Nat.min_eq_right, Int.max_eq_left, Int.max_eq_right, Int.min_eq_left, Int.min_eq_right, Nat.reduceLeDiff])))
            (refine ret_s [] ?_; simp (decide := true) (disch := omega) only [go_sem, ↓reduceIte, ↓put_at, reduceCtorEq, Nat.reduceAdd, Nat.reduceSub, Nat.reduceMul, Int.reduceToNat, Int.reducePow, Int.reduceAdd, Int.reduceSub, Int.reduceMul, Int.reduceNeg, Nat.min_eq_left, Nat.min_eq_right, Int.max_eq_left, Int.max_eq_right, Int.min_eq_left, Int.min_eq_right, Nat.reduceLeDiff])
        · have : M = false := by rw [hM]; exact decide_eq_false fun h => g3 h.2.1
          subst this
          have gb : (i1 != i2) = true := by clear hM hC; cases i1 <;> cases i2 <;> first | rfl | exact absurd rfl g3
          (repeat (first | refine aw_seq ?_ | refine aw_block ?_ | refine aw_reg hC (by kernel_rfl) ?_ | refine aw_regd hC Try.checked.mixed (by kernel_rfl) ?_ | refine chk_and (by kernel_rfl) ?_ | refine aw_skip ?_ | refine aw_if ?_ | refine And.intro (by first | omega | with_reducible assumption) ?_ | refine aw_exit ?_ | refine aw_ret ?_ | (simp (decide := true) (disch := omega) only [go_sem, ↓reduceIte, ↓put_at, reduceCtorEq, Nat.reduceAdd, Nat.reduceSub, Nat.reduceMul, Int.reduceToNat, Int.reducePow, Int.reduceAdd, Int.reduceSub, Int.reduceMul, Int.reduceNeg, Nat.min_eq_left, Nat.min_eq_right, Int.max_eq_left, Int.max_eq_right, Int.min_eq_left, Int.min_eq_right, Nat.reduceLeDiff])))
          simp only [gb]
          (repeat (first | refine aw_seq ?_ | refine aw_block ?_ | refine aw_reg hC (by kernel_rfl) ?_ | refine aw_regd hC Try.checked.mixed (by kernel_rfl) ?_ | refine chk_and (by kernel_rfl) ?_ | refine aw_skip ?_ | refine aw_if ?_ | refine And.intro (by first | omega | with_reducible assumption) ?_ | refine aw_exit ?_ | refine aw_ret ?_ | (simp (decide := true) (disch := omega) only [go_sem, ↓reduceIte, ↓put_at, reduceCtorEq, Nat.reduceAdd, Nat.reduceSub, Nat.reduceMul, Int.reduceToNat, Int.reducePow, Int.reduceAdd, Int.reduceSub, Int.reduceMul, Int.reduceNeg, Nat.min_eq_left, Nat.min_eq_right, Int.max_eq_left, Int.max_eq_right, Int.min_eq_left, Int.min_eq_right, Nat.reduceLeDiff])))
          (refine ret_s [] ?_; simp (decide := true) (disch := omega) only [go_sem, ↓reduceIte, ↓put_at, reduceCtorEq, Nat.reduceAdd, Nat.reduceSub, Nat.reduceMul, Int.reduceToNat, Int.reducePow, Int.reduceAdd, Int.reduceSub, Int.reduceMul, Int.reduceNeg, Nat.min_eq_left, Nat.min_eq_right, Int.max_eq_left, Int.max_eq_right, Int.min_eq_left, Int.min_eq_right, Nat.reduceLeDiff])
      · have : M = false := by rw [hM]; exact decide_eq_false fun h => g2 h.1
        subst this
        (repeat (first | refine aw_seq ?_ | refine aw_block ?_ | refine aw_reg hC (by kernel_rfl) ?_ | refine aw_regd hC Try.checked.mixed (by kernel_rfl) ?_ | refine chk_and (by kernel_rfl) ?_ | refine aw_skip ?_ | refine aw_if ?_ | refine And.intro (by first | omega | with_reducible assumption) ?_ | refine aw_exit ?_ | refine aw_ret ?_ | (simp (decide := true) (disch := omega) only [go_sem, ↓reduceIte, ↓put_at, reduceCtorEq, Nat.reduceAdd, Nat.reduceSub, Nat.reduceMul, Int.reduceToNat, Int.reducePow, Int.reduceAdd, Int.reduceSub, Int.reduceMul, Int.reduceNeg, Nat.min_eq_left, Nat.min_eq_right, Int.max_eq_left, Int.max_eq_right, Int.min_eq_left, Int.min_eq_right, Nat.reduceLeDiff])))
        (refine ret_s [] ?_; simp (decide := true) (disch := omega) only [go_sem, ↓reduceIte, ↓put_at, reduceCtorEq, Nat.reduceAdd, Nat.reduceSub, Nat.reduceMul, Int.reduceToNat, Int.reducePow, Int.reduceAdd, Int.reduceSub, Int.reduceMul, Int.reduceNeg, Nat.min_eq_left, Nat.min_eq_right, Int.max_eq_left, Int.max_eq_right, Int.min_eq_left, Int.min_eq_right, Nat.reduceLeDiff])
    · have : M = false := by rw [hM]; exact decide_eq_false fun h => g1 (by rw [h.2.2.2])
      subst this
      (repeat (first | refine aw_seq ?_ | refine aw_block ?_ | refine aw_reg hC (by kernel_rfl) ?_ | refine aw_regd hC Try.checked.mixed (by kernel_rfl) ?_ | refine chk_and (by kernel_rfl) ?_ | refine aw_skip ?_ | refine aw_if ?_ | refine And.intro (by first | omega | with_reducible assumption) ?_ | refine aw_exit ?_ | refine aw_ret ?_ | (simp (decide := true) (disch := omega) only [go_sem, ↓reduceIte, ↓put_at, reduceCtorEq, Nat.reduceAdd, Nat.reduceSub, Nat.reduceMul, Int.reduceToNat, Int.reducePow, Int.reduceAdd, Int.reduceSub, Int.reduceMul, Int.reduceNeg, Nat.min_eq_left, Nat.min_eq_right, Int.max_eq_left, Int.max_eq_right, Int.min_eq_left, Int.min_eq_right, Nat.reduceLeDiff])))
      (refine ret_s [] ?_; simp (decide := true) (disch := omega) only [go_sem, ↓reduceIte, ↓put_at, reduceCtorEq, Nat.reduceAdd, Nat.reduceSub, Nat.reduceMul, Int.reduceToNat, Int.reducePow, Int.reduceAdd, Int.reduceSub, Int.reduceMul, Int.reduceNeg, Nat.min_eq_left, Nat.min_eq_right, Int.max_eq_left, Int.max_eq_right, Int.min_eq_left, Int.min_eq_right, Nat.reduceLeDiff])
  · obtain ⟨_, g1, hx⟩ := x
    clear hM
    (repeat (first | refine aw_seq ?_ | refine aw_block ?_ | refine aw_reg hC (by kernel_rfl) ?_ | refine aw_regd hC Try.checked.mixed (by kernel_rfl) ?_ | refine chk_and (by kernel_rfl) ?_ | refine aw_skip ?_ | refine aw_if ?_ | refine And.intro (by first | omega | with_reducible assumption) ?_ | refine aw_exit ?_ | refine aw_ret ?_ | (simp (decide := true) (disch := omega) only [go_sem, ↓reduceIte, ↓put_at, reduceCtorEq, Nat.reduceAdd, Nat.reduceSub, Nat.reduceMul, Int.reduceToNat, Int.reducePow, Int.reduceAdd, Int.reduceSub, Int.reduceMul, Int.reduceNeg, Nat.min_eq_left, Nat.min_eq_right, Int.max_eq_left, Int.max_eq_right, Int.min_eq_left, Int.min_eq_right, Nat.reduceLeDiff])))
    refine loop_s (α := {j : Nat // j ≤ l1.length ∧ l1.take j = l2.take j}) (fun j => [(.s 2, .av (.ptr (2, 0) 0 0)), (.o (2, 0), .num 7), (.c (2, 0) 6, .av (.val (.lst 7 (l1.map z8El)))), (.s 3, .av (.ptr (3, 0) 0 0)), (.o (3, 0), .num 7), (.c (3, 0) 6, .av (.val (.lst 7 (l2.map z8El)))), (.s 57, .av (.val (vi l1.length))), (.s 58, .av (.val (vi j.1)))]) (fun j => l1.length - j.1) ⟨0, Nat.zero_le _, rfl⟩ ?_ (fun j => ?_)
    · simp (decide := true) (disch := omega) only [go_sem, ↓reduceIte, ↓put_at, reduceCtorEq, Nat.reduceAdd, Nat.reduceSub, Nat.reduceMul, Int.reduceToNat, Int.reducePow, Int.reduceAdd, Int.reduceSub, Int.reduceMul, Int.reduceNeg, Nat.min_eq_left, Nat.min_eq_right, Int.max_eq_left, Int.max_eq_right, Int.min_eq_left, Int.min_eq_right, Nat.reduceLeDiff]
    · obtain ⟨j, hj, ht⟩ := j
      dsimp only at hj ⊢
      by_cases hlt : j < l1.length
      · have hlt' : j < l2.length := by omega
        have hc := cmp_b8 l1[j] l2[j]
        by_cases he : l1[j] = l2[j]
        · rw [decide_eq_true he] at hc
          (repeat (first | refine aw_seq ?_ | refine aw_block ?_ | refine aw_reg hC (by kernel_rfl) ?_ | refine aw_regd hC Try.checked.mixed (by kernel_rfl) ?_ | refine chk_and (by kernel_rfl) ?_ | refine aw_skip ?_ | refine aw_if ?_ | refine And.intro (by first | omega | with_reducible assumption) ?_ | refine aw_exit ?_ | refine aw_ret ?_ | (simp (decide := true) (disch := omega) only [go_sem, ↓reduceIte, ↓put_at, reduceCtorEq, Nat.reduceAdd, Nat.reduceSub, Nat.reduceMul, Int.reduceToNat, Int.reducePow, Int.reduceAdd, Int.reduceSub, Int.reduceMul, Int.reduceNeg, Nat.min_eq_left, Nat.min_eq_right, Int.max_eq_left, Int.max_eq_right, Int.min_eq_left, Int.min_eq_right, Nat.reduceLeDiff])))
          refine cmpA_s [.int .i64 l1[j].src, .int .i64 l1[j].fr, .int .i64 l1[j].lost, .int .i64 l1[j].hi, .int .i64 l1[j].ji, .int .i64 l1[j].la, .int .i64 l1[j].de] [.int .i64 l2[j].src, .int .i64 l2[j].fr, .int .i64 l2[j].lost, .int .i64 l2[j].hi, .int .i64 l2[j].ji, .int .i64 l2[j].la, .int .i64 l2[j].de] _ (.inr rfl) (by simp (decide := true) (disch := omega) only [go_sem, ↓reduceIte, ↓put_at, reduceCtorEq, Nat.reduceAdd, Nat.reduceSub, Nat.reduceMul, Int.reduceToNat, Int.reducePow, Int.reduceAdd, Int.reduceSub, Int.reduceMul, Int.reduceNeg, Nat.min_eq_left, Nat.min_eq_right, Int.max_eq_left, Int.max_eq_right, Int.min_eq_left, Int.min_eq_right, Nat.reduceLeDiff]) (by simp (decide := true) (disch := omega) only [go_sem, ↓reduceIte, ↓put_at, reduceCtorEq, Nat.reduceAdd, Nat.reduceSub, Nat.reduceMul, Int.reduceToNat, Int.reducePow, Int.reduceAdd, Int.reduceSub, Int.reduceMul, Int.reduceNeg, Nat.min_eq_left, Nat.min_eq_right, Int.max_eq_left, Int.max_eq_right, Int.min_eq_left, Int.min_eq_right, Nat.reduceLeDiff]) (by kernel_rfl) hc ?_
          (repeat (first | refine aw_seq ?_ | refine aw_block ?_ | refine aw_reg hC (by kernel_rfl) ?_ | refine aw_regd hC Try.checked.mixed (by kernel_rfl) ?_ | refine chk_and (by kernel_rfl) ?_ | refine aw_skip ?_ | refine aw_if ?_ | refine And.intro (by first | omega | with_reducible assumption) ?_ | refine aw_exit ?_ | refine aw_ret ?_ | (simp (decide := true) (disch := omega) only [go_sem, ↓reduceIte, ↓put_at, reduceCtorEq, Nat.reduceAdd, Nat.reduceSub, Nat.reduceMul, Int.reduceToNat, Int.reducePow, Int.reduceAdd, Int.reduceSub, Int.reduceMul, Int.reduceNeg, Nat.min_eq_left, Nat.min_eq_right, Int.max_eq_left, Int.max_eq_right, Int.min_eq_left, Int.min_eq_right, Nat.reduceLeDiff])))
          refine next_s ⟨j + 1, hlt, by rw [List.take_succ_eq_append_getElem hlt, List.take_succ_eq_append_getElem hlt', ht, he]⟩ ⟨?_, by dsimp only; omega⟩
          simp (decide := true) (disch := omega) only [go_sem, ↓reduceIte, ↓put_at, reduceCtorEq, Nat.reduceAdd, Nat.reduceSub, Nat.reduceMul, Int.reduceToNat, Int.reducePow, Int.reduceAdd, Int.reduceSub, Int.reduceMul, Int.reduceNeg, Nat.min_eq_left, Nat.min_eq_right, Int.max_eq_left, Int.max_eq_right, Int.min_eq_left, Int.min_eq_right, Nat.reduceLeDiff]
        · rw [decide_eq_false he] at hc
          have hM : M = false := by
            rw [hx]
            exact decide_eq_false fun e => he (by simp only [e])
          subst hM
          (repeat (first | refine aw_seq ?_ | refine aw_block ?_ | refine aw_reg hC (by kernel_rfl) ?_ | refine aw_regd hC Try.checked.mixed (by kernel_rfl) ?_ | refine chk_and (by kernel_rfl) ?_ | refine aw_skip ?_ | refine aw_if ?_ | refine And.intro (by first | omega | with_reducible assumption) ?_ | refine aw_exit ?_ | refine aw_ret ?_ | (simp (decide := true) (disch := omega) only [go_sem, ↓reduceIte, ↓put_at, reduceCtorEq, Nat.reduceAdd, Nat.reduceSub, Nat.reduceMul, Int.reduceToNat, Int.reducePow, Int.reduceAdd, Int.reduceSub, Int.reduceMul, Int.reduceNeg, Nat.min_eq_left, Nat.min_eq_right, Int.max_eq_left, Int.max_eq_right, Int.min_eq_left, Int.min_eq_right, Nat.reduceLeDiff])))
          refine cmpA_s [.int .i64 l1[j].src, .int .i64 l1[j].fr, .int .i64 l1[j].lost, .int .i64 l1[j].hi, .int .i64 l1[j].ji, .int .i64 l1[j].la, .int .i64 l1[j].de] [.int .i64 l2[j].src, .int .i64 l2[j].fr, .int .i64 l2[j].lost, .int .i64 l2[j].hi, .int .i64 l2[j].ji, .int .i64 l2[j].la, .int .i64 l2[j].de] _ (.inr rfl) (by simp (decide := true) (disch := omega) only [go_sem, ↓reduceIte, ↓put_at, reduceCtorEq, Nat.reduceAdd, Nat.reduceSub, Nat.reduceMul, Int.reduceToNat, Int.reducePow, Int.reduceAdd, Int.reduceSub, Int.reduceMul, Int.reduceNeg, Nat.min_eq_left, Nat.min_eq_right, Int.max_eq_left, Int.max_eq_right, Int.min_eq_left, Int.min_eq_right, Nat.reduceLeDiff]) (by simp (decide := true) (disch := omega) only [go_sem, ↓reduceIte, ↓put_at, reduceCtorEq, Nat.reduceAdd, Nat.reduceSub, Nat.reduceMul, Int.reduceToNat, Int.reducePow, Int.reduceAdd, Int.reduceSub, Int.reduceMul, Int.reduceNeg, Nat.min_eq_left, Nat.min_eq_right, Int.max_eq_left, Int.max_eq_right, Int.min_eq_left, Int.min_eq_right, Nat.reduceLeDiff]) (by kernel_rfl) hc ?_
          (repeat (first | refine aw_seq ?_ | refine aw_block ?_ | refine aw_reg hC (by kernel_rfl) ?_ | refine aw_regd hC Try.checked.mixed (by kernel_rfl) ?_ | refine chk_and (by kernel_rfl) ?_ | refine aw_skip ?_ | refine aw_if ?_ | refine And.intro (by first | omega | with_reducible assumption) ?_ | refine aw_exit ?_ | refine aw_ret ?_ | (simp (decide := true) (disch := omega) only [go_sem, ↓reduceIte, ↓put_at, reduceCtorEq, Nat.reduceAdd, Nat.reduceSub, Nat.reduceMul, Int.reduceToNat, Int.reducePow, Int.reduceAdd, Int.reduceSub, Int.reduceMul, Int.reduceNeg, Nat.min_eq_left, Nat.min_eq_right, Int.max_eq_left, Int.max_eq_right, Int.min_eq_left, Int.min_eq_right, Nat.reduceLeDiff])))
          (refine ret_s [] ?_; simp (decide := true) (disch := omega) only [go_sem, ↓reduceIte, ↓put_at, reduceCtorEq, Nat.reduceAdd, Nat.reduceSub, Nat.reduceMul, Int.reduceToNat, Int.reducePow, Int.reduceAdd, Int.reduceSub, Int.reduceMul, Int.reduceNeg, Nat.min_eq_left, Nat.min_eq_right, Int.max_eq_left, Int.max_eq_right, Int.min_eq_left, Int.min_eq_right, Nat.reduceLeDiff])
      · have e : l1 = l2 := by
          rw [List.take_of_length_le (by omega), List.take_of_length_le (by omega)] at ht
          exact ht
        have hM : M = true := by rw [hx]; exact decide_eq_true e
        subst hM
        (repeat (first | refine aw_seq ?_ | refine aw_block ?_ | refine aw_reg hC (by kernel_rfl) ?_ | refine aw_regd hC Try.checked.mixed (by kernel_rfl) ?_ | refine chk_and (by kernel_rfl) ?_ | refine aw_skip ?_ | refine aw_if ?_ | refine And.intro (by first | omega | with_reducible assumption) ?_ | refine aw_exit ?_ | refine aw_ret ?_ | (simp (decide := true) (disch := omega) only [go_sem, ↓reduceIte, ↓put_at, reduceCtorEq, Nat.reduceAdd, Nat.reduceSub, Nat.reduceMul, Int.reduceToNat, Int.reducePow, Int.reduceAdd, Int.reduceSub, Int.reduceMul, Int.reduceNeg, Nat.min_eq_left, Nat.min_eq_right, Int.max_eq_left, Int.max_eq_right, Int.min_eq_left, Int.min_eq_right, Nat.reduceLeDiff])))
        (refine ret_s [] ?_; simp (decide := true) (disch := omega) only [go_sem, ↓reduceIte, ↓put_at, reduceCtorEq, Nat.reduceAdd, Nat.reduceSub, Nat.reduceMul, Int.reduceToNat, Int.reducePow, Int.reduceAdd, Int.reduceSub, Int.reduceMul, Int.reduceNeg, Nat.min_eq_left, Nat.min_eq_right, Int.max_eq_left, Int.max_eq_right, Int.min_eq_left, Int.min_eq_right, Nat.reduceLeDiff])
end Go.Proofs.Ytiehcdcimllooaa
