
/- Layer 4: the references May and Pack, Told, Same, Cut. -/
import Derived.Test.YtkdnaemkhgjbpaaDoorRtp5
namespace Go.Proofs.YtkdnaemkhgjbpaaDoor
open Go.RowKit
set_option linter.unusedVariables false
set_option linter.unusedSimpArgs false

abbrev r4L (p : P4) : List V := [vb p.marker, vi p.kind, vi p.seq, vi p.time, vi p.src, .lst 1 (p.others.map intEl), vb p.hasExt, vi p.profile, vs p.ext, vs p.data, vi p.pad]
set_option maxRecDepth 100000 in
set_option maxHeartbeats 4000000 in
theorem ref_may4 (p : P4) (hl : p.ext.length ≤ maxLen) (hl2 : p.others.length ≤ maxLen) : Spec Tryd.prog 30 [.ca (.val (.agg (r4L p)))] [] (.ca (.val (vb (may4 p)))) [] := by
  obtain ⟨M, hM⟩ : ∃ M, M = may4 p := ⟨_, rfl⟩
  rw [← hM]
  unfold may4 at hM
  unfold maxLen at hl hl2
  obtain ⟨mk, kd, sq, tm, sr, os, hx, pf, ex, da, pd⟩ := p
  dsimp only at hM hl hl2 ⊢
  by_cases g1 : 0 ≤ kd ∧ kd ≤ 127
  · by_cases g2 : os.length ≤ 15
    · by_cases g3 : 0 ≤ pf ∧ pf ≤ 65535
      · by_cases g4 : 0 ≤ pd ∧ pd ≤ 255
        · cases hx with
          | true =>
            by_cases g5 : ex.length % 4 = 0
            · have g5' : (ex.length : Int) % 4 = 0 := by omega
              by_cases g6 : ex.length ≤ 262140
              · rw [decide_eq_true ⟨g1, g2, g3, g4, by rw [if_pos rfl]; exact ⟨g5, g6⟩⟩] at hM
                subst hM
                refine spec_of Tryd.func30 rfl Tryd.ntmps30 Tryd.results30 ⟨by decide, by simp⟩ fun C hC => ?_
                (repeat (first | refine aw_seq ?_ | refine aw_block ?_ | refine aw_reg hC (by kernel_rfl) ?_ | refine aw_regd hC Tryd.checked.mixed (by kernel_rfl) ?_ | refine chk_and (by kernel_rfl) ?_ | refine aw_skip ?_ | refine aw_if ?_ | refine And.intro (by first | omega | with_reducible assumption) ?_ | refine aw_exit ?_ | refine aw_ret ?_ | (simp (decide := true) (disch := omega) only [go_sem, ↓reduceIte, ↓put_at, reduceCtorEq, Nat.reduceAdd, Nat.reduceSub, Nat.reduceMul, Int.reduceToNat, Int.reducePow, Int.reduceAdd, Int.reduceSub, Int.reduceMul, Int.reduceNeg, Nat.min_eq_left, Nat.min_eq_right, Int.max_eq_left, Int.max_eq_right, Int.min_eq_left, Int.min_eq_right, Nat.reduceLeDiff])))
                (refine ret_s [] ?_; simp (decide := true) (disch := omega) only [go_sem, ↓reduceIte, ↓put_at, reduceCtorEq, Nat.reduceAdd, Nat.reduceSub, Nat.reduceMul, Int.reduceToNat, Int.reducePow, Int.reduceAdd, Int.reduceSub, Int.reduceMul, Int.reduceNeg, Nat.min_eq_left, Nat.min_eq_right, Int.max_eq_left, Int.max_eq_right, Int.min_eq_left, Int.min_eq_right, Nat.reduceLeDiff])
              · rw [decide_eq_false (fun h => by have := h.2.2.2.2; rw [if_pos rfl] at this; exact g6 this.2)] at hM
                subst hM
                refine spec_of Tryd.func30 rfl Tryd.ntmps30 Tryd.results30 ⟨by decide, by simp⟩ fun C hC => ?_
                (repeat (first | refine aw_seq ?_ | refine aw_block ?_ | refine aw_reg hC (by kernel_rfl) ?_ | refine aw_regd hC Tryd.checked.mixed (by kernel_rfl) ?_ | refine chk_and (by kernel_rfl) ?_ | refine aw_skip ?_ | refine aw_if ?_ | refine And.intro (by first | omega | with_reducible assumption) ?_ | refine aw_exit ?_ | refine aw_ret ?_ | (simp (decide := true) (disch := omega) only [go_sem, ↓reduceIte, ↓put_at, reduceCtorEq, Nat.reduceAdd, Nat.reduceSub, Nat.reduceMul, Int.reduceToNat, Int.reducePow, Int.reduceAdd, Int.reduceSub, Int.reduceMul, Int.reduceNeg, Nat.min_eq_left, Nat.min_eq_right, Int.max_eq_left, Int.max_eq_right, Int.min_eq_left, Int.min_eq_right, Nat.reduceLeDiff])))
                (refine ret_s [] ?_; simp (decide := true) (disch := omega) only [go_sem, ↓reduceIte, ↓put_at, reduceCtorEq, Nat.reduceAdd, Nat.reduceSub, Nat.reduceMul, Int.reduceToNat, Int.reducePow, Int.reduceAdd, Int.reduceSub, Int.reduceMul, Int.reduceNeg, Nat.min_eq_left, Nat.min_eq_right, Int.max_eq_left, Int.max_eq_right, Int.min_eq_left, Int.min_eq_right, Nat.reduceLeDiff])
            · have g5' : (ex.length : Int) % 4 ≠ 0 := by omega
              rw [decide_eq_false (fun h => by have := h.2.2.2.2; rw [if_pos rfl] at this; exact g5 this.1)] at hM
              subst hM
              refine spec_of Tryd.func30 rfl Tryd.ntmps30 Tryd.results30 ⟨by decide, by simp⟩ fun C hC => ?_
              (repeat (first | refine aw_seq ?_ | refine aw_block ?_ | refine aw_reg hC (by kernel_rfl) ?_ | refine aw_regd hC Tryd.checked.mixed (by kernel_rfl) ?_ | refine chk_and (by kernel_rfl) ?_ | refine aw_skip ?_ | refine aw_if ?_ | refine And.intro (by first | omega | with_reducible assumption) ?_ | refine aw_exit ?_ | refine aw_ret ?_ | (simp (decide := true) (disch := omega) only [go_sem, ↓reduceIte, ↓put_at, reduceCtorEq, Nat.reduceAdd, Nat.reduceSub, Nat.reduceMul, Int.reduceToNat, Int.reducePow, Int.reduceAdd, Int.reduceSub, Int.reduceMul, Int.reduceNeg, Nat.min_eq_left, Nat.min_eq_right, Int.max_eq_left, Int.max_eq_right, Int.min_eq_left, Int.min_eq_right, Nat.reduceLeDiff])))
              (refine ret_s [] ?_; simp (decide := true) (disch := omega) only [go_sem, ↓reduceIte, ↓put_at, reduceCtorEq, Nat.reduceAdd, Nat.reduceSub, Nat.reduceMul, Int.reduceToNat, Int.reducePow, Int.reduceAdd, Int.reduceSub, Int.reduceMul, Int.reduceNeg, Nat.min_eq_left, Nat.min_eq_right, Int.max_eq_left, Int.max_eq_right, Int.min_eq_left, Int.min_eq_right, Nat.reduceLeDiff])
          | false =>
            by_cases g5 : pf = 0
            · by_cases g6 : ex = []
              · rw [decide_eq_true ⟨g1, g2, g3, g4, by rw [if_neg (by decide)]; exact ⟨g5, g6⟩⟩] at hM
                have hb : (ex == []) = true := by simpa using g6
                subst hM
                refine spec_of Tryd.func30 rfl Tryd.ntmps30 Tryd.results30 ⟨by decide, by simp⟩ fun C hC => ?_
                (repeat (first | refine aw_seq ?_ | refine aw_block ?_ | refine aw_reg hC (by kernel_rfl) ?_ | refine aw_regd hC Tryd.checked.mixed (by kernel_rfl) ?_ | refine chk_and (by kernel_rfl) ?_ | refine aw_skip ?_ | refine aw_if ?_ | refine And.intro (by first | omega | with_reducible assumption) ?_ | refine aw_exit ?_ | refine aw_ret ?_ | (simp (decide := true) (disch := omega) only [go_sem, ↓reduceIte, ↓put_at, reduceCtorEq, Nat.reduceAdd, Nat.reduceSub, Nat.reduceMul, Int.reduceToNat, Int.reducePow, Int.reduceAdd, Int.reduceSub, Int.reduceMul, Int.reduceNeg, Nat.min_eq_left, Nat.min_eq_right, Int.max_eq_left, Int.max_eq_right, Int.min_eq_left, Int.min_eq_right, Nat.reduceLeDiff])))
                simp only [hb]
                (repeat (first | refine aw_seq ?_ | refine aw_block ?_ | refine aw_reg hC (by kernel_rfl) ?_ | refine aw_regd hC Tryd.checked.mixed (by kernel_rfl) ?_ | refine chk_and (by kernel_rfl) ?_ | refine aw_skip ?_ | refine aw_if ?_ | refine And.intro (by first | omega | with_reducible assumption) ?_ | refine aw_exit ?_ | refine aw_ret ?_ | (simp (decide := true) (disch := omega) only [go_sem, ↓reduceIte, ↓put_at, reduceCtorEq, Nat.reduceAdd, Nat.reduceSub, Nat.reduceMul, Int.reduceToNat, Int.reducePow, Int.reduceAdd, Int.reduceSub, Int.reduceMul, Int.reduceNeg, Nat.min_eq_left, Nat.min_eq_right, Int.max_eq_left, Int.max_eq_right, Int.min_eq_left, Int.min_eq_right, Nat.reduceLeDiff])))
                (refine ret_s [] ?_; simp (decide := true) (disch := omega) only [go_sem, ↓reduceIte, ↓put_at, reduceCtorEq, Nat.reduceAdd, Nat.reduceSub, Nat.reduceMul, Int.reduceToNat, Int.reducePow, Int.reduceAdd, Int.reduceSub, Int.reduceMul, Int.reduceNeg, Nat.min_eq_left, Nat.min_eq_right, Int.max_eq_left, Int.max_eq_right, Int.min_eq_left, Int.min_eq_right, Nat.reduceLeDiff])
              · rw [decide_eq_false (fun h => by have := h.2.2.2.2; rw [if_neg (by decide)] at this; exact g6 this.2)] at hM
                have hb : (ex == []) = false := by simpa using g6
                subst hM
                refine spec_of Tryd.func30 rfl Tryd.ntmps30 Tryd.results30 ⟨by decide, by simp⟩ fun C hC => ?_
                (repeat (first | refine aw_seq ?_ | refine aw_block ?_ | refine aw_reg hC (by kernel_rfl) ?_ | refine aw_regd hC Tryd.checked.mixed (by kernel_rfl) ?_ | refine chk_and (by kernel_rfl) ?_ | refine aw_skip ?_ | refine aw_if ?_ | refine And.intro (by first | omega | with_reducible assumption) ?_ | refine aw_exit ?_ | refine aw_ret ?_ | (simp (decide := true) (disch := omega) only [go_sem, ↓reduceIte, ↓put_at, reduceCtorEq, Nat.reduceAdd, Nat.reduceSub, Nat.reduceMul, Int.reduceToNat, Int.reducePow, Int.reduceAdd, Int.reduceSub, Int.reduceMul, Int.reduceNeg, Nat.min_eq_left, Nat.min_eq_right, Int.max_eq_left, Int.max_eq_right, Int.min_eq_left, Int.min_eq_right, Nat.reduceLeDiff])))
                simp only [hb]
                (repeat (first | refine aw_seq ?_ | refine aw_block ?_ | refine aw_reg hC (by kernel_rfl) ?_ | refine aw_regd hC Tryd.checked.mixed (by kernel_rfl) ?_ | refine chk_and (by kernel_rfl) ?_ | refine aw_skip ?_ | refine aw_if ?_ | refine And.intro (by first | omega | with_reducible assumption) ?_ | refine aw_exit ?_ | refine aw_ret ?_ | (simp (decide := true) (disch := omega) only [go_sem, ↓reduceIte, ↓put_at, reduceCtorEq, Nat.reduceAdd, Nat.reduceSub, Nat.reduceMul, Int.reduceToNat, Int.reducePow, Int.reduceAdd, Int.reduceSub, Int.reduceMul, Int.reduceNeg, Nat.min_eq_left, Nat.min_eq_right, Int.max_eq_left, Int.max_eq_right, Int.min_eq_left, Int.min_eq_right, Nat.reduceLeDiff])))
                (refine ret_s [] ?_; simp (decide := true) (disch := omega) only [go_sem, ↓reduceIte, ↓put_at, reduceCtorEq, Nat.reduceAdd, Nat.reduceSub, Nat.reduceMul, Int.reduceToNat, Int.reducePow, Int.reduceAdd, Int.reduceSub, Int.reduceMul, Int.reduceNeg, Nat.min_eq_left, Nat.min_eq_right, Int.max_eq_left, Int.max_eq_right, Int.min_eq_left, Int.min_eq_right, Nat.reduceLeDiff])
            · rw [decide_eq_false (fun h => by have := h.2.2.2.2; rw [if_neg (by decide)] at this; exact g5 this.1)] at hM
              subst hM
              refine spec_of Tryd.func30 rfl Tryd.ntmps30 Tryd.results30 ⟨by decide, by simp⟩ fun C hC => ?_
              (repeat (first | refine aw_seq ?_ | refine aw_block ?_ | refine aw_reg hC (by kernel_rfl) ?_ | refine aw_regd hC Tryd.checked.mixed (by kernel_rfl) ?_ | refine chk_and (by kernel_rfl) ?_ | refine aw_skip ?_ | refine aw_if ?_ | refine And.intro (by first | omega | with_reducible assumption) ?_ | refine aw_exit ?_ | refine aw_ret ?_ | (simp (decide := true) (disch := omega) only [go_sem, ↓reduceIte, ↓put_at, reduceCtorEq, Nat.reduceAdd, Nat.reduceSub, Nat.reduceMul, Int.reduceToNat, Int.reducePow, Int.reduceAdd, Int.reduceSub, Int.reduceMul, Int.reduceNeg, Nat.min_eq_left, Nat.min_eq_right, Int.max_eq_left, Int.max_eq_right, Int.min_eq_left, Int.min_eq_right, Nat.reduceLeDiff])))
              (refine ret_s [] ?_; simp (decide := true) (disch := omega) only [go_sem, ↓reduceIte, ↓put_at, reduceCtorEq, Nat.reduceAdd, Nat.reduceSub, Nat.reduceMul, Int.reduceToNat, Int.reducePow, Int.reduceAdd, Int.reduceSub, Int.reduceMul, Int.reduceNeg, Nat.min_eq_left, Nat.min_eq_right, Int.max_eq_left, Int.max_eq_right, Int.min_eq_left, Int.min_eq_right, Nat.reduceLeDiff])
        · rw [decide_eq_false (fun h => g4 h.2.2.2.1)] at hM
          subst hM
          by_cases k : pd < 0
          · refine spec_of Tryd.func30 rfl Tryd.ntmps30 Tryd.results30 ⟨by decide, by simp⟩ fun C hC => ?_
            (repeat (first | refine aw_seq ?_ | refine aw_block ?_ | refine aw_reg hC (by kernel_rfl) ?_ | refine aw_regd hC Tryd.checked.mixed (by kernel_rfl) ?_ | refine chk_and (by kernel_rfl) ?_ | refine aw_skip ?_ | refine aw_if ?_ | refine And.intro (by first | omega | with_reducible assumption) ?_ | refine aw_exit ?_ | refine aw_ret ?_ | (simp (decide := true) (disch := omega) only [go_sem, ↓reduceIte, ↓put_at, reduceCtorEq, Nat.reduceAdd, Nat.reduceSub, Nat.reduceMul, Int.reduceToNat, Int.reducePow, Int.reduceAdd, Int.reduceSub, Int.reduceMul, Int.reduceNeg, Nat.min_eq_left, Nat.min_eq_right, Int.max_eq_left, Int.max_eq_right, Int.min_eq_left, Int.min_eq_right, Nat.reduceLeDiff])))
            (refine ret_s [] ?_; simp (decide := true) (disch := omega) only [go_sem, ↓reduceIte, ↓put_at, reduceCtorEq, Nat.reduceAdd, Nat.reduceSub, Nat.reduceMul, Int.reduceToNat, Int.reducePow, Int.reduceAdd, Int.reduceSub, Int.reduceMul, Int.reduceNeg, Nat.min_eq_left, Nat.min_eq_right, Int.max_eq_left, Int.max_eq_right, Int.min_eq_left, Int.min_eq_right, Nat.reduceLeDiff])
          · refine spec_of Tryd.func30 rfl Tryd.ntmps30 Tryd.results30 ⟨by decide, by simp⟩ fun C hC => ?_
            (repeat (first | refine aw_seq ?_ | refine aw_block ?_ | refine aw_reg hC (by kernel_rfl) ?_ | refine aw_regd hC Tryd.checked.mixed (by kernel_rfl) ?_ | refine chk_and (by kernel_rfl) ?_ | refine aw_skip ?_ | refine aw_if ?_ | refine And.intro (by first | omega | with_reducible assumption) ?_ | refine aw_exit ?_ | refine aw_ret ?_ | (simp (decide := true) (disch := omega) only [go_sem, ↓reduceIte, ↓put_at, reduceCtorEq, Nat.reduceAdd, Nat.reduceSub, Nat.reduceMul, Int.reduceToNat, Int.reducePow, Int.reduceAdd, Int.reduceSub, Int.reduceMul, Int.reduceNeg, Nat.min_eq_left, Nat.min_eq_right, Int.max_eq_left, Int.max_eq_right, Int.min_eq_left, Int.min_eq_right, Nat.reduceLeDiff])))
            (refine ret_s [] ?_; simp (decide := true) (disch := omega) only [go_sem, ↓reduceIte, ↓put_at, reduceCtorEq, Nat.reduceAdd, Nat.reduceSub, Nat.reduceMul, Int.reduceToNat, Int.reducePow, Int.reduceAdd, Int.reduceSub, Int.reduceMul, Int.reduceNeg, Nat.min_eq_left, Nat.min_eq_right, Int.max_eq_left, Int.max_eq_right, Int.min_eq_left, Int.min_eq_right, Nat.reduceLeDiff])
      · rw [decide_eq_false (fun h => g3 h.2.2.1)] at hM
        subst hM
        by_cases k : pf < 0
        · refine spec_of Tryd.func30 rfl Tryd.ntmps30 Tryd.results30 ⟨by decide, by simp⟩ fun C hC => ?_
          (repeat (first | refine aw_seq ?_ | refine aw_block ?_ | refine aw_reg hC (by kernel_rfl) ?_ | refine aw_regd hC Tryd.checked.mixed (by kernel_rfl) ?_ | refine chk_and (by kernel_rfl) ?_ | refine aw_skip ?_ | refine aw_if ?_ | refine And.intro (by first | omega | with_reducible assumption) ?_ | refine aw_exit ?_ | refine aw_ret ?_ | (simp (decide := true) (disch := omega) only [go_sem, ↓reduceIte, ↓put_at, reduceCtorEq, Nat.reduceAdd, Nat.reduceSub, Nat.reduceMul, Int.reduceToNat, Int.reducePow, Int.reduceAdd, Int.reduceSub, Int.reduceMul, Int.reduceNeg, Nat.min_eq_left, Nat.min_eq_right, Int.max_eq_left, Int.max_eq_right, Int.min_eq_left, Int.min_eq_right, Nat.reduceLeDiff])))
          (refine ret_s [] ?_; simp (decide := true) (disch := omega) only [go_sem, ↓reduceIte, ↓put_at, reduceCtorEq, Nat.reduceAdd, Nat.reduceSub, Nat.reduceMul, Int.reduceToNat, Int.reducePow, Int.reduceAdd, Int.reduceSub, Int.reduceMul, Int.reduceNeg, Nat.min_eq_left, Nat.min_eq_right, Int.max_eq_left, Int.max_eq_right, Int.min_eq_left, Int.min_eq_right, Nat.reduceLeDiff])
        · refine spec_of Tryd.func30 rfl Tryd.ntmps30 Tryd.results30 ⟨by decide, by simp⟩ fun C hC => ?_
          (repeat (first | refine aw_seq ?_ | refine aw_block ?_ | refine aw_reg hC (by kernel_rfl) ?_ | refine aw_regd hC Tryd.checked.mixed (by kernel_rfl) ?_ | refine chk_and (by kernel_rfl) ?_ | refine aw_skip ?_ | refine aw_if ?_ | refine And.intro (by first | omega | with_reducible assumption) ?_ | refine aw_exit ?_ | refine aw_ret ?_ | (simp (decide := true) (disch := omega) only [go_sem, ↓reduceIte, ↓put_at, reduceCtorEq, Nat.reduceAdd, Nat.reduceSub, Nat.reduceMul, Int.reduceToNat, Int.reducePow, Int.reduceAdd, Int.reduceSub, Int.reduceMul, Int.reduceNeg, Nat.min_eq_left, Nat.min_eq_right, Int.max_eq_left, Int.max_eq_right, Int.min_eq_left, Int.min_eq_right, Nat.reduceLeDiff])))
          (refine ret_s [] ?_; simp (decide := true) (disch := omega) only [go_sem, ↓reduceIte, ↓put_at, reduceCtorEq, Nat.reduceAdd, Nat.reduceSub, Nat.reduceMul, Int.reduceToNat, Int.reducePow, Int.reduceAdd, Int.reduceSub, Int.reduceMul, Int.reduceNeg, Nat.min_eq_left, Nat.min_eq_right, Int.max_eq_left, Int.max_eq_right, Int.min_eq_left, Int.min_eq_right, Nat.reduceLeDiff])
    · rw [decide_eq_false (fun h => g2 h.2.1)] at hM
      subst hM
      refine spec_of Tryd.func30 rfl Tryd.ntmps30 Tryd.results30 ⟨by decide, by simp⟩ fun C hC => ?_
      (repeat (first | refine aw_seq ?_ | refine aw_block ?_ | refine aw_reg hC (by kernel_rfl) ?_ | refine aw_regd hC Tryd.checked.mixed (by kernel_rfl) ?_ | refine chk_and (by kernel_rfl) ?_ | refine aw_skip ?_ | refine aw_if ?_ | refine And.intro (by first | omega | with_reducible assumption) ?_ | refine aw_exit ?_ | refine aw_ret ?_ | (simp (decide := true) (disch := omega) only [go_sem, ↓reduceIte, ↓put_at, reduceCtorEq, Nat.reduceAdd, Nat.reduceSub, Nat.reduceMul, Int.reduceToNat, Int.reducePow, Int.reduceAdd, Int.reduceSub, Int.reduceMul, Int.reduceNeg, Nat.min_eq_left, Nat.min_eq_right, Int.max_eq_left, Int.max_eq_right, Int.min_eq_left, Int.min_eq_right, Nat.reduceLeDiff])))
      (refine ret_s [] ?_; simp (decide := true) (disch := omega) only [go_sem, ↓reduceIte, ↓put_at, reduceCtorEq, Nat.reduceAdd, Nat.reduceSub, Nat.reduceMul, Int.reduceToNat, Int.reducePow, Int.reduceAdd, Int.reduceSub, Int.reduceMul, Int.reduceNeg, Nat.min_eq_left, Nat.min_eq_right, Int.max_eq_left, Int.max_eq_right, Int.min_eq_left, Int.min_eq_right, Nat.reduceLeDiff])
  · rw [decide_eq_false (fun h => g1 h.1)] at hM
    subst hM
    by_cases k : kd < 0
    · refine spec_of Tryd.func30 rfl Tryd.ntmps30 Tryd.results30 ⟨by decide, by simp⟩ fun C hC => ?_
      (repeat (first | refine aw_seq ?_ | refine aw_block ?_ | refine aw_reg hC (by kernel_rfl) ?_ | refine aw_regd hC Tryd.checked.mixed (by kernel_rfl) ?_ | refine chk_and (by kernel_rfl) ?_ | refine aw_skip ?_ | refine aw_if ?_ | refine And.intro (by first | omega | with_reducible assumption) ?_ | refine aw_exit ?_ | refine aw_ret ?_ | (simp (decide := true) (disch := omega) only [go_sem, ↓reduceIte, ↓put_at, reduceCtorEq, Nat.reduceAdd, Nat.reduceSub, Nat.reduceMul, Int.reduceToNat, Int.reducePow, Int.reduceAdd, Int.reduceSub, Int.reduceMul, Int.reduceNeg, Nat.min_eq_left, Nat.min_eq_right, Int.max_eq_left, Int.max_eq_right, Int.min_eq_left, Int.min_eq_right, Nat.reduceLeDiff])))
      (refine ret_s [] ?_; simp (decide := true) (disch := omega) only [go_sem, ↓reduceIte, ↓put_at, reduceCtorEq, Nat.reduceAdd, Nat.reduceSub, Nat.reduceMul, Int.reduceToNat, Int.reducePow, Int.reduceAdd, Int.reduceSub, Int.reduceMul, Int.reduceNeg, Nat.min_eq_left, Nat.min_eq_right, Int.max_eq_left, Int.max_eq_right, Int.min_eq_left, Int.min_eq_right, Nat.reduceLeDiff])
    · refine spec_of Tryd.func30 rfl Tryd.ntmps30 Tryd.results30 ⟨by decide, by simp⟩ fun C hC => ?_
      (repeat (first | refine aw_seq ?_ | refine aw_block ?_ | refine aw_reg hC (by kernel_rfl) ?_ | refine aw_regd hC Tryd.checked.mixed (by kernel_rfl) ?_ | refine chk_and (by kernel_rfl) ?_ | refine aw_skip ?_ | refine aw_if ?_ | refine And.intro (by first | omega | with_reducible assumption) ?_ | refine aw_exit ?_ | refine aw_ret ?_ | (simp (decide := true) (disch := omega) only [go_sem, ↓reduceIte, ↓put_at, reduceCtorEq, Nat.reduceAdd, Nat.reduceSub, Nat.reduceMul, Int.reduceToNat, Int.reducePow, Int.reduceAdd, Int.reduceSub, Int.reduceMul, Int.reduceNeg, Nat.min_eq_left, Nat.min_eq_right, Int.max_eq_left, Int.max_eq_right, Int.min_eq_left, Int.min_eq_right, Nat.reduceLeDiff])))
      (refine ret_s [] ?_; simp (decide := true) (disch := omega) only [go_sem, ↓reduceIte, ↓put_at, reduceCtorEq, Nat.reduceAdd, Nat.reduceSub, Nat.reduceMul, Int.reduceToNat, Int.reducePow, Int.reduceAdd, Int.reduceSub, Int.reduceMul, Int.reduceNeg, Nat.min_eq_left, Nat.min_eq_right, Int.max_eq_left, Int.max_eq_right, Int.min_eq_left, Int.min_eq_right, Nat.reduceLeDiff])
theorem zer_succ (k : Nat) : zer (k + 1) = zer k ++ [0] := List.replicate_succ'
set_option maxRecDepth 100000 in
set_option maxHeartbeats 8000000 in
theorem ref_pack4 (p : P4) (ho : p.Ok) (hl1 : p.ext.length ≤ maxLen) (hl3 : p.others.length ≤ maxLen) (hl2 : p.data.length ≤ 1099511627776) : Spec Tryd.prog 29 [.ca (.val (.agg (r4L p)))] [] (.ca (.val (vs (pack4 p)))) [] := by
  have c0 := ref_may4 p hl1 hl3
  cases hm : may4 p with
  | false =>
    have e : pack4 p = [] := by unfold pack4; rw [hm]; rfl
    rw [hm] at c0
    rw [e]
    clear hm e
    obtain ⟨mk, kd, sq, tm, sr, os, hx, pf, ex, da, pd⟩ := p
    refine spec_of Tryd.func29 rfl Tryd.ntmps29 Tryd.results29 ⟨by decide, by simp⟩ fun C hC => ?_
    (repeat (first | refine aw_seq ?_ | refine aw_block ?_ | refine aw_reg hC (by kernel_rfl) ?_ | refine aw_regd hC Tryd.checked.mixed (by kernel_rfl) ?_ | refine chk_and (by kernel_rfl) ?_ | refine aw_skip ?_ | refine aw_if ?_ | refine And.intro (by first | omega | with_reducible assumption) ?_ | refine aw_exit ?_ | refine aw_ret ?_ | (simp (decide := true) (disch := omega) only [go_sem, ↓reduceIte, ↓put_at, reduceCtorEq, Nat.reduceAdd, Nat.reduceSub, Nat.reduceMul, Int.reduceToNat, Int.reducePow, Int.reduceAdd, Int.reduceSub, Int.reduceMul, Int.reduceNeg, Nat.min_eq_left, Nat.min_eq_right, Int.max_eq_left, Int.max_eq_right, Int.min_eq_left, Int.min_eq_right, Nat.reduceLeDiff])))
    refine call_s Tryd.call30 c0 [] ?_
    (repeat (first | refine aw_seq ?_ | refine aw_block ?_ | refine aw_reg hC (by kernel_rfl) ?_ | refine aw_regd hC Tryd.checked.mixed (by kernel_rfl) ?_ | refine chk_and (by kernel_rfl) ?_ | refine aw_skip ?_ | refine aw_if ?_ | refine And.intro (by first | omega | with_reducible assumption) ?_ | refine aw_exit ?_ | refine aw_ret ?_ | (simp (decide := true) (disch := omega) only [go_sem, ↓reduceIte, ↓put_at, reduceCtorEq, Nat.reduceAdd, Nat.reduceSub, Nat.reduceMul, Int.reduceToNat, Int.reducePow, Int.reduceAdd, Int.reduceSub, Int.reduceMul, Int.reduceNeg, Nat.min_eq_left, Nat.min_eq_right, Int.max_eq_left, Int.max_eq_right, Int.min_eq_left, Int.min_eq_right, Nat.reduceLeDiff])))
    (refine ret_s [] ?_; simp (decide := true) (disch := omega) only [go_sem, ↓reduceIte, ↓put_at, reduceCtorEq, Nat.reduceAdd, Nat.reduceSub, Nat.reduceMul, Int.reduceToNat, Int.reducePow, Int.reduceAdd, Int.reduceSub, Int.reduceMul, Int.reduceNeg, Nat.min_eq_left, Nat.min_eq_right, Int.max_eq_left, Int.max_eq_right, Int.min_eq_left, Int.min_eq_right, Nat.reduceLeDiff])
  | true =>
    rw [hm] at c0
    have e : pack4 p = body4 p := by unfold pack4; rw [if_pos hm]
    have hmm := (may4_iff p).1 hm
    have hf4 := first4_lt p hm
    have hg4 := second4_lt p hm
    rw [e]
    clear e hm
    obtain ⟨mk, kd, sq, tm, sr, os, hx, pf, ex, da, pd⟩ := p
    obtain ⟨o1, o2, o3, o4⟩ := ho
    dsimp only at hmm o1 o2 o3 o4 hl1 hl2 hl3
    obtain ⟨m1, m2, m3, m4, m5⟩ := hmm
    have hexl : ex.length ≤ 262140 := by
      cases hx with
      | true => rw [if_pos rfl] at m5; exact m5.2
      | false => rw [if_neg (by decide)] at m5; rw [m5.2]; simp
    obtain ⟨F, hF⟩ : ∃ F, F = first4 ⟨mk, kd, sq, tm, sr, os, hx, pf, ex, da, pd⟩ := ⟨_, rfl⟩
    obtain ⟨G, hG⟩ : ∃ G, G = second4 ⟨mk, kd, sq, tm, sr, os, hx, pf, ex, da, pd⟩ := ⟨_, rfl⟩
    obtain ⟨A, hA⟩ : ∃ A, A = putZ F 1 ++ putZ G 1 ++ putZ sq 2 ++ putZ tm 4 ++ putZ sr 4 := ⟨_, rfl⟩
    have hAl : A.length = 12 := by rw [hA]; simp only [List.length_append, putZ_length]
    have hbody : body4 ⟨mk, kd, sq, tm, sr, os, hx, pf, ex, da, pd⟩ = A ++ puts' 4 os ++ extB ⟨mk, kd, sq, tm, sr, os, hx, pf, ex, da, pd⟩ ++ da ++ tailB pd := by
      unfold body4
      rw [hA, ← hF, ← hG]
      simp [puts']
    rw [hbody]
    rw [← hF] at hf4
    rw [← hG] at hg4
    unfold first4 at hF
    unfold second4 at hG
    dsimp only at hF hG
    clear hbody
    have z1 := putZ_length F 1
    have z2 := putZ_length G 1
    have z3 := putZ_length sq 2
    have z4 := putZ_length tm 4
    have z5 := putZ_length sr 4
    refine spec_of Tryd.func29 rfl Tryd.ntmps29 Tryd.results29 ⟨by decide, by simp⟩ fun C hC => ?_
    (repeat (first | refine aw_seq ?_ | refine aw_block ?_ | refine aw_reg hC (by kernel_rfl) ?_ | refine aw_regd hC Tryd.checked.mixed (by kernel_rfl) ?_ | refine chk_and (by kernel_rfl) ?_ | refine aw_skip ?_ | refine aw_if ?_ | refine And.intro (by first | omega | with_reducible assumption) ?_ | refine aw_exit ?_ | refine aw_ret ?_ | (simp (decide := true) (disch := omega) only [go_sem, ↓reduceIte, ↓put_at, reduceCtorEq, Nat.reduceAdd, Nat.reduceSub, Nat.reduceMul, Int.reduceToNat, Int.reducePow, Int.reduceAdd, Int.reduceSub, Int.reduceMul, Int.reduceNeg, Nat.min_eq_left, Nat.min_eq_right, Int.max_eq_left, Int.max_eq_right, Int.min_eq_left, Int.min_eq_right, Nat.reduceLeDiff])))
    refine call_s Tryd.call30 c0 [] ?_
    (repeat ((fail_if_success (refine stop_reg 5 ?_)); (first | refine aw_seq ?_ | refine aw_block ?_ | refine aw_reg hC (by kernel_rfl) ?_ | refine aw_regd hC Tryd.checked.mixed (by kernel_rfl) ?_ | refine chk_and (by kernel_rfl) ?_ | refine aw_skip ?_ | refine aw_if ?_ | refine And.intro (by first | omega | with_reducible assumption) ?_ | refine aw_exit ?_ | refine aw_ret ?_ | (simp (decide := true) (disch := omega) only [go_sem, ↓reduceIte, ↓put_at, reduceCtorEq, Nat.reduceAdd, Nat.reduceSub, Nat.reduceMul, Int.reduceToNat, Int.reducePow, Int.reduceAdd, Int.reduceSub, Int.reduceMul, Int.reduceNeg, Nat.min_eq_left, Nat.min_eq_right, Int.max_eq_left, Int.max_eq_right, Int.min_eq_left, Int.min_eq_right, Nat.reduceLeDiff]))))
    refine meet_s (α := {_x : Unit // True}) (fun _ => [(.s 1, .av (.ptr (1, 0) 0 0)), (.o (1, 0), .num 11), (.c (1, 0) 0, .av (.val (vb mk))), (.c (1, 0) 1, .av (.val (vi kd))), (.c (1, 0) 2, .av (.val (vi sq))), (.c (1, 0) 3, .av (.val (vi tm))), (.c (1, 0) 4, .av (.val (vi sr))), (.c (1, 0) 5, .av (.val (.lst 1 (os.map intEl)))), (.c (1, 0) 6, .av (.val (vb hx))), (.c (1, 0) 7, .av (.val (vi pf))), (.c (1, 0) 8, .av (.val (vs ex))), (.c (1, 0) 9, .av (.val (vs da))), (.c (1, 0) 10, .av (.val (vi pd))), (.s 2, .av (.val (vs []))), (.s 3, .av (.val (vi (128 + os.length + if 0 < pd then 32 else 0)))), (.s 4, .av (.val (vi kd)))]) ?_ (fun x => ?_)
    · by_cases hp : 0 < pd
      · rw [if_pos hp]
        (repeat (first | refine aw_seq ?_ | refine aw_block ?_ | refine aw_reg hC (by kernel_rfl) ?_ | refine aw_regd hC Tryd.checked.mixed (by kernel_rfl) ?_ | refine chk_and (by kernel_rfl) ?_ | refine aw_skip ?_ | refine aw_if ?_ | refine And.intro (by first | omega | with_reducible assumption) ?_ | refine aw_exit ?_ | refine aw_ret ?_ | (simp (decide := true) (disch := omega) only [go_sem, ↓reduceIte, ↓put_at, reduceCtorEq, Nat.reduceAdd, Nat.reduceSub, Nat.reduceMul, Int.reduceToNat, Int.reducePow, Int.reduceAdd, Int.reduceSub, Int.reduceMul, Int.reduceNeg, Nat.min_eq_left, Nat.min_eq_right, Int.max_eq_left, Int.max_eq_right, Int.min_eq_left, Int.min_eq_right, Nat.reduceLeDiff])))
        refine at_meet ⟨(), trivial⟩ ?_
        simp (decide := true) (disch := omega) only [go_sem, ↓reduceIte, ↓put_at, reduceCtorEq, Nat.reduceAdd, Nat.reduceSub, Nat.reduceMul, Int.reduceToNat, Int.reducePow, Int.reduceAdd, Int.reduceSub, Int.reduceMul, Int.reduceNeg, Nat.min_eq_left, Nat.min_eq_right, Int.max_eq_left, Int.max_eq_right, Int.min_eq_left, Int.min_eq_right, Nat.reduceLeDiff]
      · rw [if_neg hp]
        (repeat (first | refine aw_seq ?_ | refine aw_block ?_ | refine aw_reg hC (by kernel_rfl) ?_ | refine aw_regd hC Tryd.checked.mixed (by kernel_rfl) ?_ | refine chk_and (by kernel_rfl) ?_ | refine aw_skip ?_ | refine aw_if ?_ | refine And.intro (by first | omega | with_reducible assumption) ?_ | refine aw_exit ?_ | refine aw_ret ?_ | (simp (decide := true) (disch := omega) only [go_sem, ↓reduceIte, ↓put_at, reduceCtorEq, Nat.reduceAdd, Nat.reduceSub, Nat.reduceMul, Int.reduceToNat, Int.reducePow, Int.reduceAdd, Int.reduceSub, Int.reduceMul, Int.reduceNeg, Nat.min_eq_left, Nat.min_eq_right, Int.max_eq_left, Int.max_eq_right, Int.min_eq_left, Int.min_eq_right, Nat.reduceLeDiff])))
        refine at_meet ⟨(), trivial⟩ ?_
        simp (decide := true) (disch := omega) only [go_sem, ↓reduceIte, ↓put_at, reduceCtorEq, Nat.reduceAdd, Nat.reduceSub, Nat.reduceMul, Int.reduceToNat, Int.reducePow, Int.reduceAdd, Int.reduceSub, Int.reduceMul, Int.reduceNeg, Nat.min_eq_left, Nat.min_eq_right, Int.max_eq_left, Int.max_eq_right, Int.min_eq_left, Int.min_eq_right, Nat.reduceLeDiff]
        all_goals (try omega)
    generalize hQ : (if 0 < pd then (32 : Int) else 0) = Q at *
    have hQ2 : 0 ≤ Q ∧ Q ≤ 32 := by rw [← hQ]; split <;> omega
    (repeat ((fail_if_success (refine stop_reg 7 ?_)); (first | refine aw_seq ?_ | refine aw_block ?_ | refine aw_reg hC (by kernel_rfl) ?_ | refine aw_regd hC Tryd.checked.mixed (by kernel_rfl) ?_ | refine chk_and (by kernel_rfl) ?_ | refine aw_skip ?_ | refine aw_if ?_ | refine And.intro (by first | omega | with_reducible assumption) ?_ | refine aw_exit ?_ | refine aw_ret ?_ | (simp (decide := true) (disch := omega) only [go_sem, ↓reduceIte, ↓put_at, reduceCtorEq, Nat.reduceAdd, Nat.reduceSub, Nat.reduceMul, Int.reduceToNat, Int.reducePow, Int.reduceAdd, Int.reduceSub, Int.reduceMul, Int.reduceNeg, Nat.min_eq_left, Nat.min_eq_right, Int.max_eq_left, Int.max_eq_right, Int.min_eq_left, Int.min_eq_right, Nat.reduceLeDiff]))))
    refine meet_s (α := {_x : Unit // True}) (fun _ => [(.s 1, .av (.ptr (1, 0) 0 0)), (.o (1, 0), .num 11), (.c (1, 0) 0, .av (.val (vb mk))), (.c (1, 0) 1, .av (.val (vi kd))), (.c (1, 0) 2, .av (.val (vi sq))), (.c (1, 0) 3, .av (.val (vi tm))), (.c (1, 0) 4, .av (.val (vi sr))), (.c (1, 0) 5, .av (.val (.lst 1 (os.map intEl)))), (.c (1, 0) 6, .av (.val (vb hx))), (.c (1, 0) 7, .av (.val (vi pf))), (.c (1, 0) 8, .av (.val (vs ex))), (.c (1, 0) 9, .av (.val (vs da))), (.c (1, 0) 10, .av (.val (vi pd))), (.s 2, .av (.val (vs []))), (.s 3, .av (.val (vi F))), (.s 4, .av (.val (vi kd)))]) ?_ (fun x => ?_)
    · cases hx with
      | true =>
        rw [if_pos rfl] at hF
        (repeat (first | refine aw_seq ?_ | refine aw_block ?_ | refine aw_reg hC (by kernel_rfl) ?_ | refine aw_regd hC Tryd.checked.mixed (by kernel_rfl) ?_ | refine chk_and (by kernel_rfl) ?_ | refine aw_skip ?_ | refine aw_if ?_ | refine And.intro (by first | omega | with_reducible assumption) ?_ | refine aw_exit ?_ | refine aw_ret ?_ | (simp (decide := true) (disch := omega) only [go_sem, ↓reduceIte, ↓put_at, reduceCtorEq, Nat.reduceAdd, Nat.reduceSub, Nat.reduceMul, Int.reduceToNat, Int.reducePow, Int.reduceAdd, Int.reduceSub, Int.reduceMul, Int.reduceNeg, Nat.min_eq_left, Nat.min_eq_right, Int.max_eq_left, Int.max_eq_right, Int.min_eq_left, Int.min_eq_right, Nat.reduceLeDiff])))
        refine at_meet ⟨(), trivial⟩ ?_
        rw [hF]
        simp (decide := true) (disch := omega) only [go_sem, ↓reduceIte, ↓put_at, reduceCtorEq, Nat.reduceAdd, Nat.reduceSub, Nat.reduceMul, Int.reduceToNat, Int.reducePow, Int.reduceAdd, Int.reduceSub, Int.reduceMul, Int.reduceNeg, Nat.min_eq_left, Nat.min_eq_right, Int.max_eq_left, Int.max_eq_right, Int.min_eq_left, Int.min_eq_right, Nat.reduceLeDiff]
        all_goals (try omega)
      | false =>
        rw [if_neg (by decide)] at hF
        (repeat (first | refine aw_seq ?_ | refine aw_block ?_ | refine aw_reg hC (by kernel_rfl) ?_ | refine aw_regd hC Tryd.checked.mixed (by kernel_rfl) ?_ | refine chk_and (by kernel_rfl) ?_ | refine aw_skip ?_ | refine aw_if ?_ | refine And.intro (by first | omega | with_reducible assumption) ?_ | refine aw_exit ?_ | refine aw_ret ?_ | (simp (decide := true) (disch := omega) only [go_sem, ↓reduceIte, ↓put_at, reduceCtorEq, Nat.reduceAdd, Nat.reduceSub, Nat.reduceMul, Int.reduceToNat, Int.reducePow, Int.reduceAdd, Int.reduceSub, Int.reduceMul, Int.reduceNeg, Nat.min_eq_left, Nat.min_eq_right, Int.max_eq_left, Int.max_eq_right, Int.min_eq_left, Int.min_eq_right, Nat.reduceLeDiff])))
        refine at_meet ⟨(), trivial⟩ ?_
        rw [hF]
        simp (decide := true) (disch := omega) only [go_sem, ↓reduceIte, ↓put_at, reduceCtorEq, Nat.reduceAdd, Nat.reduceSub, Nat.reduceMul, Int.reduceToNat, Int.reducePow, Int.reduceAdd, Int.reduceSub, Int.reduceMul, Int.reduceNeg, Nat.min_eq_left, Nat.min_eq_right, Int.max_eq_left, Int.max_eq_right, Int.min_eq_left, Int.min_eq_right, Nat.reduceLeDiff]
        all_goals (try omega)
    (repeat ((fail_if_success (refine stop_reg 9 ?_)); (first | refine aw_seq ?_ | refine aw_block ?_ | refine aw_reg hC (by kernel_rfl) ?_ | refine aw_regd hC Tryd.checked.mixed (by kernel_rfl) ?_ | refine chk_and (by kernel_rfl) ?_ | refine aw_skip ?_ | refine aw_if ?_ | refine And.intro (by first | omega | with_reducible assumption) ?_ | refine aw_exit ?_ | refine aw_ret ?_ | (simp (decide := true) (disch := omega) only [go_sem, ↓reduceIte, ↓put_at, reduceCtorEq, Nat.reduceAdd, Nat.reduceSub, Nat.reduceMul, Int.reduceToNat, Int.reducePow, Int.reduceAdd, Int.reduceSub, Int.reduceMul, Int.reduceNeg, Nat.min_eq_left, Nat.min_eq_right, Int.max_eq_left, Int.max_eq_right, Int.min_eq_left, Int.min_eq_right, Nat.reduceLeDiff]))))
    refine meet_s (α := {_x : Unit // True}) (fun _ => [(.s 1, .av (.ptr (1, 0) 0 0)), (.o (1, 0), .num 11), (.c (1, 0) 0, .av (.val (vb mk))), (.c (1, 0) 1, .av (.val (vi kd))), (.c (1, 0) 2, .av (.val (vi sq))), (.c (1, 0) 3, .av (.val (vi tm))), (.c (1, 0) 4, .av (.val (vi sr))), (.c (1, 0) 5, .av (.val (.lst 1 (os.map intEl)))), (.c (1, 0) 6, .av (.val (vb hx))), (.c (1, 0) 7, .av (.val (vi pf))), (.c (1, 0) 8, .av (.val (vs ex))), (.c (1, 0) 9, .av (.val (vs da))), (.c (1, 0) 10, .av (.val (vi pd))), (.s 2, .av (.val (vs []))), (.s 3, .av (.val (vi F))), (.s 4, .av (.val (vi G)))]) ?_ (fun x => ?_)
    · cases mk with
      | true =>
        rw [if_pos rfl] at hG
        (repeat (first | refine aw_seq ?_ | refine aw_block ?_ | refine aw_reg hC (by kernel_rfl) ?_ | refine aw_regd hC Tryd.checked.mixed (by kernel_rfl) ?_ | refine chk_and (by kernel_rfl) ?_ | refine aw_skip ?_ | refine aw_if ?_ | refine And.intro (by first | omega | with_reducible assumption) ?_ | refine aw_exit ?_ | refine aw_ret ?_ | (simp (decide := true) (disch := omega) only [go_sem, ↓reduceIte, ↓put_at, reduceCtorEq, Nat.reduceAdd, Nat.reduceSub, Nat.reduceMul, Int.reduceToNat, Int.reducePow, Int.reduceAdd, Int.reduceSub, Int.reduceMul, Int.reduceNeg, Nat.min_eq_left, Nat.min_eq_right, Int.max_eq_left, Int.max_eq_right, Int.min_eq_left, Int.min_eq_right, Nat.reduceLeDiff])))
        refine at_meet ⟨(), trivial⟩ ?_
        rw [hG]
        simp (decide := true) (disch := omega) only [go_sem, ↓reduceIte, ↓put_at, reduceCtorEq, Nat.reduceAdd, Nat.reduceSub, Nat.reduceMul, Int.reduceToNat, Int.reducePow, Int.reduceAdd, Int.reduceSub, Int.reduceMul, Int.reduceNeg, Nat.min_eq_left, Nat.min_eq_right, Int.max_eq_left, Int.max_eq_right, Int.min_eq_left, Int.min_eq_right, Nat.reduceLeDiff]
        all_goals (try omega)
      | false =>
        rw [if_neg (by decide)] at hG
        (repeat (first | refine aw_seq ?_ | refine aw_block ?_ | refine aw_reg hC (by kernel_rfl) ?_ | refine aw_regd hC Tryd.checked.mixed (by kernel_rfl) ?_ | refine chk_and (by kernel_rfl) ?_ | refine aw_skip ?_ | refine aw_if ?_ | refine And.intro (by first | omega | with_reducible assumption) ?_ | refine aw_exit ?_ | refine aw_ret ?_ | (simp (decide := true) (disch := omega) only [go_sem, ↓reduceIte, ↓put_at, reduceCtorEq, Nat.reduceAdd, Nat.reduceSub, Nat.reduceMul, Int.reduceToNat, Int.reducePow, Int.reduceAdd, Int.reduceSub, Int.reduceMul, Int.reduceNeg, Nat.min_eq_left, Nat.min_eq_right, Int.max_eq_left, Int.max_eq_right, Int.min_eq_left, Int.min_eq_right, Nat.reduceLeDiff])))
        refine at_meet ⟨(), trivial⟩ ?_
        rw [hG]
        simp (decide := true) (disch := omega) only [go_sem, ↓reduceIte, ↓put_at, reduceCtorEq, Nat.reduceAdd, Nat.reduceSub, Nat.reduceMul, Int.reduceToNat, Int.reducePow, Int.reduceAdd, Int.reduceSub, Int.reduceMul, Int.reduceNeg, Nat.min_eq_left, Nat.min_eq_right, Int.max_eq_left, Int.max_eq_right, Int.min_eq_left, Int.min_eq_right, Nat.reduceLeDiff]
        all_goals (try omega)
    clear hF hG
    (repeat (first | refine aw_seq ?_ | refine aw_block ?_ | refine aw_reg hC (by kernel_rfl) ?_ | refine aw_regd hC Tryd.checked.mixed (by kernel_rfl) ?_ | refine chk_and (by kernel_rfl) ?_ | refine aw_skip ?_ | refine aw_if ?_ | refine And.intro (by first | omega | with_reducible assumption) ?_ | refine aw_exit ?_ | refine aw_ret ?_ | (simp (decide := true) (disch := omega) only [go_sem, ↓reduceIte, ↓put_at, reduceCtorEq, Nat.reduceAdd, Nat.reduceSub, Nat.reduceMul, Int.reduceToNat, Int.reducePow, Int.reduceAdd, Int.reduceSub, Int.reduceMul, Int.reduceNeg, Nat.min_eq_left, Nat.min_eq_right, Int.max_eq_left, Int.max_eq_right, Int.min_eq_left, Int.min_eq_right, Nat.reduceLeDiff])))
    refine call_s Tryd.call57 (q_put F 1 (by omega) (by decide)) [] ?_
    (repeat (first | refine aw_seq ?_ | refine aw_block ?_ | refine aw_reg hC (by kernel_rfl) ?_ | refine aw_regd hC Tryd.checked.mixed (by kernel_rfl) ?_ | refine chk_and (by kernel_rfl) ?_ | refine aw_skip ?_ | refine aw_if ?_ | refine And.intro (by first | omega | with_reducible assumption) ?_ | refine aw_exit ?_ | refine aw_ret ?_ | (simp (decide := true) (disch := omega) only [go_sem, ↓reduceIte, ↓put_at, reduceCtorEq, Nat.reduceAdd, Nat.reduceSub, Nat.reduceMul, Int.reduceToNat, Int.reducePow, Int.reduceAdd, Int.reduceSub, Int.reduceMul, Int.reduceNeg, Nat.min_eq_left, Nat.min_eq_right, Int.max_eq_left, Int.max_eq_right, Int.min_eq_left, Int.min_eq_right, Nat.reduceLeDiff])))
    refine call_s Tryd.call57 (q_put G 1 (by omega) (by decide)) [] ?_
    (repeat (first | refine aw_seq ?_ | refine aw_block ?_ | refine aw_reg hC (by kernel_rfl) ?_ | refine aw_regd hC Tryd.checked.mixed (by kernel_rfl) ?_ | refine chk_and (by kernel_rfl) ?_ | refine aw_skip ?_ | refine aw_if ?_ | refine And.intro (by first | omega | with_reducible assumption) ?_ | refine aw_exit ?_ | refine aw_ret ?_ | (simp (decide := true) (disch := omega) only [go_sem, ↓reduceIte, ↓put_at, reduceCtorEq, Nat.reduceAdd, Nat.reduceSub, Nat.reduceMul, Int.reduceToNat, Int.reducePow, Int.reduceAdd, Int.reduceSub, Int.reduceMul, Int.reduceNeg, Nat.min_eq_left, Nat.min_eq_right, Int.max_eq_left, Int.max_eq_right, Int.min_eq_left, Int.min_eq_right, Nat.reduceLeDiff])))
    refine call_s Tryd.call57 (q_put sq 2 (by omega) (by decide)) [] ?_
    (repeat (first | refine aw_seq ?_ | refine aw_block ?_ | refine aw_reg hC (by kernel_rfl) ?_ | refine aw_regd hC Tryd.checked.mixed (by kernel_rfl) ?_ | refine chk_and (by kernel_rfl) ?_ | refine aw_skip ?_ | refine aw_if ?_ | refine And.intro (by first | omega | with_reducible assumption) ?_ | refine aw_exit ?_ | refine aw_ret ?_ | (simp (decide := true) (disch := omega) only [go_sem, ↓reduceIte, ↓put_at, reduceCtorEq, Nat.reduceAdd, Nat.reduceSub, Nat.reduceMul, Int.reduceToNat, Int.reducePow, Int.reduceAdd, Int.reduceSub, Int.reduceMul, Int.reduceNeg, Nat.min_eq_left, Nat.min_eq_right, Int.max_eq_left, Int.max_eq_right, Int.min_eq_left, Int.min_eq_right, Nat.reduceLeDiff])))
    refine call_s Tryd.call57 (q_put tm 4 (by omega) (by decide)) [] ?_
    (repeat (first | refine aw_seq ?_ | refine aw_block ?_ | refine aw_reg hC (by kernel_rfl) ?_ | refine aw_regd hC Tryd.checked.mixed (by kernel_rfl) ?_ | refine chk_and (by kernel_rfl) ?_ | refine aw_skip ?_ | refine aw_if ?_ | refine And.intro (by first | omega | with_reducible assumption) ?_ | refine aw_exit ?_ | refine aw_ret ?_ | (simp (decide := true) (disch := omega) only [go_sem, ↓reduceIte, ↓put_at, reduceCtorEq, Nat.reduceAdd, Nat.reduceSub, Nat.reduceMul, Int.reduceToNat, Int.reducePow, Int.reduceAdd, Int.reduceSub, Int.reduceMul, Int.reduceNeg, Nat.min_eq_left, Nat.min_eq_right, Int.max_eq_left, Int.max_eq_right, Int.min_eq_left, Int.min_eq_right, Nat.reduceLeDiff])))
    refine call_s Tryd.call57 (q_put sr 4 (by omega) (by decide)) [] ?_
    (repeat (first | refine aw_seq ?_ | refine aw_block ?_ | refine aw_reg hC (by kernel_rfl) ?_ | refine aw_regd hC Tryd.checked.mixed (by kernel_rfl) ?_ | refine chk_and (by kernel_rfl) ?_ | refine aw_skip ?_ | refine aw_if ?_ | refine And.intro (by first | omega | with_reducible assumption) ?_ | refine aw_exit ?_ | refine aw_ret ?_ | (simp (decide := true) (disch := omega) only [go_sem, ↓reduceIte, ↓put_at, reduceCtorEq, Nat.reduceAdd, Nat.reduceSub, Nat.reduceMul, Int.reduceToNat, Int.reducePow, Int.reduceAdd, Int.reduceSub, Int.reduceMul, Int.reduceNeg, Nat.min_eq_left, Nat.min_eq_right, Int.max_eq_left, Int.max_eq_right, Int.min_eq_left, Int.min_eq_right, Nat.reduceLeDiff])))
    rw [← hA]
    have hpl := fun j => puts'_length 4 (os.take j)
    refine loop_s (α := {j : Nat // j ≤ os.length}) (fun j => [(.s 1, .av (.ptr (1, 0) 0 0)), (.o (1, 0), .num 11), (.c (1, 0) 6, .av (.val (vb hx))), (.c (1, 0) 7, .av (.val (vi pf))), (.c (1, 0) 8, .av (.val (vs ex))), (.c (1, 0) 9, .av (.val (vs da))), (.c (1, 0) 10, .av (.val (vi pd))), (.s 5, .av (.val (vs (A ++ puts' 4 (os.take j.1))))), (.s 49, .av (.val (.lst 1 (os.map intEl)))), (.s 50, .av (.val (vi os.length))), (.s 51, .av (.val (vi j.1)))]) (fun j => os.length - j.1) ⟨0, Nat.zero_le _⟩ ?_ (fun j => ?_)
    · simp only [List.take_zero, puts', List.flatMap_nil, List.append_nil]
      simp (decide := true) (disch := omega) only [go_sem, ↓reduceIte, ↓put_at, reduceCtorEq, Nat.reduceAdd, Nat.reduceSub, Nat.reduceMul, Int.reduceToNat, Int.reducePow, Int.reduceAdd, Int.reduceSub, Int.reduceMul, Int.reduceNeg, Nat.min_eq_left, Nat.min_eq_right, Int.max_eq_left, Int.max_eq_right, Int.min_eq_left, Int.min_eq_right, Nat.reduceLeDiff]
    · obtain ⟨j, hj⟩ := j
      dsimp only at hj ⊢
      have hpj := hpl j
      rw [List.length_take, Nat.min_eq_left hj] at hpj
      by_cases hlt : j < os.length
      · have hs : os.take (j + 1) = os.take j ++ [os[j]] := List.take_succ_eq_append_getElem hlt
        have o5 := o4 _ (List.getElem_mem hlt)
        have z6 := putZ_length os[j] 4
        (repeat (first | refine aw_seq ?_ | refine aw_block ?_ | refine aw_reg hC (by kernel_rfl) ?_ | refine aw_regd hC Tryd.checked.mixed (by kernel_rfl) ?_ | refine chk_and (by kernel_rfl) ?_ | refine aw_skip ?_ | refine aw_if ?_ | refine And.intro (by first | omega | with_reducible assumption) ?_ | refine aw_exit ?_ | refine aw_ret ?_ | (simp (decide := true) (disch := omega) only [go_sem, ↓reduceIte, ↓put_at, reduceCtorEq, Nat.reduceAdd, Nat.reduceSub, Nat.reduceMul, Int.reduceToNat, Int.reducePow, Int.reduceAdd, Int.reduceSub, Int.reduceMul, Int.reduceNeg, Nat.min_eq_left, Nat.min_eq_right, Int.max_eq_left, Int.max_eq_right, Int.min_eq_left, Int.min_eq_right, Nat.reduceLeDiff])))
        refine call_s Tryd.call57 (q_put os[j] 4 (by omega) (by decide)) [] ?_
        (repeat (first | refine aw_seq ?_ | refine aw_block ?_ | refine aw_reg hC (by kernel_rfl) ?_ | refine aw_regd hC Tryd.checked.mixed (by kernel_rfl) ?_ | refine chk_and (by kernel_rfl) ?_ | refine aw_skip ?_ | refine aw_if ?_ | refine And.intro (by first | omega | with_reducible assumption) ?_ | refine aw_exit ?_ | refine aw_ret ?_ | (simp (decide := true) (disch := omega) only [go_sem, ↓reduceIte, ↓put_at, reduceCtorEq, Nat.reduceAdd, Nat.reduceSub, Nat.reduceMul, Int.reduceToNat, Int.reducePow, Int.reduceAdd, Int.reduceSub, Int.reduceMul, Int.reduceNeg, Nat.min_eq_left, Nat.min_eq_right, Int.max_eq_left, Int.max_eq_right, Int.min_eq_left, Int.min_eq_right, Nat.reduceLeDiff])))
        refine next_s ⟨j + 1, hlt⟩ ⟨?_, by dsimp only; omega⟩
        rw [hs, puts'_snoc]
        simp (decide := true) (disch := omega) only [go_sem, ↓reduceIte, ↓put_at, reduceCtorEq, Nat.reduceAdd, Nat.reduceSub, Nat.reduceMul, Int.reduceToNat, Int.reducePow, Int.reduceAdd, Int.reduceSub, Int.reduceMul, Int.reduceNeg, Nat.min_eq_left, Nat.min_eq_right, Int.max_eq_left, Int.max_eq_right, Int.min_eq_left, Int.min_eq_right, Nat.reduceLeDiff]
        try simp
      · have hjo : os.take j = os := List.take_of_length_le (by omega)
        have hjl : j = os.length := by omega
        rw [hjo] at hpj ⊢
        obtain ⟨B, hB⟩ : ∃ B, B = A ++ puts' 4 os := ⟨_, rfl⟩
        have hBl : B.length ≤ 72 := by rw [hB, List.length_append]; omega
        rw [← hB]
        clear hB
        have hxl : (extB ⟨mk, kd, sq, tm, sr, os, hx, pf, ex, da, pd⟩).length ≤ 262144 := by
          unfold extB
          split
          · simp only [List.length_append, puts'_length, List.length_cons, List.length_nil]; omega
          · simp
        (repeat ((fail_if_success (refine stop_reg 17 ?_)); (first | refine aw_seq ?_ | refine aw_block ?_ | refine aw_reg hC (by kernel_rfl) ?_ | refine aw_regd hC Tryd.checked.mixed (by kernel_rfl) ?_ | refine chk_and (by kernel_rfl) ?_ | refine aw_skip ?_ | refine aw_if ?_ | refine And.intro (by first | omega | with_reducible assumption) ?_ | refine aw_exit ?_ | refine aw_ret ?_ | (simp (decide := true) (disch := omega) only [go_sem, ↓reduceIte, ↓put_at, reduceCtorEq, Nat.reduceAdd, Nat.reduceSub, Nat.reduceMul, Int.reduceToNat, Int.reducePow, Int.reduceAdd, Int.reduceSub, Int.reduceMul, Int.reduceNeg, Nat.min_eq_left, Nat.min_eq_right, Int.max_eq_left, Int.max_eq_right, Int.min_eq_left, Int.min_eq_right, Nat.reduceLeDiff]))))
        refine meet_s (α := {_x : Unit // True}) (fun _ => [(.s 1, .av (.ptr (1, 0) 0 0)), (.o (1, 0), .num 11), (.c (1, 0) 9, .av (.val (vs da))), (.c (1, 0) 10, .av (.val (vi pd))), (.s 5, .av (.val (vs (B ++ extB ⟨mk, kd, sq, tm, sr, os, hx, pf, ex, da, pd⟩))))]) ?_ (fun x => ?_)
        · cases hx with
          | true =>
            have e1 : extB ⟨mk, kd, sq, tm, sr, os, true, pf, ex, da, pd⟩ = putZ pf 2 ++ putZ ((ex.length : Int) / 4) 2 ++ ex := by
              unfold extB
              rw [if_pos rfl]
              simp [puts', Int.natCast_ediv]
            have z6 := putZ_length pf 2
            have z7 := putZ_length ((ex.length : Int) / 4) 2
            (repeat (first | refine aw_seq ?_ | refine aw_block ?_ | refine aw_reg hC (by kernel_rfl) ?_ | refine aw_regd hC Tryd.checked.mixed (by kernel_rfl) ?_ | refine chk_and (by kernel_rfl) ?_ | refine aw_skip ?_ | refine aw_if ?_ | refine And.intro (by first | omega | with_reducible assumption) ?_ | refine aw_exit ?_ | refine aw_ret ?_ | (simp (decide := true) (disch := omega) only [go_sem, ↓reduceIte, ↓put_at, reduceCtorEq, Nat.reduceAdd, Nat.reduceSub, Nat.reduceMul, Int.reduceToNat, Int.reducePow, Int.reduceAdd, Int.reduceSub, Int.reduceMul, Int.reduceNeg, Nat.min_eq_left, Nat.min_eq_right, Int.max_eq_left, Int.max_eq_right, Int.min_eq_left, Int.min_eq_right, Nat.reduceLeDiff])))
            refine call_s Tryd.call57 (q_put pf 2 (by omega) (by decide)) [] ?_
            (repeat (first | refine aw_seq ?_ | refine aw_block ?_ | refine aw_reg hC (by kernel_rfl) ?_ | refine aw_regd hC Tryd.checked.mixed (by kernel_rfl) ?_ | refine chk_and (by kernel_rfl) ?_ | refine aw_skip ?_ | refine aw_if ?_ | refine And.intro (by first | omega | with_reducible assumption) ?_ | refine aw_exit ?_ | refine aw_ret ?_ | (simp (decide := true) (disch := omega) only [go_sem, ↓reduceIte, ↓put_at, reduceCtorEq, Nat.reduceAdd, Nat.reduceSub, Nat.reduceMul, Int.reduceToNat, Int.reducePow, Int.reduceAdd, Int.reduceSub, Int.reduceMul, Int.reduceNeg, Nat.min_eq_left, Nat.min_eq_right, Int.max_eq_left, Int.max_eq_right, Int.min_eq_left, Int.min_eq_right, Nat.reduceLeDiff])))
            refine call_s Tryd.call57 (q_put ((ex.length : Int) / 4) 2 (by omega) (by decide)) [] ?_
            (repeat (first | refine aw_seq ?_ | refine aw_block ?_ | refine aw_reg hC (by kernel_rfl) ?_ | refine aw_regd hC Tryd.checked.mixed (by kernel_rfl) ?_ | refine chk_and (by kernel_rfl) ?_ | refine aw_skip ?_ | refine aw_if ?_ | refine And.intro (by first | omega | with_reducible assumption) ?_ | refine aw_exit ?_ | refine aw_ret ?_ | (simp (decide := true) (disch := omega) only [go_sem, ↓reduceIte, ↓put_at, reduceCtorEq, Nat.reduceAdd, Nat.reduceSub, Nat.reduceMul, Int.reduceToNat, Int.reducePow, Int.reduceAdd, Int.reduceSub, Int.reduceMul, Int.reduceNeg, Nat.min_eq_left, Nat.min_eq_right, Int.max_eq_left, Int.max_eq_right, Int.min_eq_left, Int.min_eq_right, Nat.reduceLeDiff])))
            refine at_meet ⟨(), trivial⟩ ?_
            rw [e1]
            simp (decide := true) (disch := omega) only [go_sem, ↓reduceIte, ↓put_at, reduceCtorEq, Nat.reduceAdd, Nat.reduceSub, Nat.reduceMul, Int.reduceToNat, Int.reducePow, Int.reduceAdd, Int.reduceSub, Int.reduceMul, Int.reduceNeg, Nat.min_eq_left, Nat.min_eq_right, Int.max_eq_left, Int.max_eq_right, Int.min_eq_left, Int.min_eq_right, Nat.reduceLeDiff]
          | false =>
            have e1 : extB ⟨mk, kd, sq, tm, sr, os, false, pf, ex, da, pd⟩ = [] := rfl
            (repeat (first | refine aw_seq ?_ | refine aw_block ?_ | refine aw_reg hC (by kernel_rfl) ?_ | refine aw_regd hC Tryd.checked.mixed (by kernel_rfl) ?_ | refine chk_and (by kernel_rfl) ?_ | refine aw_skip ?_ | refine aw_if ?_ | refine And.intro (by first | omega | with_reducible assumption) ?_ | refine aw_exit ?_ | refine aw_ret ?_ | (simp (decide := true) (disch := omega) only [go_sem, ↓reduceIte, ↓put_at, reduceCtorEq, Nat.reduceAdd, Nat.reduceSub, Nat.reduceMul, Int.reduceToNat, Int.reducePow, Int.reduceAdd, Int.reduceSub, Int.reduceMul, Int.reduceNeg, Nat.min_eq_left, Nat.min_eq_right, Int.max_eq_left, Int.max_eq_right, Int.min_eq_left, Int.min_eq_right, Nat.reduceLeDiff])))
            refine at_meet ⟨(), trivial⟩ ?_
            rw [e1, List.append_nil]
            simp (decide := true) (disch := omega) only [go_sem, ↓reduceIte, ↓put_at, reduceCtorEq, Nat.reduceAdd, Nat.reduceSub, Nat.reduceMul, Int.reduceToNat, Int.reducePow, Int.reduceAdd, Int.reduceSub, Int.reduceMul, Int.reduceNeg, Nat.min_eq_left, Nat.min_eq_right, Int.max_eq_left, Int.max_eq_right, Int.min_eq_left, Int.min_eq_right, Nat.reduceLeDiff]
        generalize extB ⟨mk, kd, sq, tm, sr, os, hx, pf, ex, da, pd⟩ = X at *
        obtain ⟨D, hD⟩ : ∃ D, D = B ++ X ++ da := ⟨_, rfl⟩
        have hDl : D.length ≤ 1099512000000 := by rw [hD]; simp only [List.length_append]; omega
        rw [← hD]
        (repeat (first | refine aw_seq ?_ | refine aw_block ?_ | refine aw_reg hC (by kernel_rfl) ?_ | refine aw_regd hC Tryd.checked.mixed (by kernel_rfl) ?_ | refine chk_and (by kernel_rfl) ?_ | refine aw_skip ?_ | refine aw_if ?_ | refine And.intro (by first | omega | with_reducible assumption) ?_ | refine aw_exit ?_ | refine aw_ret ?_ | (simp (decide := true) (disch := omega) only [go_sem, ↓reduceIte, ↓put_at, reduceCtorEq, Nat.reduceAdd, Nat.reduceSub, Nat.reduceMul, Int.reduceToNat, Int.reducePow, Int.reduceAdd, Int.reduceSub, Int.reduceMul, Int.reduceNeg, Nat.min_eq_left, Nat.min_eq_right, Int.max_eq_left, Int.max_eq_right, Int.min_eq_left, Int.min_eq_right, Nat.reduceLeDiff])))
        simp only [← List.append_assoc, ← hD]
        refine loop_s (α := {j : Nat // (j : Int) < pd ∨ j = 0 ∨ (j : Int) + 1 = pd}) (fun j => [(.s 1, .av (.ptr (1, 0) 0 0)), (.o (1, 0), .num 11), (.c (1, 0) 10, .av (.val (vi pd))), (.s 5, .av (.val (vs (D ++ zer j.1)))), (.s 8, .av (.val (vi ((j.1 : Int) + 1))))]) (fun j => pd.toNat - j.1) ⟨0, .inr (.inl rfl)⟩ ?_ (fun j => ?_)
        · simp only [zer, List.replicate_zero, List.append_nil]
          simp (decide := true) (disch := omega) only [go_sem, ↓reduceIte, ↓put_at, reduceCtorEq, Nat.reduceAdd, Nat.reduceSub, Nat.reduceMul, Int.reduceToNat, Int.reducePow, Int.reduceAdd, Int.reduceSub, Int.reduceMul, Int.reduceNeg, Nat.min_eq_left, Nat.min_eq_right, Int.max_eq_left, Int.max_eq_right, Int.min_eq_left, Int.min_eq_right, Nat.reduceLeDiff]
        · obtain ⟨j, hj⟩ := j
          dsimp only at hj ⊢
          have hzl := zer_len j
          by_cases hlt : (j : Int) + 1 < pd
          · have hzs := zer_succ j
            (repeat (first | refine aw_seq ?_ | refine aw_block ?_ | refine aw_reg hC (by kernel_rfl) ?_ | refine aw_regd hC Tryd.checked.mixed (by kernel_rfl) ?_ | refine chk_and (by kernel_rfl) ?_ | refine aw_skip ?_ | refine aw_if ?_ | refine And.intro (by first | omega | with_reducible assumption) ?_ | refine aw_exit ?_ | refine aw_ret ?_ | (simp (decide := true) (disch := omega) only [go_sem, ↓reduceIte, ↓put_at, reduceCtorEq, Nat.reduceAdd, Nat.reduceSub, Nat.reduceMul, Int.reduceToNat, Int.reducePow, Int.reduceAdd, Int.reduceSub, Int.reduceMul, Int.reduceNeg, Nat.min_eq_left, Nat.min_eq_right, Int.max_eq_left, Int.max_eq_right, Int.min_eq_left, Int.min_eq_right, Nat.reduceLeDiff])))
            refine next_s ⟨j + 1, by omega⟩ ⟨?_, by dsimp only; omega⟩
            rw [hzs]
            simp (decide := true) (disch := omega) only [go_sem, ↓reduceIte, ↓put_at, reduceCtorEq, Nat.reduceAdd, Nat.reduceSub, Nat.reduceMul, Int.reduceToNat, Int.reducePow, Int.reduceAdd, Int.reduceSub, Int.reduceMul, Int.reduceNeg, Nat.min_eq_left, Nat.min_eq_right, Int.max_eq_left, Int.max_eq_right, Int.min_eq_left, Int.min_eq_right, Nat.reduceLeDiff]
            try simp
          · by_cases hp : 0 < pd
            · have et : tailB pd = zer j ++ putZ pd 1 := by
                unfold tailB zer
                rw [if_pos hp, show (pd - 1).toNat = j by omega]
              have z8 := putZ_length pd 1
              rw [et]
              (repeat (first | refine aw_seq ?_ | refine aw_block ?_ | refine aw_reg hC (by kernel_rfl) ?_ | refine aw_regd hC Tryd.checked.mixed (by kernel_rfl) ?_ | refine chk_and (by kernel_rfl) ?_ | refine aw_skip ?_ | refine aw_if ?_ | refine And.intro (by first | omega | with_reducible assumption) ?_ | refine aw_exit ?_ | refine aw_ret ?_ | (simp (decide := true) (disch := omega) only [go_sem, ↓reduceIte, ↓put_at, reduceCtorEq, Nat.reduceAdd, Nat.reduceSub, Nat.reduceMul, Int.reduceToNat, Int.reducePow, Int.reduceAdd, Int.reduceSub, Int.reduceMul, Int.reduceNeg, Nat.min_eq_left, Nat.min_eq_right, Int.max_eq_left, Int.max_eq_right, Int.min_eq_left, Int.min_eq_right, Nat.reduceLeDiff])))
              refine call_s Tryd.call57 (q_put pd 1 (by omega) (by decide)) [] ?_
              (repeat (first | refine aw_seq ?_ | refine aw_block ?_ | refine aw_reg hC (by kernel_rfl) ?_ | refine aw_regd hC Tryd.checked.mixed (by kernel_rfl) ?_ | refine chk_and (by kernel_rfl) ?_ | refine aw_skip ?_ | refine aw_if ?_ | refine And.intro (by first | omega | with_reducible assumption) ?_ | refine aw_exit ?_ | refine aw_ret ?_ | (simp (decide := true) (disch := omega) only [go_sem, ↓reduceIte, ↓put_at, reduceCtorEq, Nat.reduceAdd, Nat.reduceSub, Nat.reduceMul, Int.reduceToNat, Int.reducePow, Int.reduceAdd, Int.reduceSub, Int.reduceMul, Int.reduceNeg, Nat.min_eq_left, Nat.min_eq_right, Int.max_eq_left, Int.max_eq_right, Int.min_eq_left, Int.min_eq_right, Nat.reduceLeDiff])))
              (refine ret_s [] ?_; simp (decide := true) (disch := omega) only [go_sem, ↓reduceIte, ↓put_at, reduceCtorEq, Nat.reduceAdd, Nat.reduceSub, Nat.reduceMul, Int.reduceToNat, Int.reducePow, Int.reduceAdd, Int.reduceSub, Int.reduceMul, Int.reduceNeg, Nat.min_eq_left, Nat.min_eq_right, Int.max_eq_left, Int.max_eq_right, Int.min_eq_left, Int.min_eq_right, Nat.reduceLeDiff])
              try simp
            · have et : tailB pd = [] := by unfold tailB; rw [if_neg hp]
              obtain rfl : j = 0 := by omega
              rw [et]
              (repeat (first | refine aw_seq ?_ | refine aw_block ?_ | refine aw_reg hC (by kernel_rfl) ?_ | refine aw_regd hC Tryd.checked.mixed (by kernel_rfl) ?_ | refine chk_and (by kernel_rfl) ?_ | refine aw_skip ?_ | refine aw_if ?_ | refine And.intro (by first | omega | with_reducible assumption) ?_ | refine aw_exit ?_ | refine aw_ret ?_ | (simp (decide := true) (disch := omega) only [go_sem, ↓reduceIte, ↓put_at, reduceCtorEq, Nat.reduceAdd, Nat.reduceSub, Nat.reduceMul, Int.reduceToNat, Int.reducePow, Int.reduceAdd, Int.reduceSub, Int.reduceMul, Int.reduceNeg, Nat.min_eq_left, Nat.min_eq_right, Int.max_eq_left, Int.max_eq_right, Int.min_eq_left, Int.min_eq_right, Nat.reduceLeDiff])))
              (refine ret_s [] ?_; simp (decide := true) (disch := omega) only [go_sem, ↓reduceIte, ↓put_at, reduceCtorEq, Nat.reduceAdd, Nat.reduceSub, Nat.reduceMul, Int.reduceToNat, Int.reducePow, Int.reduceAdd, Int.reduceSub, Int.reduceMul, Int.reduceNeg, Nat.min_eq_left, Nat.min_eq_right, Int.max_eq_left, Int.max_eq_right, Int.min_eq_left, Int.min_eq_right, Nat.reduceLeDiff])
              try simp [zer]
end Go.Proofs.YtkdnaemkhgjbpaaDoor
