
/- Layer 15: the fixed fact, walked. -/
import Derived.Test.YtdgkehoodlncmaaGauge3
import Derived.Test.YtdgkehoodlncmaaGauge4
import Derived.Test.YtdgkehoodlncmaaGSort
namespace Go.Proofs.Ytdgkehoodlncmaa
open Go.RowKit
set_option linter.unusedVariables false
set_option linter.unusedSimpArgs false

theorem srt312 : srt [3, 1, 2] = [1, 2, 3] := by
  simp [srt, List.mergeSort, List.MergeSort.Internal.splitInTwo, List.merge]
theorem half312 : Spec Try.prog 90 [.ca (.val (.lst 1 [[vi 3], [vi 1], [vi 2]]))] [] (.ca (.val (vi 2))) [] := by
  have h := q_half [3, 1, 2] (by simp) (by simp) (by rw [srt312]; simp)
  simp only [srt312] at h
  exact h
set_option maxRecDepth 100000 in
theorem awake15 : Spec Try.prog 35 [] [] (.ca (.val (vb true))) [] := by
  have c1 := g_jnext ⟨0, 0, false⟩ 0 5
  rw [show jNext ⟨0, 0, false⟩ 0 5 = ⟨0, 5, true⟩ from rfl] at c1
  have c2 := g_jnext ⟨0, 5, true⟩ 10 31
  rw [show jNext ⟨0, 5, true⟩ 10 31 = ⟨16, 21, true⟩ from rfl] at c2
  have c3 := g_jval ⟨16, 21, true⟩
  rw [show jVal ⟨16, 21, true⟩ = 1 from rfl] at c3
  have c4 := half312
  have c5 := g_tout ⟨0, 0, false⟩
  rw [show trOut ⟨0, 0, false⟩ = 100 from rfl] at c5
  refine spec_of Try.func35 rfl Try.ntmps35 Try.results35 ⟨by decide, by simp⟩ fun C hC => ?_
  (repeat' ((first | refine aw_seq ?_ | refine aw_block ?_ | refine aw_reg hC (by kernel_rfl) ?_ | refine aw_regd hC Try.checked.mixed (by kernel_rfl) ?_ | refine chk_and (by kernel_rfl) ?_ | refine aw_skip ?_ | refine aw_if ?_ | refine And.intro (by first | omega | with_reducible assumption) ?_ | refine aw_exit ?_ | refine aw_ret ?_ | (simp (decide := true) (disch := omega) only [go_sem, ↓reduceIte, ↓put_at]) | refine call_u Try.call36 (c1) [] (by simp (decide := true) (disch := omega) only [go_sem, ↓reduceIte, ↓put_at]; first | done | assumption | omega) ?_ | refine call_u Try.call36 (c2) [] (by simp (decide := true) (disch := omega) only [go_sem, ↓reduceIte, ↓put_at]; first | done | assumption | omega) ?_ | refine call_u Try.call37 (c3) [] (by simp (decide := true) (disch := omega) only [go_sem, ↓reduceIte, ↓put_at]; first | done | assumption | omega) ?_ | refine call_u Try.call90 (c4) [] (by simp (decide := true) (disch := omega) only [go_sem, ↓reduceIte, ↓put_at]; first | done | assumption | omega) ?_ | refine call_u Try.call39 (c5) [] (by simp (decide := true) (disch := omega) only [go_sem, ↓reduceIte, ↓put_at]; first | done | assumption | omega) ?_ | (refine ret_s [] ?_; simp (decide := true) (disch := omega) only [go_sem, ↓reduceIte, ↓put_at]))))
end Go.Proofs.Ytdgkehoodlncmaa
