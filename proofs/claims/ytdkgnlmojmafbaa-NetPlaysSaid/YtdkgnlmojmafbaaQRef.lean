
/- References of layers 2 and 3, lists alike; by abstract values. -/
import Derived.Test.YtdkgnlmojmafbaaQPen
import Derived.Test.YtdkgnlmojmafbaaRH
namespace Go.Proofs.Ytdkgnlmojmafbaa
open Go.RowKit
set_option linter.unusedVariables false
set_option linter.unusedSimpArgs false

set_option maxRecDepth 100000 in
set_option maxHeartbeats 8000000 in
theorem q_cut (l : List UInt8) (n : Int) (hl : l.length ≤ maxLen) (hn : 0 ≤ n) : Spec Try.prog 15 [.ca (.val (vs l)), .ca (.val (vi n))] [] (.ca (.val (vs (l.take n.toNat)))) [] := by
  unfold maxLen at hl
  refine spec_of Try.func15 rfl Try.ntmps15 Try.results15 ⟨by decide, by simp⟩ fun C hC => ?_
  by_cases h : n < l.length
  · (repeat (first | refine sp_ ?_ | exact ex0))
    (refine ret_s [] ?_; simp (decide := true) (disch := omega) only [go_sem, ↓reduceIte, ↓put_at])
  · (repeat (first | refine sp_ ?_ | exact ex0))
    (refine ret_s [] ?_; simp (decide := true) (disch := omega) only [go_sem, ↓reduceIte, ↓put_at])
    rw [List.take_of_length_le (by omega)]
set_option maxRecDepth 100000 in
set_option maxHeartbeats 8000000 in
theorem q_same (xs ys : List Int) (hx : xs.length ≤ maxLen) (hy : ys.length ≤ maxLen) : Spec Try.prog 28 [.ca (.val (.lst 1 (xs.map intEl))), .ca (.val (.lst 1 (ys.map intEl)))] [] (.ca (.val (vb (decide (xs = ys))))) [] := by
  unfold maxLen at hx hy
  refine spec_of Try.func28 rfl Try.ntmps28 Try.results28 ⟨by decide, by simp⟩ fun C hC => ?_
  by_cases hl : xs.length = ys.length
  · (repeat (first | refine sp_ ?_ | exact ex0))
    refine loop_s (α := {j : Nat // j ≤ xs.length ∧ xs.take j = ys.take j}) (fun j => [(.s 0, .av (.val (.lst 1 (xs.map intEl)))), (.s 1, .av (.val (.lst 1 (ys.map intEl)))), (.s 12, .av (.val (vi xs.length))), (.s 13, .av (.val (vi j.1)))]) (fun j => xs.length - j.1) ⟨0, Nat.zero_le _, rfl⟩ ?_ (fun j => ?_)
    · simp (decide := true) (disch := omega) only [go_sem, ↓reduceIte, ↓put_at]
    · obtain ⟨j, hj, ht⟩ := j
      dsimp only at hj ⊢
      by_cases hlt : j < xs.length
      · have hlt' : j < ys.length := by omega
        by_cases he : xs[j] = ys[j]
        · (repeat (first | refine sp_ ?_ | exact ex0))
          refine next_s ⟨j + 1, hlt, by rw [List.take_succ_eq_append_getElem hlt, List.take_succ_eq_append_getElem hlt', ht, he]⟩ ⟨?_, by dsimp only; omega⟩
          simp (decide := true) (disch := omega) only [go_sem, ↓reduceIte, ↓put_at]
        · (repeat (first | refine sp_ ?_ | exact ex0))
          (refine ret_s [] ?_; simp (decide := true) (disch := omega) only [go_sem, ↓reduceIte, ↓put_at])
          try exact (decide_eq_false fun e => he (by simp only [e])).symm
      · have e : xs = ys := by
          rw [List.take_of_length_le (by omega), List.take_of_length_le (by omega)] at ht
          exact ht
        (repeat (first | refine sp_ ?_ | exact ex0))
        (refine ret_s [] ?_; simp (decide := true) (disch := omega) only [go_sem, ↓reduceIte, ↓put_at])
        try exact (decide_eq_true e).symm
  · (repeat (first | refine sp_ ?_ | exact ex0))
    (refine ret_s [] ?_; simp (decide := true) (disch := omega) only [go_sem, ↓reduceIte, ↓put_at])
    try exact (decide_eq_false fun e => hl (by rw [e])).symm
end Go.Proofs.Ytdkgnlmojmafbaa
