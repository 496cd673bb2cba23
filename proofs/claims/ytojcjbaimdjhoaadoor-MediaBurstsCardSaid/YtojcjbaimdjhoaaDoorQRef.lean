
/- References of layers 2 and 3, lists alike; by abstract values. -/
import Derived.Test.YtojcjbaimdjhoaaDoorQPen
import Derived.Test.YtojcjbaimdjhoaaDoorRF
namespace Go.Proofs.YtojcjbaimdjhoaaDoor
open Go.RowKit
set_option linter.unusedVariables false
set_option linter.unusedSimpArgs false

set_option maxRecDepth 100000 in
theorem q_cut (l : List UInt8) (n : Int) (hl : l.length ≤ maxLen) (hn : 0 ≤ n) : Spec Tryd.prog 10 [.ca (.val (vs l)), .ca (.val (vi n))] [] (.ca (.val (vs (l.take n.toNat)))) [] := by
  unfold maxLen at hl
  refine spec_of Tryd.func10 rfl Tryd.ntmps10 Tryd.results10 ⟨by decide, by simp⟩ fun C hC => ?_
  by_cases h : n < l.length
  · (repeat (first | refine aw_seq ?_ | refine aw_block ?_ | refine aw_reg hC (by kernel_rfl) ?_ | refine aw_regd hC Tryd.checked.mixed (by kernel_rfl) ?_ | refine chk_and (by kernel_rfl) ?_ | refine aw_skip ?_ | refine aw_if ?_ | refine And.intro (by first | omega | with_reducible assumption) ?_ | refine aw_exit ?_ | refine aw_ret ?_ | (simp (decide := true) (disch := omega) only [go_sem, ↓reduceIte, ↓put_at])))
    (refine ret_s [] ?_; simp (decide := true) (disch := omega) only [go_sem, ↓reduceIte, ↓put_at])
  · (repeat (first | refine aw_seq ?_ | refine aw_block ?_ | refine aw_reg hC (by kernel_rfl) ?_ | refine aw_regd hC Tryd.checked.mixed (by kernel_rfl) ?_ | refine chk_and (by kernel_rfl) ?_ | refine aw_skip ?_ | refine aw_if ?_ | refine And.intro (by first | omega | with_reducible assumption) ?_ | refine aw_exit ?_ | refine aw_ret ?_ | (simp (decide := true) (disch := omega) only [go_sem, ↓reduceIte, ↓put_at])))
    (refine ret_s [] ?_; simp (decide := true) (disch := omega) only [go_sem, ↓reduceIte, ↓put_at])
    rw [List.take_of_length_le (by omega)]
set_option maxRecDepth 100000 in
theorem q_put (n : Int) (k : Nat) (hn : 0 ≤ n ∧ n ≤ 9223372036854775807) (hk : k ≤ 8) : Spec Tryd.prog 45 [.ca (.val (vi n)), .ca (.val (vi k))] [] (.ca (.val (vs (putZ n k)))) [] := by
  refine spec_of Tryd.func45 rfl Tryd.ntmps45 Tryd.results45 ⟨by decide, by simp⟩ fun C hC => ?_
  (repeat (first | refine aw_seq ?_ | refine aw_block ?_ | refine aw_reg hC (by kernel_rfl) ?_ | refine aw_regd hC Tryd.checked.mixed (by kernel_rfl) ?_ | refine chk_and (by kernel_rfl) ?_ | refine aw_skip ?_ | refine aw_if ?_ | refine And.intro (by first | omega | with_reducible assumption) ?_ | refine aw_exit ?_ | refine aw_ret ?_ | (simp (decide := true) (disch := omega) only [go_sem, ↓reduceIte, ↓put_at])))
  refine loop_s (α := {x : Nat × Int // x.1 ≤ k ∧ x.2 = n / 256 ^ x.1}) (fun x => [(.s 0, .av (.val (vi x.1.2))), (.s 1, .av (.val (vi k))), (.s 5, .av (.val (.lst 1 ((putZ n x.1.1).map byteEl)))), (.s 6, .av (.val (vi x.1.1)))]) (fun x => k - x.1.1) ⟨(0, n), Nat.zero_le _, by simp⟩ ?_ (fun x => ?_)
  · simp only [putZ]
    simp (decide := true) (disch := omega) only [go_sem, ↓reduceIte, ↓put_at]
  · obtain ⟨⟨i, q⟩, hi, hq⟩ := x
    dsimp only at hi hq ⊢
    have h0 : 0 ≤ q := by rw [hq]; exact Int.ediv_nonneg hn.1 (Int.le_of_lt (pow_pos' i))
    have h1 : q ≤ n := by rw [hq]; exact Int.ediv_le_self _ hn.1
    by_cases hlt : i < k
    · have hz := putZ_length n i
      (repeat (first | refine aw_seq ?_ | refine aw_block ?_ | refine aw_reg hC (by kernel_rfl) ?_ | refine aw_regd hC Tryd.checked.mixed (by kernel_rfl) ?_ | refine chk_and (by kernel_rfl) ?_ | refine aw_skip ?_ | refine aw_if ?_ | refine And.intro (by first | omega | with_reducible assumption) ?_ | refine aw_exit ?_ | refine aw_ret ?_ | (simp (decide := true) (disch := omega) only [go_sem, ↓reduceIte, ↓put_at])))
      have hp := pow_pos' i
      refine next_s ⟨(i + 1, (q - q % 256) / 256), hlt, ?_⟩ ⟨?_, by dsimp only; omega⟩
      · dsimp only
        have e : (q - q % 256) / 256 = q / 256 := by omega
        rw [e, hq, Int.pow_succ, Int.ediv_ediv_of_nonneg (by omega)]
      · simp (decide := true) (disch := omega) only [go_sem, ↓reduceIte, ↓put_at]
        have e := byte_of q
        rw [IntKind.wrap_u8] at e
        rw [putZ, List.map_cons, ← hq, ← e]
        try rfl
    · have e : i = k := by omega
      (repeat (first | refine aw_seq ?_ | refine aw_block ?_ | refine aw_reg hC (by kernel_rfl) ?_ | refine aw_regd hC Tryd.checked.mixed (by kernel_rfl) ?_ | refine chk_and (by kernel_rfl) ?_ | refine aw_skip ?_ | refine aw_if ?_ | refine And.intro (by first | omega | with_reducible assumption) ?_ | refine aw_exit ?_ | refine aw_ret ?_ | (simp (decide := true) (disch := omega) only [go_sem, ↓reduceIte, ↓put_at])))
      refine convBS_s (putZ n i) (by simp (decide := true) (disch := omega) only [go_sem, ↓reduceIte, ↓put_at]) (by simp (decide := true) (disch := omega) only [go_sem, ↓reduceIte, ↓put_at]) (by simp (decide := true) (disch := omega) only [go_sem, ↓reduceIte, ↓put_at]) ?_
      (repeat (first | refine aw_seq ?_ | refine aw_block ?_ | refine aw_reg hC (by kernel_rfl) ?_ | refine aw_regd hC Tryd.checked.mixed (by kernel_rfl) ?_ | refine chk_and (by kernel_rfl) ?_ | refine aw_skip ?_ | refine aw_if ?_ | refine And.intro (by first | omega | with_reducible assumption) ?_ | refine aw_exit ?_ | refine aw_ret ?_ | (simp (decide := true) (disch := omega) only [go_sem, ↓reduceIte, ↓put_at])))
      (refine ret_s [] ?_; simp (decide := true) (disch := omega) only [go_sem, ↓reduceIte, ↓put_at])
      rw [e]
end Go.Proofs.YtojcjbaimdjhoaaDoor
