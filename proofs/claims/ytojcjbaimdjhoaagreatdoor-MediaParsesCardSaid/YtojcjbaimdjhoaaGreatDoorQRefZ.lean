
/- Put of any number. -/
import Derived.Test.YtojcjbaimdjhoaaGreatDoorQRef
namespace Go.Proofs.YtojcjbaimdjhoaaGreatDoor
open Go.RowKit
set_option linter.unusedVariables false
set_option linter.unusedSimpArgs false

set_option maxRecDepth 100000 in
set_option maxHeartbeats 1000000 in
theorem q_putz (n : Int) (k : Nat) (hn : -9223372036854775808 ≤ n ∧ n ≤ 9223372036854775807) (hk : k ≤ 8) : Spec Tryz.prog 63 [.ca (.val (vi n)), .ca (.val (vi k))] [] (.ca (.val (vs (putZ n k)))) [] := by
  by_cases hp : 0 ≤ n
  · exact q_put n k ⟨hp, hn.2⟩ hk
  refine spec_of Tryz.func63 rfl Tryz.ntmps63 Tryz.results63 ⟨by decide, by simp⟩ fun C hC => ?_
  (repeat (first | refine aw_seq ?_ | refine aw_block ?_ | refine aw_reg hC (by kernel_rfl) ?_ | refine aw_regd hC Tryz.checked.mixed (by kernel_rfl) ?_ | refine chk_and (by kernel_rfl) ?_ | refine aw_skip ?_ | refine aw_if ?_ | refine And.intro (by first | omega | with_reducible assumption) ?_ | refine aw_exit ?_ | refine aw_ret ?_ | (simp (decide := true) (disch := omega) only [go_sem, ↓reduceIte, ↓put_at])))
  refine loop_s (α := {x : Nat × Int // x.1 ≤ k ∧ x.2 = n / 256 ^ x.1 ∧ x.2 < 0 ∧ n ≤ x.2}) (fun x => [(.s 0, .av (.val (vi x.1.2))), (.s 1, .av (.val (vi k))), (.s 5, .av (.val (.lst 1 ((putZ n x.1.1).map byteEl)))), (.s 6, .av (.val (vi x.1.1)))]) (fun x => k - x.1.1) ⟨(0, n), Nat.zero_le _, by simp, by dsimp only; omega, Int.le_refl _⟩ ?_ (fun x => ?_)
  · simp only [putZ]
    simp (decide := true) (disch := omega) only [go_sem, ↓reduceIte, ↓put_at]
  · obtain ⟨⟨i, q⟩, hi, hq, h0, h1⟩ := x
    dsimp only at hi hq h0 h1 ⊢
    have hz := putZ_length n i
    have hpw := pow_pos' i
    have ht : q.tmod 256 = -((-q) % 256) := by
      have := Int.neg_tmod (-q) 256
      rw [Int.neg_neg] at this
      rw [this, Int.tmod_eq_emod_of_nonneg (by omega)]
    obtain ⟨d, hdd⟩ : ∃ d, d = (q - q.tmod 256) / 256 := ⟨_, rfl⟩
    have hmul : q - q.tmod 256 = 256 * d := by omega
    have htd : (q - q.tmod 256).tdiv 256 = d := by rw [hmul]; exact Int.mul_tdiv_cancel_left d (by decide)
    obtain ⟨r, hr⟩ : ∃ r, r = q.tmod 256 := ⟨_, rfl⟩
    rw [← hr] at hdd ht
    have hr1 : -256 < r ∧ r ≤ 0 := by omega
    have hqd : q = 256 * d + r := by omega
    by_cases hlt : i < k
    · by_cases hr0 : r < 0
      · have hrr : q.tmod 256 < 0 := by omega
        (repeat (first | refine aw_seq ?_ | refine aw_block ?_ | refine aw_reg hC (by kernel_rfl) ?_ | refine aw_regd hC Tryz.checked.mixed (by kernel_rfl) ?_ | refine chk_and (by kernel_rfl) ?_ | refine aw_skip ?_ | refine aw_if ?_ | refine And.intro (by first | omega | with_reducible assumption) ?_ | refine aw_exit ?_ | refine aw_ret ?_ | (simp (decide := true) (disch := omega) only [go_sem, ↓reduceIte, ↓put_at])))
        refine next_s ⟨(i + 1, q / 256), hlt, by dsimp only; rw [hq, Int.pow_succ, Int.ediv_ediv_of_nonneg (by omega)], by dsimp only; omega, by dsimp only; omega⟩ ⟨?_, by dsimp only; omega⟩
        simp (decide := true) (disch := omega) only [go_sem, ↓reduceIte, ↓put_at]
        have e := byte_of q
        rw [IntKind.wrap_u8] at e
        have e2 : q % 256 = q.tmod 256 + 256 := by omega
        rw [putZ, List.map_cons, ← hq, ← e, e2]
        refine ⟨by omega, rfl⟩
      · have hrr : ¬ q.tmod 256 < 0 := by omega
        (repeat (first | refine aw_seq ?_ | refine aw_block ?_ | refine aw_reg hC (by kernel_rfl) ?_ | refine aw_regd hC Tryz.checked.mixed (by kernel_rfl) ?_ | refine chk_and (by kernel_rfl) ?_ | refine aw_skip ?_ | refine aw_if ?_ | refine And.intro (by first | omega | with_reducible assumption) ?_ | refine aw_exit ?_ | refine aw_ret ?_ | (simp (decide := true) (disch := omega) only [go_sem, ↓reduceIte, ↓put_at])))
        refine next_s ⟨(i + 1, q / 256), hlt, by dsimp only; rw [hq, Int.pow_succ, Int.ediv_ediv_of_nonneg (by omega)], by dsimp only; omega, by dsimp only; omega⟩ ⟨?_, by dsimp only; omega⟩
        simp (decide := true) (disch := omega) only [go_sem, ↓reduceIte, ↓put_at]
        have e := byte_of q
        rw [IntKind.wrap_u8] at e
        have e2 : q % 256 = q.tmod 256 := by omega
        rw [putZ, List.map_cons, ← hq, ← e, e2]
        refine ⟨by omega, rfl⟩
    · have e : i = k := by omega
      (repeat (first | refine aw_seq ?_ | refine aw_block ?_ | refine aw_reg hC (by kernel_rfl) ?_ | refine aw_regd hC Tryz.checked.mixed (by kernel_rfl) ?_ | refine chk_and (by kernel_rfl) ?_ | refine aw_skip ?_ | refine aw_if ?_ | refine And.intro (by first | omega | with_reducible assumption) ?_ | refine aw_exit ?_ | refine aw_ret ?_ | (simp (decide := true) (disch := omega) only [go_sem, ↓reduceIte, ↓put_at])))
      refine convBS_s (putZ n i) (by simp (decide := true) (disch := omega) only [go_sem, ↓reduceIte, ↓put_at]) (by simp (decide := true) (disch := omega) only [go_sem, ↓reduceIte, ↓put_at]) (by simp (decide := true) (disch := omega) only [go_sem, ↓reduceIte, ↓put_at]) ?_
      (repeat (first | refine aw_seq ?_ | refine aw_block ?_ | refine aw_reg hC (by kernel_rfl) ?_ | refine aw_regd hC Tryz.checked.mixed (by kernel_rfl) ?_ | refine chk_and (by kernel_rfl) ?_ | refine aw_skip ?_ | refine aw_if ?_ | refine And.intro (by first | omega | with_reducible assumption) ?_ | refine aw_exit ?_ | refine aw_ret ?_ | (simp (decide := true) (disch := omega) only [go_sem, ↓reduceIte, ↓put_at])))
      (refine ret_s [] ?_; simp (decide := true) (disch := omega) only [go_sem, ↓reduceIte, ↓put_at])
      rw [e]
end Go.Proofs.YtojcjbaimdjhoaaGreatDoor
