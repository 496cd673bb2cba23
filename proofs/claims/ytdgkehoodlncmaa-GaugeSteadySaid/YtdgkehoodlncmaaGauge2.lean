
/- Layer 15: a rate's next one; the three laws, but for the fixed fact; walked. -/
import Derived.Test.YtdgkehoodlncmaaGauge1
import Derived.Test.YtdgkehoodlncmaaRN
namespace Go.Proofs.Ytdgkehoodlncmaa
open Go.RowKit
set_option linter.unusedVariables false
set_option linter.unusedSimpArgs false

theorem i64_and20 (x : Int) : bits .and .i64 x 1048575 = x % 1048576 := i64_mask 20 (by decide) x
attribute [go_sem] i64_and20
set_option maxRecDepth 100000 in
theorem l_clip (n lo hi : Int) : Spec Try.prog 40 [.ca (.val (vi n)), .ca (.val (vi lo)), .ca (.val (vi hi))] [] (.ca (.val (vi (clipZ n lo hi)))) [] := by
  unfold clipZ
  refine spec_of Try.func40 rfl Try.ntmps40 Try.results40 ⟨by decide, by simp⟩ fun C hC => ?_
  (repeat' ((first | refine aw_seq ?_ | refine aw_block ?_ | refine aw_reg hC (by kernel_rfl) ?_ | refine aw_regd hC Try.checked.mixed (by kernel_rfl) ?_ | refine chk_and (by kernel_rfl) ?_ | refine aw_skip ?_ | refine aw_if ?_ | refine And.intro (by first | omega | with_reducible assumption) ?_ | refine aw_exit ?_ | refine aw_ret ?_ | (simp (decide := true) (disch := omega) only [go_sem, ↓reduceIte, ↓put_at]) | refine condK_eq (fun h => ?_) (fun h => ?_) | refine condK_dec (fun h => ?_) (fun h => ?_) | refine condK_if (fun h => ?_) (fun h => ?_) | (refine ret_s [] ?_; simp (decide := true) (disch := omega) only [go_sem, ↓reduceIte, ↓put_at]))))
set_option maxRecDepth 100000 in
set_option maxHeartbeats 4000000 in
theorem g_rnext (r : R15) (now bytes : Int) : Spec Try.prog 41 [.ca (.val (.agg (rL15 r))), .ca (.val (vi now)), .ca (.val (vi bytes))] [] (.ca (.val (.agg (rL15 (rNext r now bytes))))) [] := by
  have c1 := g_clip r.sc 0 17592186044416
  have c2 := g_clip r.bytes 0 17592186044416
  have c3 := g_tick r.since
  have c4 := g_tick now
  have c5 := g_clip bytes 0 1073741824
  have b1 := clipZ_ge r.sc 0 17592186044416
  have b2 := clipZ_le r.sc 0 17592186044416 (by decide)
  have b3 := clipZ_ge r.bytes 0 17592186044416
  have b4 := clipZ_le r.bytes 0 17592186044416 (by decide)
  have b5 := clipZ_ge bytes 0 1073741824
  have b6 := clipZ_le bytes 0 1073741824 (by decide)
  have b7 := clipZ_ge now 0 1099511627776
  have b8 := clipZ_le now 0 1099511627776 (by decide)
  have b9 := clipZ_ge r.since 0 1099511627776
  have b10 := clipZ_le r.since 0 1099511627776 (by decide)
  change 0 ≤ tickZ now at b7
  change tickZ now ≤ _ at b8
  change 0 ≤ tickZ r.since at b9
  change tickZ r.since ≤ _ at b10
  unfold rNext
  (try dsimp only)
  generalize clipZ r.sc 0 17592186044416 = S at *
  generalize clipZ r.bytes 0 17592186044416 = B at *
  generalize clipZ bytes 0 1073741824 = D at *
  generalize tickZ now = W at *
  generalize tickZ r.since = I at *
  obtain ⟨rs, ri, rb⟩ := r
  (try dsimp only at *)
  obtain ⟨N, hN⟩ : ∃ N : Nat, (max W I - I) / 64 = N := ⟨((max W I - I) / 64).toNat, by omega⟩
  rw [hN]
  by_cases hbig : (N : Int) > 64
  · rw [if_pos hbig]
    have hNb : (N : Int) * 64 ≤ 1099511627776 := by omega
    refine spec_of Try.func41 rfl Try.ntmps41 Try.results41 ⟨by decide, by simp⟩ fun C hC => ?_
    (repeat' ((fail_if_success (refine stop_reg 5 ?_)); (first | refine aw_seq ?_ | refine aw_block ?_ | refine aw_reg hC (by kernel_rfl) ?_ | refine aw_regd hC Try.checked.mixed (by kernel_rfl) ?_ | refine chk_and (by kernel_rfl) ?_ | refine aw_skip ?_ | refine aw_if ?_ | refine And.intro (by first | omega | with_reducible assumption) ?_ | refine aw_exit ?_ | refine aw_ret ?_ | (simp (decide := true) (disch := omega) only [go_sem, ↓reduceIte, ↓put_at]) | refine call_u Try.call92 (c1) [] (by simp (decide := true) (disch := omega) only [go_sem, ↓reduceIte, ↓put_at]; first | done | assumption | omega) ?_ | refine call_u Try.call92 (c2) [] (by simp (decide := true) (disch := omega) only [go_sem, ↓reduceIte, ↓put_at]; first | done | assumption | omega) ?_ | refine call_u Try.call92 (c5) [] (by simp (decide := true) (disch := omega) only [go_sem, ↓reduceIte, ↓put_at]; first | done | assumption | omega) ?_ | refine call_u Try.call91 (c3) [] (by simp (decide := true) (disch := omega) only [go_sem, ↓reduceIte, ↓put_at]; first | done | assumption | omega) ?_ | refine call_u Try.call91 (c4) [] (by simp (decide := true) (disch := omega) only [go_sem, ↓reduceIte, ↓put_at]; first | done | assumption | omega) ?_ | (refine ret_s [] ?_; simp (decide := true) (disch := omega) only [go_sem, ↓reduceIte, ↓put_at]))))
    have hW : (W - I) / 64 = N := by omega
    simp only [hW]
    (repeat' ((first | refine aw_seq ?_ | refine aw_block ?_ | refine aw_reg hC (by kernel_rfl) ?_ | refine aw_regd hC Try.checked.mixed (by kernel_rfl) ?_ | refine chk_and (by kernel_rfl) ?_ | refine aw_skip ?_ | refine aw_if ?_ | refine And.intro (by first | omega | with_reducible assumption) ?_ | refine aw_exit ?_ | refine aw_ret ?_ | (simp (decide := true) (disch := omega) only [go_sem, ↓reduceIte, ↓put_at]) | (refine ret_s [] ?_; simp (decide := true) (disch := omega) only [go_sem, ↓reduceIte, ↓put_at]))))
  · rw [if_neg hbig, Int.toNat_natCast]
    generalize hF : rdsNext N ⟨S, I, B + D⟩ = F
    refine spec_of Try.func41 rfl Try.ntmps41 Try.results41 ⟨by decide, by simp⟩ fun C hC => ?_
    (repeat' ((fail_if_success (refine stop_reg 5 ?_)); (first | refine aw_seq ?_ | refine aw_block ?_ | refine aw_reg hC (by kernel_rfl) ?_ | refine aw_regd hC Try.checked.mixed (by kernel_rfl) ?_ | refine chk_and (by kernel_rfl) ?_ | refine aw_skip ?_ | refine aw_if ?_ | refine And.intro (by first | omega | with_reducible assumption) ?_ | refine aw_exit ?_ | refine aw_ret ?_ | (simp (decide := true) (disch := omega) only [go_sem, ↓reduceIte, ↓put_at]) | refine call_u Try.call92 (c1) [] (by simp (decide := true) (disch := omega) only [go_sem, ↓reduceIte, ↓put_at]; first | done | assumption | omega) ?_ | refine call_u Try.call92 (c2) [] (by simp (decide := true) (disch := omega) only [go_sem, ↓reduceIte, ↓put_at]; first | done | assumption | omega) ?_ | refine call_u Try.call92 (c5) [] (by simp (decide := true) (disch := omega) only [go_sem, ↓reduceIte, ↓put_at]; first | done | assumption | omega) ?_ | refine call_u Try.call91 (c3) [] (by simp (decide := true) (disch := omega) only [go_sem, ↓reduceIte, ↓put_at]; first | done | assumption | omega) ?_ | refine call_u Try.call91 (c4) [] (by simp (decide := true) (disch := omega) only [go_sem, ↓reduceIte, ↓put_at]; first | done | assumption | omega) ?_ | (refine ret_s [] ?_; simp (decide := true) (disch := omega) only [go_sem, ↓reduceIte, ↓put_at]))))
    simp only [hN]
    (repeat' ((fail_if_success (refine stop_reg 8 ?_)); (first | refine aw_seq ?_ | refine aw_block ?_ | refine aw_reg hC (by kernel_rfl) ?_ | refine aw_regd hC Try.checked.mixed (by kernel_rfl) ?_ | refine chk_and (by kernel_rfl) ?_ | refine aw_skip ?_ | refine aw_if ?_ | refine And.intro (by first | omega | with_reducible assumption) ?_ | refine aw_exit ?_ | refine aw_ret ?_ | (simp (decide := true) (disch := omega) only [go_sem, ↓reduceIte, ↓put_at]) | (refine ret_s [] ?_; simp (decide := true) (disch := omega) only [go_sem, ↓reduceIte, ↓put_at]))))
    refine loop_s (α := {x : Nat × R15 // x.1 ≤ N ∧ rdsNext (N - x.1) x.2 = F ∧ (0 ≤ x.2.sc ∧ x.2.sc ≤ 35184372088832) ∧ (0 ≤ x.2.since ∧ x.2.since ≤ 1099511627776 + 64 * x.1) ∧ (0 ≤ x.2.bytes ∧ x.2.bytes ≤ 17593259786240) ∧ (x.2.bytes = 0 ∨ x.2.sc ≤ 17592186044416)}) (fun x => [(.o (3, 0), .num 3), (.c (3, 0) 0, .av (.val (vi x.1.2.sc))), (.c (3, 0) 1, .av (.val (vi x.1.2.since))), (.c (3, 0) 2, .av (.val (vi x.1.2.bytes))), (.s 3, .av (.ptr (3, 0) 0 0)), (.o (6, 0), .num 3), (.c (6, 0) 0, .av (.val (vi 0))), (.c (6, 0) 1, .av (.val (vi 0))), (.c (6, 0) 2, .av (.val (vi 0))), (.s 6, .av (.ptr (6, 0) 0 0)), (.s 44, .av (.val (vi N))), (.s 45, .av (.val (vi x.1.1)))]) (fun x => N - x.1.1) ⟨(0, ⟨S, I, B + D⟩), Nat.zero_le _, hF, by dsimp only; omega, by dsimp only; omega, by dsimp only; omega, by dsimp only; omega⟩ ?_ (fun x => ?_)
    · simp (decide := true) (disch := omega) only [go_sem, ↓reduceIte, ↓put_at]
    · obtain ⟨⟨j, R⟩, k1, k2, k3, k4, k5, k6⟩ := x
      dsimp only at k1 k2 k3 k4 k5 k6 ⊢
      by_cases hlt : j < N
      · have c6 := g_round R k3 (by omega) k5
        obtain ⟨m, hm⟩ : ∃ m, N - j = m + 1 := ⟨N - j - 1, by omega⟩
        have hm2 : N - (j + 1) = m := by omega
        rw [hm, rdsNext] at k2
        have q1 : 0 ≤ (rdNext R).sc ∧ (rdNext R).sc ≤ 35184372088832 := by unfold rdNext; dsimp only; omega
        have q2 : 0 ≤ (rdNext R).since ∧ (rdNext R).since ≤ 1099511627776 + 64 * ((j + 1 : Nat) : Int) := by unfold rdNext; dsimp only; omega
        have q3 : (rdNext R).bytes = 0 := rfl
        generalize rdNext R = R2 at *
        (repeat' ((first | refine aw_seq ?_ | refine aw_block ?_ | refine aw_reg hC (by kernel_rfl) ?_ | refine aw_regd hC Try.checked.mixed (by kernel_rfl) ?_ | refine chk_and (by kernel_rfl) ?_ | refine aw_skip ?_ | refine aw_if ?_ | refine And.intro (by first | omega | with_reducible assumption) ?_ | refine aw_exit ?_ | refine aw_ret ?_ | (simp (decide := true) (disch := omega) only [go_sem, ↓reduceIte, ↓put_at]) | refine call_u Try.call94 (c6) [] (by simp (decide := true) (disch := omega) only [go_sem, ↓reduceIte, ↓put_at]; first | done | assumption | omega) ?_ | (refine ret_s [] ?_; simp (decide := true) (disch := omega) only [go_sem, ↓reduceIte, ↓put_at]))))
        refine next_s ⟨(j + 1, R2), hlt, by dsimp only; rw [hm2]; exact k2, q1, q2, by dsimp only; omega, .inl q3⟩ ⟨?_, ?_⟩
        · simp (decide := true) (disch := omega) only [go_sem, ↓reduceIte, ↓put_at]
        · (try dsimp only)
          omega
      · obtain rfl : j = N := by omega
        rw [Nat.sub_self, rdsNext] at k2
        subst k2
        (repeat' ((first | refine aw_seq ?_ | refine aw_block ?_ | refine aw_reg hC (by kernel_rfl) ?_ | refine aw_regd hC Try.checked.mixed (by kernel_rfl) ?_ | refine chk_and (by kernel_rfl) ?_ | refine aw_skip ?_ | refine aw_if ?_ | refine And.intro (by first | omega | with_reducible assumption) ?_ | refine aw_exit ?_ | refine aw_ret ?_ | (simp (decide := true) (disch := omega) only [go_sem, ↓reduceIte, ↓put_at]) | (refine ret_s [] ?_; simp (decide := true) (disch := omega) only [go_sem, ↓reduceIte, ↓put_at]))))
end Go.Proofs.Ytdgkehoodlncmaa
