
/- Layer 15: the laws of round trips and rates, but for the fixed fact. -/
import Derived.Test.YtdgkehoodlncmaaGauge2
namespace Go.Proofs.Ytdgkehoodlncmaa
open Go.RowKit
set_option linter.unusedVariables false
set_option linter.unusedSimpArgs false

theorem tr0 (s : Int) (h0 : 0 ≤ s) (h1 : s ≤ 1048575) : trNext ⟨0, 0, false⟩ s = ⟨8 * s, 2 * s, true⟩ := by
  unfold trNext
  rw [if_neg (by simp)]
  rw [clipZ_in (n := s) (by omega) (by omega)]
set_option maxRecDepth 100000 in
set_option maxHeartbeats 4000000 in
theorem steady_walk (ca : Spec Try.prog 35 [] [] (.ca (.val (vb true))) []) (a b : Int) : Spec Try.prog 9 [.ca (.val (vi a)), .ca (.val (vi b))] [] (.ca (.val (vb true))) [] := by
  obtain ⟨s, hs⟩ : ∃ s : Int, s = a % 1048576 := ⟨_, rfl⟩
  obtain ⟨n, hn⟩ : ∃ n : Nat, (n : Int) = b % 64 := ⟨(b % 64).toNat, by omega⟩
  have s0 : 0 ≤ s := by omega
  have s1 : s ≤ 1048575 := by omega
  have c0 := g_tnext ⟨0, 0, false⟩ s
  rw [tr0 s s0 s1] at c0
  refine spec_of Try.func9 rfl Try.ntmps9 Try.results9 ⟨by decide, by simp⟩ fun C hC => ?_
  (repeat' ((fail_if_success (refine stop_reg 4 ?_)); (first | refine aw_seq ?_ | refine aw_block ?_ | refine aw_reg hC (by kernel_rfl) ?_ | refine aw_regd hC Try.checked.mixed (by kernel_rfl) ?_ | refine chk_and (by kernel_rfl) ?_ | refine aw_skip ?_ | refine aw_if ?_ | refine And.intro (by first | omega | with_reducible assumption) ?_ | refine aw_exit ?_ | refine aw_ret ?_ | (simp (decide := true) (disch := omega) only [go_sem, ↓reduceIte, ↓put_at]) | refine call_u Try.call35 (ca) [] (by simp (decide := true) (disch := omega) only [go_sem, ↓reduceIte, ↓put_at]; first | done | assumption | omega) ?_ | (refine ret_s [] ?_; simp (decide := true) (disch := omega) only [go_sem, ↓reduceIte, ↓put_at]))))
  rw [← hs, ← hn]
  (repeat' ((fail_if_success (refine stop_reg 6 ?_)); (first | refine aw_seq ?_ | refine aw_block ?_ | refine aw_reg hC (by kernel_rfl) ?_ | refine aw_regd hC Try.checked.mixed (by kernel_rfl) ?_ | refine chk_and (by kernel_rfl) ?_ | refine aw_skip ?_ | refine aw_if ?_ | refine And.intro (by first | omega | with_reducible assumption) ?_ | refine aw_exit ?_ | refine aw_ret ?_ | (simp (decide := true) (disch := omega) only [go_sem, ↓reduceIte, ↓put_at]) | refine call_u Try.call38 (c0) [] (by simp (decide := true) (disch := omega) only [go_sem, ↓reduceIte, ↓put_at]; first | done | assumption | omega) ?_ | (refine ret_s [] ?_; simp (decide := true) (disch := omega) only [go_sem, ↓reduceIte, ↓put_at]))))
  refine loop_s (α := {x : Nat × Int // x.1 ≤ n ∧ 0 ≤ x.2 ∧ x.2 ≤ 2097152}) (fun x => [(.s 0, .av (.val (vi s))), (.s 4, .av (.val (vb false))), (.o (5, 0), .num 3), (.c (5, 0) 0, .av (.val (vi (8 * s)))), (.c (5, 0) 1, .av (.val (vi x.1.2))), (.c (5, 0) 2, .av (.val (vb true))), (.s 5, .av (.ptr (5, 0) 0 0)), (.s 15, .av (.val (vi n))), (.s 16, .av (.val (vi x.1.1)))]) (fun x => n - x.1.1) ⟨(0, 2 * s), Nat.zero_le _, by dsimp only; omega, by dsimp only; omega⟩ ?_ (fun x => ?_)
  · simp (decide := true) (disch := omega) only [go_sem, ↓reduceIte, ↓put_at]
  · obtain ⟨⟨i, q⟩, h1, h2, h3⟩ := x
    dsimp only at h1 h2 h3 ⊢
    by_cases hlt : i < n
    · obtain ⟨q', e1, e2, e3⟩ := trNext_ok s q s0 s1 h2 h3
      have c1 := g_tnext ⟨8 * s, q, true⟩ s
      rw [e1] at c1
      have c2 := g_tout ⟨8 * s, q', true⟩
      have e4 := trOut_ok s q' s0 s1 e2 e3
      generalize trOut ⟨8 * s, q', true⟩ = o at *
      (repeat' ((first | refine aw_seq ?_ | refine aw_block ?_ | refine aw_reg hC (by kernel_rfl) ?_ | refine aw_regd hC Try.checked.mixed (by kernel_rfl) ?_ | refine chk_and (by kernel_rfl) ?_ | refine aw_skip ?_ | refine aw_if ?_ | refine And.intro (by first | omega | with_reducible assumption) ?_ | refine aw_exit ?_ | refine aw_ret ?_ | (simp (decide := true) (disch := omega) only [go_sem, ↓reduceIte, ↓put_at]) | refine call_u Try.call38 (c1) [] (by simp (decide := true) (disch := omega) only [go_sem, ↓reduceIte, ↓put_at]; first | done | assumption | omega) ?_ | refine call_u Try.call39 (c2) [] (by simp (decide := true) (disch := omega) only [go_sem, ↓reduceIte, ↓put_at]; first | done | assumption | omega) ?_ | (refine ret_s [] ?_; simp (decide := true) (disch := omega) only [go_sem, ↓reduceIte, ↓put_at]))))
      refine next_s (α := {x : Nat × Int // x.1 ≤ n ∧ 0 ≤ x.2 ∧ x.2 ≤ 2097152}) ⟨(i + 1, q'), hlt, e2, e3⟩ ⟨?_, ?_⟩
      · simp (decide := true) (disch := omega) only [go_sem, ↓reduceIte, ↓put_at]
      · (try dsimp only)
        omega
    · (repeat' ((first | refine aw_seq ?_ | refine aw_block ?_ | refine aw_reg hC (by kernel_rfl) ?_ | refine aw_regd hC Try.checked.mixed (by kernel_rfl) ?_ | refine chk_and (by kernel_rfl) ?_ | refine aw_skip ?_ | refine aw_if ?_ | refine And.intro (by first | omega | with_reducible assumption) ?_ | refine aw_exit ?_ | refine aw_ret ?_ | (simp (decide := true) (disch := omega) only [go_sem, ↓reduceIte, ↓put_at]) | (refine ret_s [] ?_; simp (decide := true) (disch := omega) only [go_sem, ↓reduceIte, ↓put_at]))))
set_option maxRecDepth 100000 in
set_option maxHeartbeats 4000000 in
theorem falls_walk (ca : Spec Try.prog 35 [] [] (.ca (.val (vb true))) []) (r : R15) (l : List Int) (hl : l.length ≤ maxLen) : Spec Try.prog 10 [.ca (.val (.agg (rL15 r))), .ca (.val (.lst 1 (l.map fun z => [vi z])))] [] (.ca (.val (vb true))) [] := by
  have c1 := l_clip r.sc 0 1073741824
  have c2 := l_clip r.since 0 1073741824
  have b1 := clipZ_ge r.sc 0 1073741824
  have b2 := clipZ_le r.sc 0 1073741824 (by decide)
  have b3 := clipZ_ge r.since 0 1073741824
  have b4 := clipZ_le r.since 0 1073741824 (by decide)
  generalize clipZ r.sc 0 1073741824 = c0 at *
  generalize clipZ r.since 0 1073741824 = s0 at *
  obtain ⟨rs, ri, rb⟩ := r
  (try dsimp only at *)
  refine spec_of Try.func10 rfl Try.ntmps10 Try.results10 ⟨by decide, by simp⟩ fun C hC => ?_
  (repeat' ((fail_if_success (refine stop_reg 6 ?_)); (first | refine aw_seq ?_ | refine aw_block ?_ | refine aw_reg hC (by kernel_rfl) ?_ | refine aw_regd hC Try.checked.mixed (by kernel_rfl) ?_ | refine chk_and (by kernel_rfl) ?_ | refine aw_skip ?_ | refine aw_if ?_ | refine And.intro (by first | omega | with_reducible assumption) ?_ | refine aw_exit ?_ | refine aw_ret ?_ | (simp (decide := true) (disch := omega) only [go_sem, ↓reduceIte, ↓put_at]) | refine call_u Try.call35 (ca) [] (by simp (decide := true) (disch := omega) only [go_sem, ↓reduceIte, ↓put_at]; first | done | assumption | omega) ?_ | refine call_u Try.call40 (c1) [] (by simp (decide := true) (disch := omega) only [go_sem, ↓reduceIte, ↓put_at]; first | done | assumption | omega) ?_ | refine call_u Try.call40 (c2) [] (by simp (decide := true) (disch := omega) only [go_sem, ↓reduceIte, ↓put_at]; first | done | assumption | omega) ?_ | (refine ret_s [] ?_; simp (decide := true) (disch := omega) only [go_sem, ↓reduceIte, ↓put_at]))))
  refine loop_s (α := {x : Nat × Int × Int × Int // x.1 ≤ l.length ∧ x.1 ≤ 60 ∧ 0 ≤ x.2.1 ∧ x.2.1 ≤ 1073741824 ∧ 0 ≤ x.2.2.1 ∧ x.2.2.1 ≤ x.2.2.2 ∧ x.2.2.2 ≤ 1073741824 + 65535 * x.1}) (fun x => [(.s 1, .av (.val (.lst 1 (l.map fun z => [vi z])))), (.s 4, .av (.val (vb false))), (.o (5, 0), .num 3), (.c (5, 0) 0, .av (.val (vi x.1.2.1))), (.c (5, 0) 1, .av (.val (vi x.1.2.2.1))), (.c (5, 0) 2, .av (.val (vi 0))), (.s 5, .av (.ptr (5, 0) 0 0)), (.s 6, .av (.val (vi x.1.2.2.2))), (.s 7, .av (.val (vi x.1.1)))]) (fun x => 60 - x.1.1) ⟨(0, c0, s0, s0), by dsimp only; omega, by dsimp only; omega, b1, b2, b3, by dsimp only; omega, by dsimp only; omega⟩ ?_ (fun x => ?_)
  · simp (decide := true) (disch := omega) only [go_sem, ↓reduceIte, ↓put_at]
  · obtain ⟨⟨i, c, s, now⟩, h1, h2, h3, h4, h5, h6, h7⟩ := x
    dsimp only at h1 h2 h3 h4 h5 h6 h7 ⊢
    by_cases hlt : i < l.length ∧ i < 60
    · obtain ⟨hlt, hlt2⟩ := hlt
      have hge : (l.map fun z => [vi z]).getD i [] = [vi l[i]] := by simp [hlt]
      obtain ⟨m, hm⟩ : ∃ m : Int, m = now + l[i] % 65536 := ⟨_, rfl⟩
      obtain ⟨c', s', e1, e2, e3, e4, e5, _⟩ := rNext_falls c s m h3 h4 h5 (by omega) (by omega)
      have k1 := g_rnext ⟨c, s, 0⟩ m 0
      rw [e1] at k1
      have k2 := g_rval ⟨c, s, 0⟩
      have k3 := g_rval ⟨c', s', 0⟩
      have e6 := rVal_mono ⟨c', s', 0⟩ ⟨c, s, 0⟩ e2 e3
      generalize rVal ⟨c, s, 0⟩ = v1 at *
      generalize rVal ⟨c', s', 0⟩ = v2 at *
      have hm3 : m ≤ 1073741824 + 65535 * ((i + 1 : Nat) : Int) := by omega
      (repeat' ((fail_if_success (first | refine stop_at 9 ?_ | refine stop_l 9 ?_)); (first | refine aw_seq ?_ | refine aw_block ?_ | refine aw_reg hC (by kernel_rfl) ?_ | refine aw_regd hC Try.checked.mixed (by kernel_rfl) ?_ | refine chk_and (by kernel_rfl) ?_ | refine aw_skip ?_ | refine aw_if ?_ | refine And.intro (by first | omega | with_reducible assumption) ?_ | refine aw_exit ?_ | refine aw_ret ?_ | (simp (decide := true) (disch := omega) only [go_sem, ↓reduceIte, ↓put_at]) | (refine ret_s [] ?_; simp (decide := true) (disch := omega) only [go_sem, ↓reduceIte, ↓put_at]))))
      rw [← hm]
      (repeat' ((first | refine aw_seq ?_ | refine aw_block ?_ | refine aw_reg hC (by kernel_rfl) ?_ | refine aw_regd hC Try.checked.mixed (by kernel_rfl) ?_ | refine chk_and (by kernel_rfl) ?_ | refine aw_skip ?_ | refine aw_if ?_ | refine And.intro (by first | omega | with_reducible assumption) ?_ | refine aw_exit ?_ | refine aw_ret ?_ | (simp (decide := true) (disch := omega) only [go_sem, ↓reduceIte, ↓put_at]) | refine call_u Try.call41 (k1) [] (by simp (decide := true) (disch := omega) only [go_sem, ↓reduceIte, ↓put_at]; first | done | assumption | omega) ?_ | refine call_u Try.call42 (k3) [] (by simp (decide := true) (disch := omega) only [go_sem, ↓reduceIte, ↓put_at]; first | done | assumption | omega) ?_ | refine call_u Try.call42 (k2) [] (by simp (decide := true) (disch := omega) only [go_sem, ↓reduceIte, ↓put_at]; first | done | assumption | omega) ?_ | (refine ret_s [] ?_; simp (decide := true) (disch := omega) only [go_sem, ↓reduceIte, ↓put_at]))))
      refine next_s ⟨(i + 1, c', s', m), hlt, hlt2, e2, by dsimp only; omega, by dsimp only; omega, e5, hm3⟩ ⟨?_, ?_⟩
      · simp (decide := true) (disch := omega) only [go_sem, ↓reduceIte, ↓put_at]
      · (try dsimp only)
        omega
    · obtain ⟨c', s', e1, e2, e3, e4, e5, e6⟩ := rNext_falls c s (now + 1048576) h3 h4 h5 (by omega) (by omega)
      obtain rfl := e6 (by omega)
      have k1 := g_rnext ⟨c, s, 0⟩ (now + 1048576) 0
      rw [e1] at k1
      have k3 := g_rval ⟨0, s', 0⟩
      rw [show rVal ⟨0, s', 0⟩ = 0 from rfl] at k3
      by_cases h15 : i < l.length
      · have h16 : ¬ i < 60 := fun h => hlt ⟨h15, h⟩
        (repeat' ((first | refine aw_seq ?_ | refine aw_block ?_ | refine aw_reg hC (by kernel_rfl) ?_ | refine aw_regd hC Try.checked.mixed (by kernel_rfl) ?_ | refine chk_and (by kernel_rfl) ?_ | refine aw_skip ?_ | refine aw_if ?_ | refine And.intro (by first | omega | with_reducible assumption) ?_ | refine aw_exit ?_ | refine aw_ret ?_ | (simp (decide := true) (disch := omega) only [go_sem, ↓reduceIte, ↓put_at]) | refine call_u Try.call41 (k1) [] (by simp (decide := true) (disch := omega) only [go_sem, ↓reduceIte, ↓put_at]; first | done | assumption | omega) ?_ | refine call_u Try.call42 (k3) [] (by simp (decide := true) (disch := omega) only [go_sem, ↓reduceIte, ↓put_at]; first | done | assumption | omega) ?_ | (refine ret_s [] ?_; simp (decide := true) (disch := omega) only [go_sem, ↓reduceIte, ↓put_at]))))
      · (repeat' ((first | refine aw_seq ?_ | refine aw_block ?_ | refine aw_reg hC (by kernel_rfl) ?_ | refine aw_regd hC Try.checked.mixed (by kernel_rfl) ?_ | refine chk_and (by kernel_rfl) ?_ | refine aw_skip ?_ | refine aw_if ?_ | refine And.intro (by first | omega | with_reducible assumption) ?_ | refine aw_exit ?_ | refine aw_ret ?_ | (simp (decide := true) (disch := omega) only [go_sem, ↓reduceIte, ↓put_at]) | refine call_u Try.call41 (k1) [] (by simp (decide := true) (disch := omega) only [go_sem, ↓reduceIte, ↓put_at]; first | done | assumption | omega) ?_ | refine call_u Try.call42 (k3) [] (by simp (decide := true) (disch := omega) only [go_sem, ↓reduceIte, ↓put_at]; first | done | assumption | omega) ?_ | (refine ret_s [] ?_; simp (decide := true) (disch := omega) only [go_sem, ↓reduceIte, ↓put_at]))))
end Go.Proofs.Ytdgkehoodlncmaa
