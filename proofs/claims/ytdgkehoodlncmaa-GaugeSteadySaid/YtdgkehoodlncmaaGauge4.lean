
/- Layer 15: the law of jitter, but for the fixed fact. -/
import Derived.Test.YtdgkehoodlncmaaGauge2
namespace Go.Proofs.Ytdgkehoodlncmaa
open Go.RowKit
set_option linter.unusedVariables false
set_option linter.unusedSimpArgs false

/-- A packet's jitter, within bounds. -/
theorem jNext_in {now n s tr : Int} {has : Bool} (h1 : 0 ≤ now ∧ now ≤ 1000) (h2 : 0 ≤ n ∧ n ≤ 65535) (h3 : 0 ≤ s ∧ s ≤ 200000) (h4 : 0 ≤ tr ∧ tr ≤ 65535) :
    jNext ⟨s, tr, has⟩ now (now + n) = ⟨if has = true then s + (farZ n tr - (s + 8) / 16) else s, n, true⟩ := by
  unfold jNext
  dsimp only
  have e1 : tickZ (now + n) = now + n := clipZ_in (by omega) (by omega)
  have e2 : tickZ now = now := clipZ_in (by omega) (by omega)
  rw [e1, e2, clipZ_in (n := s) (by omega) (by omega), clipZ_in (n := tr) (by omega) (by omega), show now + n - now = n by omega]
theorem jVal_in {s tr : Int} {has : Bool} (h3 : 0 ≤ s ∧ s ≤ 200000) : jVal ⟨s, tr, has⟩ = s / 16 := by unfold jVal; rw [clipZ_in (by dsimp only; omega) (by dsimp only; omega)]
/-- Rounds of packets that take as long. -/
theorem falls_ge (n s : Nat) : falls (n + 1) s = falls n (s - (s + 8) / 16) := rfl
set_option maxRecDepth 100000 in
set_option maxHeartbeats 8000000 in
theorem even_walk (ca : Spec Try.prog 35 [] [] (.ca (.val (vb true))) []) (l : List Int) (b : Int) (hl : l.length ≤ maxLen) : Spec Try.prog 8 [.ca (.val (.lst 1 (l.map fun z => [vi z]))), .ca (.val (vi b))] [] (.ca (.val (vb true))) [] := by
  obtain ⟨took, htk⟩ : ∃ t : Int, t = b % 65536 := ⟨_, rfl⟩
  have t0 : 0 ≤ took := by omega
  have t1 : took ≤ 65535 := by omega
  refine spec_of Try.func8 rfl Try.ntmps8 Try.results8 ⟨by decide, by simp⟩ fun C hC => ?_
  (repeat' ((fail_if_success (refine stop_reg 8 ?_)); (first | refine aw_seq ?_ | refine aw_block ?_ | refine aw_reg hC (by kernel_rfl) ?_ | refine aw_regd hC Try.checked.mixed (by kernel_rfl) ?_ | refine chk_and (by kernel_rfl) ?_ | refine aw_skip ?_ | refine aw_if ?_ | refine And.intro (by first | omega | with_reducible assumption) ?_ | refine aw_exit ?_ | refine aw_ret ?_ | (simp (decide := true) (disch := omega) only [go_sem, ↓reduceIte, ↓put_at]) | refine call_u Try.call35 (ca) [] (by simp (decide := true) (disch := omega) only [go_sem, ↓reduceIte, ↓put_at]; first | done | assumption | omega) ?_ | (refine ret_s [] ?_; simp (decide := true) (disch := omega) only [go_sem, ↓reduceIte, ↓put_at]))))
  rw [← htk]
  -- x: packets, scaled, transit, most, last, has
  refine meetB_s (α := {x : Nat × Int × Int × Bool // x.1 ≤ 40 ∧ 0 ≤ x.2.1 ∧ x.2.1 ≤ 70000 ∧ 0 ≤ x.2.2.1 ∧ x.2.2.1 ≤ 4095}) (fun x => [(.s 1, .av (.val (vi took))), (.s 4, .av (.val (vb false))), (.o (5, 0), .num 3), (.c (5, 0) 0, .av (.val (vi x.1.2.1))), (.c (5, 0) 1, .av (.val (vi x.1.2.2.1))), (.c (5, 0) 2, .av (.val (vb x.1.2.2.2))), (.s 5, .av (.ptr (5, 0) 0 0)), (.s 8, .av (.val (vi (7 * x.1.1))))]) ?_ (fun x => ?_)
  · refine loop_s (α := {x : Nat × Int × Int × Int × Int × Bool // x.1 ≤ l.length ∧ x.1 ≤ 40 ∧ 0 ≤ x.2.1 ∧ x.2.1 ≤ 16 * x.2.2.2.1 + 7 ∧ 0 ≤ x.2.2.2.1 ∧ x.2.2.2.1 ≤ 4095 ∧ 0 ≤ x.2.2.1 ∧ x.2.2.1 ≤ 4095 ∧ (if x.2.2.2.2.2 = true then x.2.2.2.2.1 = x.2.2.1 else x.2.2.2.2.1 = -1)}) (fun x => [(.s 0, .av (.val (.lst 1 (l.map fun z => [vi z])))), (.s 1, .av (.val (vi took))), (.s 4, .av (.val (vb false))), (.o (5, 0), .num 3), (.c (5, 0) 0, .av (.val (vi x.1.2.1))), (.c (5, 0) 1, .av (.val (vi x.1.2.2.1))), (.c (5, 0) 2, .av (.val (vb x.1.2.2.2.2.2))), (.s 5, .av (.ptr (5, 0) 0 0)), (.s 6, .av (.val (vi x.1.2.2.2.2.1))), (.s 7, .av (.val (vi x.1.2.2.2.1))), (.s 8, .av (.val (vi (7 * x.1.1)))), (.s 9, .av (.val (vi x.1.1)))]) (fun x => 40 - x.1.1) ⟨(0, 0, 0, 0, -1, false), by simp, by simp, by simp, by simp, by simp, by simp, by simp, by simp, by simp⟩ ?_ (fun x => ?_)
    · simp (decide := true) (disch := omega) only [go_sem, ↓reduceIte, ↓put_at]
    · obtain ⟨⟨i, s, tr, most, last, has⟩, h1, h2, h3, h4, h5, h6, h7, h8, h9⟩ := x
      dsimp only at h1 h2 h3 h4 h5 h6 h7 h8 h9 ⊢
      by_cases hlt : i < l.length
      · by_cases hlt2 : i < 40
        · have hge : (l.map fun z => [vi z]).getD i [] = [vi l[i]] := by simp [hlt]
          obtain ⟨n, hn⟩ : ∃ n : Int, n = l[i] % 4096 := ⟨_, rfl⟩
          have n0 : 0 ≤ n := by omega
          have n1 : n ≤ 4095 := by omega
          have ej := jNext_in (now := 7 * (i : Int) + 7) (n := n) (s := s) (tr := tr) (has := has) (by omega) (by omega) (by omega) (by omega)
          have k1 := g_jnext ⟨s, tr, has⟩ (7 * (i : Int) + 7) (7 * (i : Int) + 7 + n)
          rw [ej] at k1
          have e7 : 7 * (((i + 1 : Nat) : Int)) = 7 * (i : Int) + 7 := by omega
          cases has with
          | false =>
            rw [if_neg (by simp)] at h9 k1
            subst h9
            have k2 := g_jval ⟨s, n, true⟩
            rw [jVal_in (by omega)] at k2
            (repeat' ((fail_if_success (first | refine stop_at 11 ?_ | refine stop_l 11 ?_)); (first | refine aw_seq ?_ | refine aw_block ?_ | refine aw_reg hC (by kernel_rfl) ?_ | refine aw_regd hC Try.checked.mixed (by kernel_rfl) ?_ | refine chk_and (by kernel_rfl) ?_ | refine aw_skip ?_ | refine aw_if ?_ | refine And.intro (by first | omega | with_reducible assumption) ?_ | refine aw_exit ?_ | refine aw_ret ?_ | (simp (decide := true) (disch := omega) only [go_sem, ↓reduceIte, ↓put_at]) | (refine ret_s [] ?_; simp (decide := true) (disch := omega) only [go_sem, ↓reduceIte, ↓put_at]))))
            rw [← hn]
            (repeat' ((first | refine aw_seq ?_ | refine aw_block ?_ | refine aw_reg hC (by kernel_rfl) ?_ | refine aw_regd hC Try.checked.mixed (by kernel_rfl) ?_ | refine chk_and (by kernel_rfl) ?_ | refine aw_skip ?_ | refine aw_if ?_ | refine And.intro (by first | omega | with_reducible assumption) ?_ | refine aw_exit ?_ | refine aw_ret ?_ | (simp (decide := true) (disch := omega) only [go_sem, ↓reduceIte, ↓put_at]) | refine call_u Try.call36 (k1) [] (by simp (decide := true) (disch := omega) only [go_sem, ↓reduceIte, ↓put_at]; first | done | assumption | omega) ?_ | refine call_u Try.call37 (k2) [] (by simp (decide := true) (disch := omega) only [go_sem, ↓reduceIte, ↓put_at]; first | done | assumption | omega) ?_ | (refine ret_s [] ?_; simp (decide := true) (disch := omega) only [go_sem, ↓reduceIte, ↓put_at]))))
            refine next_s (α := {x : Nat × Int × Int × Int × Int × Bool // x.1 ≤ l.length ∧ x.1 ≤ 40 ∧ 0 ≤ x.2.1 ∧ x.2.1 ≤ 16 * x.2.2.2.1 + 7 ∧ 0 ≤ x.2.2.2.1 ∧ x.2.2.2.1 ≤ 4095 ∧ 0 ≤ x.2.2.1 ∧ x.2.2.1 ≤ 4095 ∧ (if x.2.2.2.2.2 = true then x.2.2.2.2.1 = x.2.2.1 else x.2.2.2.2.1 = -1)}) ⟨(i + 1, s, n, most, n, true), hlt, hlt2, h3, h4, h5, h6, n0, n1, by simp⟩ ⟨?_, ?_⟩
            · (try dsimp only)
              rw [e7]
              simp (decide := true) (disch := omega) only [go_sem, ↓reduceIte, ↓put_at]
            · (try dsimp only)
              omega
          | true =>
            rw [if_pos rfl] at h9 k1
            subst h9
            have hf : farZ n last = max (n - last) (last - n) := rfl
            obtain ⟨d, hd⟩ : ∃ d : Int, d = max (n - last) (last - n) := ⟨_, rfl⟩
            rw [hf, ← hd] at k1
            obtain ⟨most', hmo⟩ : ∃ m : Int, m = max most d := ⟨_, rfl⟩
            have hev := next_even s d most' h3 (by omega) (by omega) (by omega)
            obtain ⟨s', hs'⟩ : ∃ s' : Int, s' = s + (d - (s + 8) / 16) := ⟨_, rfl⟩
            rw [← hs'] at k1 hev
            have k2 := g_jval ⟨s', n, true⟩
            rw [jVal_in (by omega)] at k2
            have hv : s' / 16 ≤ most' := by omega
            (repeat' ((fail_if_success (first | refine stop_at 11 ?_ | refine stop_l 11 ?_)); (first | refine aw_seq ?_ | refine aw_block ?_ | refine aw_reg hC (by kernel_rfl) ?_ | refine aw_regd hC Try.checked.mixed (by kernel_rfl) ?_ | refine chk_and (by kernel_rfl) ?_ | refine aw_skip ?_ | refine aw_if ?_ | refine And.intro (by first | omega | with_reducible assumption) ?_ | refine aw_exit ?_ | refine aw_ret ?_ | (simp (decide := true) (disch := omega) only [go_sem, ↓reduceIte, ↓put_at]) | (refine ret_s [] ?_; simp (decide := true) (disch := omega) only [go_sem, ↓reduceIte, ↓put_at]))))
            rw [← hn]
            (repeat' ((fail_if_success (first | refine stop_at 16 ?_ | refine stop_l 16 ?_)); (first | refine aw_seq ?_ | refine aw_block ?_ | refine aw_reg hC (by kernel_rfl) ?_ | refine aw_regd hC Try.checked.mixed (by kernel_rfl) ?_ | refine chk_and (by kernel_rfl) ?_ | refine aw_skip ?_ | refine aw_if ?_ | refine And.intro (by first | omega | with_reducible assumption) ?_ | refine aw_exit ?_ | refine aw_ret ?_ | (simp (decide := true) (disch := omega) only [go_sem, ↓reduceIte, ↓put_at]) | refine call_u Try.call36 (k1) [] (by simp (decide := true) (disch := omega) only [go_sem, ↓reduceIte, ↓put_at]; first | done | assumption | omega) ?_ | refine call_u Try.call37 (k2) [] (by simp (decide := true) (disch := omega) only [go_sem, ↓reduceIte, ↓put_at]; first | done | assumption | omega) ?_ | (refine ret_s [] ?_; simp (decide := true) (disch := omega) only [go_sem, ↓reduceIte, ↓put_at]))))
            rw [← hd, ← hmo]
            (repeat' ((first | refine aw_seq ?_ | refine aw_block ?_ | refine aw_reg hC (by kernel_rfl) ?_ | refine aw_regd hC Try.checked.mixed (by kernel_rfl) ?_ | refine chk_and (by kernel_rfl) ?_ | refine aw_skip ?_ | refine aw_if ?_ | refine And.intro (by first | omega | with_reducible assumption) ?_ | refine aw_exit ?_ | refine aw_ret ?_ | (simp (decide := true) (disch := omega) only [go_sem, ↓reduceIte, ↓put_at]) | refine call_u Try.call36 (k1) [] (by simp (decide := true) (disch := omega) only [go_sem, ↓reduceIte, ↓put_at]; first | done | assumption | omega) ?_ | refine call_u Try.call37 (k2) [] (by simp (decide := true) (disch := omega) only [go_sem, ↓reduceIte, ↓put_at]; first | done | assumption | omega) ?_ | (refine ret_s [] ?_; simp (decide := true) (disch := omega) only [go_sem, ↓reduceIte, ↓put_at]))))
            refine next_s (α := {x : Nat × Int × Int × Int × Int × Bool // x.1 ≤ l.length ∧ x.1 ≤ 40 ∧ 0 ≤ x.2.1 ∧ x.2.1 ≤ 16 * x.2.2.2.1 + 7 ∧ 0 ≤ x.2.2.2.1 ∧ x.2.2.2.1 ≤ 4095 ∧ 0 ≤ x.2.2.1 ∧ x.2.2.1 ≤ 4095 ∧ (if x.2.2.2.2.2 = true then x.2.2.2.2.1 = x.2.2.1 else x.2.2.2.2.1 = -1)}) ⟨(i + 1, s', n, most', n, true), hlt, hlt2, hev.1, hev.2, by dsimp only; omega, by dsimp only; omega, n0, n1, by simp⟩ ⟨?_, ?_⟩
            · (try dsimp only)
              rw [e7]
              simp (decide := true) (disch := omega) only [go_sem, ↓reduceIte, ↓put_at]
            · (try dsimp only)
              omega
        · (repeat' ((first | refine aw_seq ?_ | refine aw_block ?_ | refine aw_reg hC (by kernel_rfl) ?_ | refine aw_regd hC Try.checked.mixed (by kernel_rfl) ?_ | refine chk_and (by kernel_rfl) ?_ | refine aw_skip ?_ | refine aw_if ?_ | refine And.intro (by first | omega | with_reducible assumption) ?_ | refine aw_exit ?_ | refine aw_ret ?_ | (simp (decide := true) (disch := omega) only [go_sem, ↓reduceIte, ↓put_at]) | (refine ret_s [] ?_; simp (decide := true) (disch := omega) only [go_sem, ↓reduceIte, ↓put_at]))))
          refine at_meet ⟨(i, s, tr, has), h2, h3, by dsimp only; omega, h7, h8⟩ ?_
          simp (decide := true) (disch := omega) only [go_sem, ↓reduceIte, ↓put_at]
      · (repeat' ((first | refine aw_seq ?_ | refine aw_block ?_ | refine aw_reg hC (by kernel_rfl) ?_ | refine aw_regd hC Try.checked.mixed (by kernel_rfl) ?_ | refine chk_and (by kernel_rfl) ?_ | refine aw_skip ?_ | refine aw_if ?_ | refine And.intro (by first | omega | with_reducible assumption) ?_ | refine aw_exit ?_ | refine aw_ret ?_ | (simp (decide := true) (disch := omega) only [go_sem, ↓reduceIte, ↓put_at]) | (refine ret_s [] ?_; simp (decide := true) (disch := omega) only [go_sem, ↓reduceIte, ↓put_at]))))
        refine at_meet ⟨(i, s, tr, has), h2, h3, by dsimp only; omega, h7, h8⟩ ?_
        simp (decide := true) (disch := omega) only [go_sem, ↓reduceIte, ↓put_at]
  obtain ⟨⟨i, s, tr, has⟩, h1, h2, h3, h4, h5⟩ := x
  dsimp only at h1 h2 h3 h4 h5 ⊢
  have e1 := jNext_in (now := 7 * (i : Int)) (n := took) (s := s) (tr := tr) (has := has) (by omega) (by omega) (by omega) (by omega)
  obtain ⟨s1, hs1⟩ : ∃ s1 : Int, s1 = if has = true then s + (farZ took tr - (s + 8) / 16) else s := ⟨_, rfl⟩
  have b1 : 0 ≤ s1 ∧ s1 ≤ 140000 := by
    rw [hs1]; unfold farZ
    split <;> omega
  rw [← hs1] at e1
  have e2 := jNext_in (now := 7 * (i : Int)) (n := took) (s := s1) (tr := took) (has := true) (by omega) (by omega) (by omega) (by omega)
  rw [if_pos rfl, show farZ took took = 0 by unfold farZ; omega] at e2
  obtain ⟨a0, ha0⟩ : ∃ a : Nat, (a : Int) = s1 + (0 - (s1 + 8) / 16) := ⟨(s1 + (0 - (s1 + 8) / 16)).toNat, by omega⟩
  rw [← ha0] at e2
  have k1 := g_jnext ⟨s, tr, has⟩ (7 * (i : Int)) (7 * (i : Int) + took)
  have k2 := g_jnext ⟨s1, took, true⟩ (7 * (i : Int)) (7 * (i : Int) + took)
  rw [e1] at k1
  rw [e2] at k2
  have ba : a0 ≤ 200000 := by omega
  have hend := falls_end a0 ba
  clear e1 e2 hs1
  (repeat' ((fail_if_success (refine stop_reg 20 ?_)); (first | refine aw_seq ?_ | refine aw_block ?_ | refine aw_reg hC (by kernel_rfl) ?_ | refine aw_regd hC Try.checked.mixed (by kernel_rfl) ?_ | refine chk_and (by kernel_rfl) ?_ | refine aw_skip ?_ | refine aw_if ?_ | refine And.intro (by first | omega | with_reducible assumption) ?_ | refine aw_exit ?_ | refine aw_ret ?_ | (simp (decide := true) (disch := omega) only [go_sem, ↓reduceIte, ↓put_at]) | refine call_u Try.call36 (k1) [] (by simp (decide := true) (disch := omega) only [go_sem, ↓reduceIte, ↓put_at]; first | done | assumption | omega) ?_ | refine call_u Try.call36 (k2) [] (by simp (decide := true) (disch := omega) only [go_sem, ↓reduceIte, ↓put_at]; first | done | assumption | omega) ?_ | (refine ret_s [] ?_; simp (decide := true) (disch := omega) only [go_sem, ↓reduceIte, ↓put_at]))))
  refine loop_s (α := {x : Nat × Nat // x.1 ≤ 400 ∧ x.2 ≤ 200000 ∧ falls (400 - x.1) x.2 < 16}) (fun x => [(.s 1, .av (.val (vi took))), (.s 4, .av (.val (vb false))), (.o (5, 0), .num 3), (.c (5, 0) 0, .av (.val (vi x.1.2))), (.c (5, 0) 1, .av (.val (vi took))), (.c (5, 0) 2, .av (.val (vb true))), (.s 5, .av (.ptr (5, 0) 0 0)), (.s 8, .av (.val (vi (7 * i)))), (.s 66, .av (.val (vi x.1.1)))]) (fun x => 400 - x.1.1) ⟨(0, a0), by simp, ba, hend⟩ ?_ (fun x => ?_)
  · simp (decide := true) (disch := omega) only [go_sem, ↓reduceIte, ↓put_at]
  · obtain ⟨⟨k, a⟩, q1, q2, q3⟩ := x
    dsimp only at q1 q2 q3 ⊢
    by_cases hlt : k < 400
    · have e3 := jNext_in (now := 7 * (i : Int)) (n := took) (s := a) (tr := took) (has := true) (by omega) (by omega) (by omega) (by omega)
      rw [if_pos rfl, show farZ took took = 0 by unfold farZ; omega] at e3
      have ea : (a : Int) + (0 - ((a : Int) + 8) / 16) = ((a - (a + 8) / 16 : Nat) : Int) := by omega
      rw [ea] at e3
      obtain ⟨m, hm⟩ : ∃ m, 400 - k = m + 1 := ⟨400 - k - 1, by omega⟩
      rw [hm, falls_ge] at q3
      have hm2 : 400 - (k + 1) = m := by omega
      have hle : a - (a + 8) / 16 ≤ a := Nat.sub_le _ _
      generalize a - (a + 8) / 16 = a2 at *
      have k3 := g_jnext ⟨a, took, true⟩ (7 * (i : Int)) (7 * (i : Int) + took)
      rw [e3] at k3
      (repeat' ((first | refine aw_seq ?_ | refine aw_block ?_ | refine aw_reg hC (by kernel_rfl) ?_ | refine aw_regd hC Try.checked.mixed (by kernel_rfl) ?_ | refine chk_and (by kernel_rfl) ?_ | refine aw_skip ?_ | refine aw_if ?_ | refine And.intro (by first | omega | with_reducible assumption) ?_ | refine aw_exit ?_ | refine aw_ret ?_ | (simp (decide := true) (disch := omega) only [go_sem, ↓reduceIte, ↓put_at]) | refine call_u Try.call36 (k3) [] (by simp (decide := true) (disch := omega) only [go_sem, ↓reduceIte, ↓put_at]; first | done | assumption | omega) ?_ | (refine ret_s [] ?_; simp (decide := true) (disch := omega) only [go_sem, ↓reduceIte, ↓put_at]))))
      refine next_s (α := {x : Nat × Nat // x.1 ≤ 400 ∧ x.2 ≤ 200000 ∧ falls (400 - x.1) x.2 < 16}) ⟨(k + 1, a2), hlt, by dsimp only; omega, by dsimp only; rw [hm2]; exact q3⟩ ⟨?_, ?_⟩
      · simp (decide := true) (disch := omega) only [go_sem, ↓reduceIte, ↓put_at]
      · (try dsimp only)
        omega
    · obtain rfl : k = 400 := by omega
      have q4 : a < 16 := q3
      have k4 := g_jval ⟨a, took, true⟩
      rw [jVal_in (by omega), show (a : Int) / 16 = 0 by omega] at k4
      (repeat' ((first | refine aw_seq ?_ | refine aw_block ?_ | refine aw_reg hC (by kernel_rfl) ?_ | refine aw_regd hC Try.checked.mixed (by kernel_rfl) ?_ | refine chk_and (by kernel_rfl) ?_ | refine aw_skip ?_ | refine aw_if ?_ | refine And.intro (by first | omega | with_reducible assumption) ?_ | refine aw_exit ?_ | refine aw_ret ?_ | (simp (decide := true) (disch := omega) only [go_sem, ↓reduceIte, ↓put_at]) | refine call_u Try.call37 (k4) [] (by simp (decide := true) (disch := omega) only [go_sem, ↓reduceIte, ↓put_at]; first | done | assumption | omega) ?_ | (refine ret_s [] ?_; simp (decide := true) (disch := omega) only [go_sem, ↓reduceIte, ↓put_at]))))
end Go.Proofs.Ytdgkehoodlncmaa
