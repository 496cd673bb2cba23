
/- Layer 18: the fixed fact, walked. -/
import Derived.Test.YtdgkehoodlncmaaSh3
import Derived.Test.YtdgkehoodlncmaaShP
namespace Go.Proofs.Ytdgkehoodlncmaa
open Go.RowKit
set_option linter.unusedVariables false
set_option linter.unusedSimpArgs false

/-- The fixed rounds. -/
def awS : Nat → List Ld × List UInt8
  | 0 => ([⟨1, 2, 0⟩, ⟨2, 1, 0⟩], [])
  | n + 1 => ((carryF (awS n).1 (pickF (awS n).1 [1, 2]).1 10).1, (awS n).2 ++ [UInt8.ofNat (48 + (pickF (awS n).1 [1, 2]).1).toNat])
theorem aw18_p : ∀ n, n < 6 → 1 ≤ (pickF (awS n).1 [1, 2]).1 ∧ (pickF (awS n).1 [1, 2]).1 ≤ 2 := by decide
theorem aw18_end : (awS 6).2 = [49, 50, 49, 49, 50, 49] ∧ totF (awS 6).1 = 60 := by decide
theorem aw18_len (n : Nat) : (awS n).2.length = n := by
  induction n with
  | zero => rfl
  | succ n ih => simp [awS, ih]
theorem aw18_set : setF [] [⟨1, 2⟩, ⟨2, 1⟩] = ([⟨1, 2, 0⟩, ⟨2, 1, 0⟩], true) := by decide
theorem aw18_ok : ∀ n : Nat, ShOk ((n : Int) * 1073741824) (awS n).1
  | 0 => ⟨by decide, by decide, fun x hx => by simp [awS] at hx; rcases hx with rfl | rfl <;> decide⟩
  | n + 1 => by
    have := carryF_ok (aw18_ok n) (pickF (awS n).1 [1, 2]).1 10
    refine ShOk.mono this ?_
    omega
set_option maxRecDepth 100000 in
set_option maxHeartbeats 4000000 in
theorem awake18 : Spec Try.prog 19 [] [] (.ca (.val (vb true))) [] := by
  have c0 := s_new
  have c1 := s_set [] (by simp) [⟨1, 2⟩, ⟨2, 1⟩] (by simp)
  rw [aw18_set] at c1
  refine spec_of Try.func19 rfl Try.ntmps19 Try.results19 ⟨by decide, by simp⟩ fun C hC => ?_
  (repeat' ((fail_if_success (refine stop_reg 6 ?_)); (first | refine aw_seq ?_ | refine aw_block ?_ | refine aw_reg hC (by kernel_rfl) ?_ | refine aw_regd hC Try.checked.mixed (by kernel_rfl) ?_ | refine chk_and (by kernel_rfl) ?_ | refine aw_skip ?_ | refine aw_if ?_ | refine And.intro (by first | omega | with_reducible assumption) ?_ | refine aw_exit ?_ | refine aw_ret ?_ | (simp (decide := true) (disch := omega) only [go_sem, ↓reduceIte, ↓put_at]) | refine call_u Try.call20 (c0) [] (by simp (decide := true) (disch := omega) only [go_sem, ↓reduceIte, ↓put_at]; first | done | assumption | omega) ?_ | refine call_u Try.call21 (c1) [(5, 0)] (by simp (decide := true) (disch := omega) only [go_sem, ↓reduceIte, ↓put_at]; first | done | assumption | omega) ?_ | refine pnil_u (by first | exact .inl rfl | exact .inr rfl) (by simp (decide := true) (disch := omega) only [go_sem, ↓reduceIte, ↓put_at]; first | done | assumption | omega) ?_ | (refine ret_s [] ?_; simp (decide := true) (disch := omega) only [go_sem, ↓reduceIte, ↓put_at]))))
  refine loop_s (α := {n : Nat // n ≤ 6}) (fun n => [(.s 0, .av (.val (vb false))), (.r (5, 1), .tree (.rw 140 3 ((awS n.1).1.map ldEl))), (.o (5, 0), .num 1), (.c (5, 0) 0, .av (.ref (5, 1) 0)), (.s 1, .av (.ptr (5, 0) 0 0)), (.s 2, .av (.val (.sc (str (awS n.1).2)))), (.s 16, .av (.val (vi n.1)))]) (fun n => 6 - n.1) ⟨0, by omega⟩ ?_ (fun n => ?_)
  · simp (decide := true) (disch := omega) only [go_sem, ↓reduceIte, ↓put_at]
    rfl
  · obtain ⟨n, hn⟩ := n
    dsimp only at hn ⊢
    have hok := aw18_ok n
    have hln := aw18_len n
    by_cases hlt : n < 6
    · have hp := aw18_p n hlt
      have c2 := s_pick (awS n).1 hok (by omega) [1, 2] (by simp)
      have c3 := s_carry (awS n).1 (by have := hok.few; omega) (pickF (awS n).1 [1, 2]).1 10 (fun x hx => by have := hok.ok x hx; omega)
      have hnx : awS (n + 1) = ((carryF (awS n).1 (pickF (awS n).1 [1, 2]).1 10).1, (awS n).2 ++ [UInt8.ofNat (48 + (pickF (awS n).1 [1, 2]).1).toNat]) := rfl
      generalize carryF (awS n).1 (pickF (awS n).1 [1, 2]).1 10 = N at *
      generalize pickF (awS n).1 [1, 2] = Q at *
      obtain ⟨p, pk⟩ := Q
      dsimp only at hp c2 c3 hnx
      obtain ⟨hp1, hp2⟩ := hp
      have hu : ((UInt8.ofNat (48 + p).toNat).toNat : Int) = 48 + p := by simp; omega
      generalize UInt8.ofNat (48 + p).toNat = u at *
      generalize (awS n).1 = L at *
      generalize (awS n).2 = S at *
      (repeat' ((first | refine aw_seq ?_ | refine aw_block ?_ | refine aw_reg hC (by kernel_rfl) ?_ | refine aw_regd hC Try.checked.mixed (by kernel_rfl) ?_ | refine chk_and (by kernel_rfl) ?_ | refine aw_skip ?_ | refine aw_if ?_ | refine And.intro (by first | omega | with_reducible assumption) ?_ | refine aw_exit ?_ | refine aw_ret ?_ | (simp (decide := true) (disch := omega) only [go_sem, ↓reduceIte, ↓put_at]) | refine pcall_u Try.call22 (c2) (by simp (decide := true) (disch := omega) only [go_sem, ↓reduceIte, ↓put_at]; first | done | assumption | omega) ?_ | refine call_u Try.call23 (c3) [(5, 0)] (by simp (decide := true) (disch := omega) only [go_sem, ↓reduceIte, ↓put_at]; first | done | assumption | omega) ?_ | (refine ret_s [] ?_; simp (decide := true) (disch := omega) only [go_sem, ↓reduceIte, ↓put_at]))))
      refine convBS_s [u] (by simp only [List.map_cons, List.map_nil, byteEl, hu]; simp (decide := true) (disch := omega) only [go_sem, ↓reduceIte, ↓put_at]) (by simp (decide := true) (disch := omega) only [go_sem, ↓reduceIte, ↓put_at]) (by simp (decide := true) (disch := omega) only [go_sem, ↓reduceIte, ↓put_at]) ?_
      (repeat' ((first | refine aw_seq ?_ | refine aw_block ?_ | refine aw_reg hC (by kernel_rfl) ?_ | refine aw_regd hC Try.checked.mixed (by kernel_rfl) ?_ | refine chk_and (by kernel_rfl) ?_ | refine aw_skip ?_ | refine aw_if ?_ | refine And.intro (by first | omega | with_reducible assumption) ?_ | refine aw_exit ?_ | refine aw_ret ?_ | (simp (decide := true) (disch := omega) only [go_sem, ↓reduceIte, ↓put_at]) | (refine ret_s [] ?_; simp (decide := true) (disch := omega) only [go_sem, ↓reduceIte, ↓put_at]))))
      refine next_s (α := {n : Nat // n ≤ 6}) ⟨n + 1, hlt⟩ ⟨?_, ?_⟩
      · (try dsimp only)
        rw [hnx]
        simp (decide := true) (disch := omega) only [go_sem, ↓reduceIte, ↓put_at]
      · (try dsimp only)
        omega
    · obtain rfl : n = 6 := by omega
      have c4 := s_total (awS 6).1 hok.few (fun x hx => by have := hok.ok x hx; omega)
      rw [aw18_end.2] at c4
      simp only [aw18_end.1]
      (repeat' ((first | refine aw_seq ?_ | refine aw_block ?_ | refine aw_reg hC (by kernel_rfl) ?_ | refine aw_regd hC Try.checked.mixed (by kernel_rfl) ?_ | refine chk_and (by kernel_rfl) ?_ | refine aw_skip ?_ | refine aw_if ?_ | refine And.intro (by first | omega | with_reducible assumption) ?_ | refine aw_exit ?_ | refine aw_ret ?_ | (simp (decide := true) (disch := omega) only [go_sem, ↓reduceIte, ↓put_at]) | refine pcall_u Try.call24 (c4) (by simp (decide := true) (disch := omega) only [go_sem, ↓reduceIte, ↓put_at]; first | done | assumption | omega) ?_ | (refine ret_s [] ?_; simp (decide := true) (disch := omega) only [go_sem, ↓reduceIte, ↓put_at]))))
end Go.Proofs.Ytdgkehoodlncmaa
