
/- Package slices at the loads of package share: looked at through functions. -/
import Derived.Test.YtdgkehoodlncmaaRM
namespace Go.Proofs.Ytdgkehoodlncmaa
open Go.RowKit
set_option linter.unusedVariables false
set_option linter.unusedSimpArgs false

def cmpZ (a b : Int) : Int := if a < b then -1 else if b < a then 1 else 0
set_option maxRecDepth 100000 in
theorem cmp_nan (a : Int) : Spec Try.prog 141 [.ca (.val (vi a))] [] (.ca (.val (vb false))) [] := by
  refine spec_of Try.func141 rfl Try.ntmps141 Try.results141 ⟨by decide, by simp⟩ fun C hC => ?_
  (repeat' ((first | refine aw_seq ?_ | refine aw_block ?_ | refine aw_reg hC (by kernel_rfl) ?_ | refine aw_regd hC Try.checked.mixed (by kernel_rfl) ?_ | refine chk_and (by kernel_rfl) ?_ | refine aw_skip ?_ | refine aw_if ?_ | refine And.intro (by first | omega | with_reducible assumption) ?_ | refine aw_exit ?_ | refine aw_ret ?_ | (simp (decide := true) (disch := omega) only [go_sem, ↓reduceIte, ↓put_at]) | refine condK_eq (fun h => ?_) (fun h => ?_) | refine condK_dec (fun h => ?_) (fun h => ?_) | refine condK_if (fun h => ?_) (fun h => ?_) | (refine ret_s [] ?_; simp (decide := true) (disch := omega) only [go_sem, ↓reduceIte, ↓put_at]))))
set_option maxRecDepth 100000 in
theorem cmp_int (a b : Int) : Spec Try.prog 114 [.ca (.val (vi a)), .ca (.val (vi b))] [] (.ca (.val (vi (cmpZ a b)))) [] := by
  have c1 := cmp_nan a
  have c2 := cmp_nan b
  unfold cmpZ
  by_cases h1 : a < b
  · rw [if_pos h1]
    refine spec_of Try.func114 rfl Try.ntmps114 Try.results114 ⟨by decide, by simp⟩ fun C hC => ?_
    (repeat' ((first | refine aw_seq ?_ | refine aw_block ?_ | refine aw_reg hC (by kernel_rfl) ?_ | refine aw_regd hC Try.checked.mixed (by kernel_rfl) ?_ | refine chk_and (by kernel_rfl) ?_ | refine aw_skip ?_ | refine aw_if ?_ | refine And.intro (by first | omega | with_reducible assumption) ?_ | refine aw_exit ?_ | refine aw_ret ?_ | (simp (decide := true) (disch := omega) only [go_sem, ↓reduceIte, ↓put_at]) | refine call_u Try.call141 (c1) [] (by simp (decide := true) (disch := omega) only [go_sem, ↓reduceIte, ↓put_at]; first | done | assumption | omega) ?_ | refine call_u Try.call141 (c2) [] (by simp (decide := true) (disch := omega) only [go_sem, ↓reduceIte, ↓put_at]; first | done | assumption | omega) ?_ | refine condK_eq (fun h => ?_) (fun h => ?_) | refine condK_dec (fun h => ?_) (fun h => ?_) | refine condK_if (fun h => ?_) (fun h => ?_) | (refine ret_s [] ?_; simp (decide := true) (disch := omega) only [go_sem, ↓reduceIte, ↓put_at]))))
  · rw [if_neg h1]
    by_cases h2 : b < a
    · rw [if_pos h2]
      refine spec_of Try.func114 rfl Try.ntmps114 Try.results114 ⟨by decide, by simp⟩ fun C hC => ?_
      (repeat' ((first | refine aw_seq ?_ | refine aw_block ?_ | refine aw_reg hC (by kernel_rfl) ?_ | refine aw_regd hC Try.checked.mixed (by kernel_rfl) ?_ | refine chk_and (by kernel_rfl) ?_ | refine aw_skip ?_ | refine aw_if ?_ | refine And.intro (by first | omega | with_reducible assumption) ?_ | refine aw_exit ?_ | refine aw_ret ?_ | (simp (decide := true) (disch := omega) only [go_sem, ↓reduceIte, ↓put_at]) | refine call_u Try.call141 (c1) [] (by simp (decide := true) (disch := omega) only [go_sem, ↓reduceIte, ↓put_at]; first | done | assumption | omega) ?_ | refine call_u Try.call141 (c2) [] (by simp (decide := true) (disch := omega) only [go_sem, ↓reduceIte, ↓put_at]; first | done | assumption | omega) ?_ | refine condK_eq (fun h => ?_) (fun h => ?_) | refine condK_dec (fun h => ?_) (fun h => ?_) | refine condK_if (fun h => ?_) (fun h => ?_) | (refine ret_s [] ?_; simp (decide := true) (disch := omega) only [go_sem, ↓reduceIte, ↓put_at]))))
    · rw [if_neg h2]
      refine spec_of Try.func114 rfl Try.ntmps114 Try.results114 ⟨by decide, by simp⟩ fun C hC => ?_
      (repeat' ((first | refine aw_seq ?_ | refine aw_block ?_ | refine aw_reg hC (by kernel_rfl) ?_ | refine aw_regd hC Try.checked.mixed (by kernel_rfl) ?_ | refine chk_and (by kernel_rfl) ?_ | refine aw_skip ?_ | refine aw_if ?_ | refine And.intro (by first | omega | with_reducible assumption) ?_ | refine aw_exit ?_ | refine aw_ret ?_ | (simp (decide := true) (disch := omega) only [go_sem, ↓reduceIte, ↓put_at]) | refine call_u Try.call141 (c1) [] (by simp (decide := true) (disch := omega) only [go_sem, ↓reduceIte, ↓put_at]; first | done | assumption | omega) ?_ | refine call_u Try.call141 (c2) [] (by simp (decide := true) (disch := omega) only [go_sem, ↓reduceIte, ↓put_at]; first | done | assumption | omega) ?_ | refine condK_eq (fun h => ?_) (fun h => ?_) | refine condK_dec (fun h => ?_) (fun h => ?_) | refine condK_if (fun h => ?_) (fun h => ?_) | (refine ret_s [] ?_; simp (decide := true) (disch := omega) only [go_sem, ↓reduceIte, ↓put_at]))))
/-- How many come first. -/
def firstN (c : Nat → Int) : Nat → Nat
  | 0 => 0
  | n + 1 => if firstN c n = n ∧ c n < 0 then n + 1 else firstN c n
theorem firstN_is (c : Nat → Int) (n : Nat) : ∀ i, i ≤ n → (∀ k, k < i → c k < 0) → (∀ k, i ≤ k → k < n → 0 ≤ c k) → firstN c n = i := by
  induction n with
  | zero => intro i hi _ _; simp [firstN]; omega
  | succ n ih =>
    intro i hi h1 h2
    unfold firstN
    by_cases e : i = n + 1
    · subst e
      have := ih n (Nat.le_refl _) (fun k hk => h1 k (by omega)) (fun k a b => by omega)
      rw [if_pos ⟨this, h1 n (by omega)⟩]
    · have := ih i (by omega) h1 (fun k a b => h2 k a (by omega))
      have h3 := h2 n (by omega) (by omega)
      rw [if_neg (fun h => by omega)]
      exact this
set_option maxRecDepth 100000 in
set_option maxHeartbeats 4000000 in
theorem sl_bs (es : List (List V)) (t : Int) (K : FuncId) (hK : ∀ args w, (callFunc K args).run Try.prog w = .ok (.enter K args) w) (c : Nat → Int) (hl : es.length ≤ 1000000) (hsz : ∀ r ∈ es, r.length = 3)
    (hc : ∀ i (h : i < es.length), Spec Try.prog K [.ca (.val (.agg es[i])), .ca (.val (vi t))] [] (.ca (.val (vi (c i)))) []) (hm : ∀ i j, i ≤ j → j < es.length → 0 ≤ c i → 0 ≤ c j) :
    Spec Try.prog 117 [.ca (.val (.lst 3 es)), .ca (.val (vi t)), .fn K []] [] (.ca (.val (.tup [vi (firstN c es.length), vb (decide (firstN c es.length < es.length) && decide (c (firstN c es.length) = 0))]))) [] := by
  refine spec_of Try.func117 rfl Try.ntmps117 Try.results117 ⟨by decide, by simp⟩ fun C hC => ?_
  (repeat' ((fail_if_success (refine stop_reg 3 ?_)); (first | refine aw_seq ?_ | refine aw_block ?_ | refine aw_reg hC (by kernel_rfl) ?_ | refine aw_regd hC Try.checked.mixed (by kernel_rfl) ?_ | refine chk_and (by kernel_rfl) ?_ | refine aw_skip ?_ | refine aw_if ?_ | refine And.intro (by first | omega | with_reducible assumption) ?_ | refine aw_exit ?_ | refine aw_ret ?_ | (simp (decide := true) (disch := omega) only [go_sem, ↓reduceIte, ↓put_at]) | (refine ret_s [] ?_; simp (decide := true) (disch := omega) only [go_sem, ↓reduceIte, ↓put_at]))))
  refine loop_s (α := {x : Nat × Nat // x.1 ≤ x.2 ∧ x.2 ≤ es.length ∧ (∀ k, k < x.1 → c k < 0) ∧ (∀ k, x.2 ≤ k → k < es.length → 0 ≤ c k)}) (fun x => [(.s 0, .av (.val (.lst 3 es))), (.s 1, .av (.val (vi t))), (.s 2, .av (.fn K [])), (.s 8, .av (.val (vi es.length))), (.s 9, .av (.val (vi x.1.1))), (.s 10, .av (.val (vi x.1.2)))]) (fun x => x.1.2 - x.1.1) ⟨(0, es.length), Nat.zero_le _, Nat.le_refl _, fun k h => by omega, fun k a b => by omega⟩ ?_ (fun x => ?_)
  · simp (decide := true) (disch := omega) only [go_sem, ↓reduceIte, ↓put_at]
  · obtain ⟨⟨i, j⟩, h1, h2, h3, h4⟩ := x
    dsimp only at h1 h2 h3 h4 ⊢
    by_cases hij : i < j
    · have hh : (i + j) / 2 < es.length := by omega
      obtain ⟨h, hh0⟩ : ∃ h, h = (i + j) / 2 := ⟨_, rfl⟩
      rw [← hh0] at hh
      have hch := hc h hh
      have hl3 := hsz _ (List.getElem_mem hh)
      have hi1 : (((i : Int) + (j : Int)) / 2).toNat = h := by omega
      have hi2 : ((i : Int) + (j : Int)) / 2 = (h : Int) := by omega
      have hge : es.getD h [] = es[h] := by simp [hh]
      have htk : es[h].take 3 = es[h] := List.take_of_length_le (by omega)
      (repeat' ((first | refine aw_seq ?_ | refine aw_block ?_ | refine aw_reg hC (by kernel_rfl) ?_ | refine aw_regd hC Try.checked.mixed (by kernel_rfl) ?_ | refine chk_and (by kernel_rfl) ?_ | refine aw_skip ?_ | refine aw_if ?_ | refine And.intro (by first | omega | with_reducible assumption) ?_ | refine aw_exit ?_ | refine aw_ret ?_ | (simp (decide := true) (disch := omega) only [go_sem, ↓reduceIte, ↓put_at]) | (refine ret_s [] ?_; simp (decide := true) (disch := omega) only [go_sem, ↓reduceIte, ↓put_at]))))
      simp only [hi1, hge, htk]
      refine ⟨by omega, ?_⟩
      refine pfcall_u hK [] hch (by simp (decide := true) (disch := omega) only [go_sem, ↓reduceIte, ↓put_at]) ?_
      by_cases hneg : c h < 0
      · (repeat' ((first | refine aw_seq ?_ | refine aw_block ?_ | refine aw_reg hC (by kernel_rfl) ?_ | refine aw_regd hC Try.checked.mixed (by kernel_rfl) ?_ | refine chk_and (by kernel_rfl) ?_ | refine aw_skip ?_ | refine aw_if ?_ | refine And.intro (by first | omega | with_reducible assumption) ?_ | refine aw_exit ?_ | refine aw_ret ?_ | (simp (decide := true) (disch := omega) only [go_sem, ↓reduceIte, ↓put_at]) | (refine ret_s [] ?_; simp (decide := true) (disch := omega) only [go_sem, ↓reduceIte, ↓put_at]))))
        refine next_s (α := {x : Nat × Nat // x.1 ≤ x.2 ∧ x.2 ≤ es.length ∧ (∀ k, k < x.1 → c k < 0) ∧ (∀ k, x.2 ≤ k → k < es.length → 0 ≤ c k)}) ⟨(h + 1, j), by dsimp only; omega, h2, fun k hk => ?_, h4⟩ ⟨?_, by dsimp only; omega⟩
        · dsimp only at hk
          by_cases hki : k < i
          · exact h3 k hki
          · exact Int.not_le.1 fun h0 => absurd (hm k h (by omega) hh h0) (by omega)
        · simp (decide := true) (disch := omega) only [go_sem, ↓reduceIte, ↓put_at]
          omega
      · (repeat' ((first | refine aw_seq ?_ | refine aw_block ?_ | refine aw_reg hC (by kernel_rfl) ?_ | refine aw_regd hC Try.checked.mixed (by kernel_rfl) ?_ | refine chk_and (by kernel_rfl) ?_ | refine aw_skip ?_ | refine aw_if ?_ | refine And.intro (by first | omega | with_reducible assumption) ?_ | refine aw_exit ?_ | refine aw_ret ?_ | (simp (decide := true) (disch := omega) only [go_sem, ↓reduceIte, ↓put_at]) | (refine ret_s [] ?_; simp (decide := true) (disch := omega) only [go_sem, ↓reduceIte, ↓put_at]))))
        refine next_s (α := {x : Nat × Nat // x.1 ≤ x.2 ∧ x.2 ≤ es.length ∧ (∀ k, k < x.1 → c k < 0) ∧ (∀ k, x.2 ≤ k → k < es.length → 0 ≤ c k)}) ⟨(i, h), by dsimp only; omega, by dsimp only; omega, h3, fun k hk hk2 => hm h k hk hk2 (by omega)⟩ ⟨?_, by dsimp only; omega⟩
        simp (decide := true) (disch := omega) only [go_sem, ↓reduceIte, ↓put_at]
        omega
    · obtain rfl : j = i := by omega
      have hf := firstN_is c es.length j h2 h3 h4
      rw [hf]
      by_cases hn : j < es.length
      · have hcj := hc j hn
        have hl3 := hsz _ (List.getElem_mem hn)
        have hge : es.getD j [] = es[j] := by simp [hn]
        have htk : es[j].take 3 = es[j] := List.take_of_length_le (by omega)
        rw [decide_eq_true hn, Bool.true_and]
        (repeat' ((first | refine aw_seq ?_ | refine aw_block ?_ | refine aw_reg hC (by kernel_rfl) ?_ | refine aw_regd hC Try.checked.mixed (by kernel_rfl) ?_ | refine chk_and (by kernel_rfl) ?_ | refine aw_skip ?_ | refine aw_if ?_ | refine And.intro (by first | omega | with_reducible assumption) ?_ | refine aw_exit ?_ | refine aw_ret ?_ | (simp (decide := true) (disch := omega) only [go_sem, ↓reduceIte, ↓put_at]) | (refine ret_s [] ?_; simp (decide := true) (disch := omega) only [go_sem, ↓reduceIte, ↓put_at]))))
        simp only [hge, htk]
        refine ⟨by omega, ?_⟩
        refine pfcall_u hK [] hcj (by simp (decide := true) (disch := omega) only [go_sem, ↓reduceIte, ↓put_at]) ?_
        by_cases h0 : c j = 0
        · rw [decide_eq_true h0]
          (repeat' ((first | refine aw_seq ?_ | refine aw_block ?_ | refine aw_reg hC (by kernel_rfl) ?_ | refine aw_regd hC Try.checked.mixed (by kernel_rfl) ?_ | refine chk_and (by kernel_rfl) ?_ | refine aw_skip ?_ | refine aw_if ?_ | refine And.intro (by first | omega | with_reducible assumption) ?_ | refine aw_exit ?_ | refine aw_ret ?_ | (simp (decide := true) (disch := omega) only [go_sem, ↓reduceIte, ↓put_at]) | (refine ret_s [] ?_; simp (decide := true) (disch := omega) only [go_sem, ↓reduceIte, ↓put_at]))))
        · rw [decide_eq_false h0]
          (repeat' ((first | refine aw_seq ?_ | refine aw_block ?_ | refine aw_reg hC (by kernel_rfl) ?_ | refine aw_regd hC Try.checked.mixed (by kernel_rfl) ?_ | refine chk_and (by kernel_rfl) ?_ | refine aw_skip ?_ | refine aw_if ?_ | refine And.intro (by first | omega | with_reducible assumption) ?_ | refine aw_exit ?_ | refine aw_ret ?_ | (simp (decide := true) (disch := omega) only [go_sem, ↓reduceIte, ↓put_at]) | (refine ret_s [] ?_; simp (decide := true) (disch := omega) only [go_sem, ↓reduceIte, ↓put_at]))))
      · rw [decide_eq_false hn, Bool.false_and]
        (repeat' ((first | refine aw_seq ?_ | refine aw_block ?_ | refine aw_reg hC (by kernel_rfl) ?_ | refine aw_regd hC Try.checked.mixed (by kernel_rfl) ?_ | refine chk_and (by kernel_rfl) ?_ | refine aw_skip ?_ | refine aw_if ?_ | refine And.intro (by first | omega | with_reducible assumption) ?_ | refine aw_exit ?_ | refine aw_ret ?_ | (simp (decide := true) (disch := omega) only [go_sem, ↓reduceIte, ↓put_at]) | (refine ret_s [] ?_; simp (decide := true) (disch := omega) only [go_sem, ↓reduceIte, ↓put_at]))))
/-- Where the first one is; -1: nowhere. -/
def idxF {α : Type} (q : α → Bool) : List α → Int
  | [] => -1
  | x :: xs => if q x = true then 0 else if idxF q xs < 0 then -1 else idxF q xs + 1
theorem idxF_at {α : Type} (q : α → Bool) : ∀ (xs : List α) (j : Nat) (h : j < xs.length), (∀ k (hk : k < j), q (xs[k]'(by omega)) = false) → q xs[j] = true → idxF q xs = j
  | x :: xs, 0, _, _, h => by simp [idxF]; intro h2; simp at h; rw [h] at h2; cases h2
  | x :: xs, j + 1, hj, h1, h2 => by
    have h0 := h1 0 (by omega)
    have ih := idxF_at q xs j (by simpa using hj) (fun k hk => by have := h1 (k + 1) (by omega); simpa using this) (by simpa using h2)
    simp at h0
    unfold idxF
    rw [h0, ih, if_neg (by decide), if_neg (by omega)]
    rfl
theorem idxF_none {α : Type} (q : α → Bool) : ∀ (xs : List α), (∀ x ∈ xs, q x = false) → idxF q xs = -1
  | [], _ => rfl
  | x :: xs, h => by
    have ih := idxF_none q xs (fun y hy => h y (List.mem_cons_of_mem _ hy))
    unfold idxF
    rw [h x (List.mem_cons_self ..), ih]
    rfl
structure Ld where
  p : Int
  w : Int
  b : Int
  deriving DecidableEq
def ldEl (x : Ld) : List V := [vi x.p, vi x.w, vi x.b]
attribute [go_sem] ldEl
set_option maxRecDepth 100000 in
set_option maxHeartbeats 4000000 in
theorem sl_index (xs : List Ld) (z : V) (K : FuncId) (hK : ∀ args w, (callFunc K args).run Try.prog w = .ok (.enter K args) w) (q : Ld → Bool) (hl : xs.length ≤ 1000000)
    (hc : ∀ x ∈ xs, Spec Try.prog K [.ca (.val (.agg (ldEl x))), .ca (.val z)] [] (.ca (.val (vb (q x)))) []) :
    Spec Try.prog 120 [.ca (.val (.lst 3 (xs.map ldEl))), .fn K [.val z]] [] (.ca (.val (vi (idxF q xs)))) [] := by
  refine spec_of Try.func120 rfl Try.ntmps120 Try.results120 ⟨by decide, by simp⟩ fun C hC => ?_
  (repeat' ((fail_if_success (refine stop_reg 2 ?_)); (first | refine aw_seq ?_ | refine aw_block ?_ | refine aw_reg hC (by kernel_rfl) ?_ | refine aw_regd hC Try.checked.mixed (by kernel_rfl) ?_ | refine chk_and (by kernel_rfl) ?_ | refine aw_skip ?_ | refine aw_if ?_ | refine And.intro (by first | omega | with_reducible assumption) ?_ | refine aw_exit ?_ | refine aw_ret ?_ | (simp (decide := true) (disch := omega) only [go_sem, ↓reduceIte, ↓put_at]) | (refine ret_s [] ?_; simp (decide := true) (disch := omega) only [go_sem, ↓reduceIte, ↓put_at]))))
  refine loop_s (α := {j : Nat // j ≤ xs.length ∧ ∀ k (h : k < xs.length), k < j → q xs[k] = false}) (fun j => [(.s 0, .av (.val (.lst 3 (xs.map ldEl)))), (.s 1, .av (.fn K [.val z])), (.s 7, .av (.val (vi xs.length))), (.s 8, .av (.val (vi j.1)))]) (fun j => xs.length - j.1) ⟨0, Nat.zero_le _, fun k _ h => by omega⟩ ?_ (fun j => ?_)
  · simp (decide := true) (disch := omega) only [go_sem, ↓reduceIte, ↓put_at]
  · obtain ⟨j, hj, hq⟩ := j
    dsimp only at hj hq ⊢
    by_cases hlt : j < xs.length
    · have hcj := hc _ (List.getElem_mem hlt)
      have hat := idxF_at q xs j hlt (fun k hk => hq k (by omega) hk)
      (repeat' ((first | refine aw_seq ?_ | refine aw_block ?_ | refine aw_reg hC (by kernel_rfl) ?_ | refine aw_regd hC Try.checked.mixed (by kernel_rfl) ?_ | refine chk_and (by kernel_rfl) ?_ | refine aw_skip ?_ | refine aw_if ?_ | refine And.intro (by first | omega | with_reducible assumption) ?_ | refine aw_exit ?_ | refine aw_ret ?_ | (simp (decide := true) (disch := omega) only [go_sem, ↓reduceIte, ↓put_at]) | (refine ret_s [] ?_; simp (decide := true) (disch := omega) only [go_sem, ↓reduceIte, ↓put_at]))))
      refine pfcall_u hK [.val z] hcj (by simp (decide := true) (disch := omega) only [go_sem, ↓reduceIte, ↓put_at]) ?_
      cases hqj : q xs[j] with
      | true =>
        rw [hat hqj]
        (repeat' ((first | refine aw_seq ?_ | refine aw_block ?_ | refine aw_reg hC (by kernel_rfl) ?_ | refine aw_regd hC Try.checked.mixed (by kernel_rfl) ?_ | refine chk_and (by kernel_rfl) ?_ | refine aw_skip ?_ | refine aw_if ?_ | refine And.intro (by first | omega | with_reducible assumption) ?_ | refine aw_exit ?_ | refine aw_ret ?_ | (simp (decide := true) (disch := omega) only [go_sem, ↓reduceIte, ↓put_at]) | (refine ret_s [] ?_; simp (decide := true) (disch := omega) only [go_sem, ↓reduceIte, ↓put_at]))))
      | false =>
        (repeat' ((first | refine aw_seq ?_ | refine aw_block ?_ | refine aw_reg hC (by kernel_rfl) ?_ | refine aw_regd hC Try.checked.mixed (by kernel_rfl) ?_ | refine chk_and (by kernel_rfl) ?_ | refine aw_skip ?_ | refine aw_if ?_ | refine And.intro (by first | omega | with_reducible assumption) ?_ | refine aw_exit ?_ | refine aw_ret ?_ | (simp (decide := true) (disch := omega) only [go_sem, ↓reduceIte, ↓put_at]) | (refine ret_s [] ?_; simp (decide := true) (disch := omega) only [go_sem, ↓reduceIte, ↓put_at]))))
        refine next_s (α := {j : Nat // j ≤ xs.length ∧ ∀ k (h : k < xs.length), k < j → q xs[k] = false}) ⟨j + 1, hlt, fun k hk hk2 => by
          by_cases e : k = j
          · subst e; exact hqj
          · exact hq k hk (by omega)⟩ ⟨?_, by (try dsimp only); omega⟩
        simp (decide := true) (disch := omega) only [go_sem, ↓reduceIte, ↓put_at]
    · have hn := idxF_none q xs (fun x hx => by
        obtain ⟨k, hk, rfl⟩ := List.getElem_of_mem hx
        exact hq k hk (by omega))
      rw [hn]
      (repeat' ((first | refine aw_seq ?_ | refine aw_block ?_ | refine aw_reg hC (by kernel_rfl) ?_ | refine aw_regd hC Try.checked.mixed (by kernel_rfl) ?_ | refine chk_and (by kernel_rfl) ?_ | refine aw_skip ?_ | refine aw_if ?_ | refine And.intro (by first | omega | with_reducible assumption) ?_ | refine aw_exit ?_ | refine aw_ret ?_ | (simp (decide := true) (disch := omega) only [go_sem, ↓reduceIte, ↓put_at]) | (refine ret_s [] ?_; simp (decide := true) (disch := omega) only [go_sem, ↓reduceIte, ↓put_at]))))
/-- Alike, one by one. -/
def allF {α : Type} (q : α → α → Bool) : List α → List α → Bool
  | [], [] => true
  | x :: xs, y :: ys => q x y && allF q xs ys
  | _, _ => false
theorem allF_len {α : Type} (q : α → α → Bool) : ∀ (xs ys : List α), xs.length ≠ ys.length → allF q xs ys = false
  | [], [], h => absurd rfl h
  | [], _ :: _, _ => rfl
  | _ :: _, [], _ => rfl
  | x :: xs, y :: ys, h => by unfold allF; rw [allF_len q xs ys (by simpa using h)]; simp
theorem allF_yes {α : Type} (q : α → α → Bool) : ∀ (xs ys : List α) (h : xs.length = ys.length), (∀ k (h1 : k < xs.length) (h2 : k < ys.length), q xs[k] ys[k] = true) → allF q xs ys = true
  | [], [], _, _ => rfl
  | x :: xs, y :: ys, h, hq => by
    unfold allF
    have h0 := hq 0 (by simp) (by simp)
    simp at h0
    rw [h0, allF_yes q xs ys (by simpa using h) fun k h1 h2 => by have := hq (k + 1) (by simpa using h1) (by simpa using h2); simpa using this]
    rfl
theorem allF_no {α : Type} (q : α → α → Bool) : ∀ (xs ys : List α) (k : Nat) (h1 : k < xs.length) (h2 : k < ys.length), q xs[k] ys[k] = false → allF q xs ys = false
  | x :: xs, y :: ys, 0, _, _, h => by unfold allF; simp at h; rw [h]; rfl
  | x :: xs, y :: ys, k + 1, h1, h2, h => by unfold allF; rw [allF_no q xs ys k (by simpa using h1) (by simpa using h2) (by simpa using h)]; simp
set_option maxRecDepth 100000 in
set_option maxHeartbeats 4000000 in
theorem sl_equal (xs ys : List Ld) (K : FuncId) (hK : ∀ args w, (callFunc K args).run Try.prog w = .ok (.enter K args) w) (q : Ld → Ld → Bool) (hl : xs.length ≤ 1000000) (hl2 : ys.length ≤ 1000000)
    (hc : ∀ x y, Spec Try.prog K [.ca (.val (.agg (ldEl x))), .ca (.val (.agg (ldEl y)))] [] (.ca (.val (vb (q x y)))) []) :
    Spec Try.prog 66 [.ca (.val (.lst 3 (xs.map ldEl))), .ca (.val (.lst 3 (ys.map ldEl))), .fn K []] [] (.ca (.val (vb (allF q xs ys)))) [] := by
  by_cases hne : xs.length = ys.length
  · refine spec_of Try.func66 rfl Try.ntmps66 Try.results66 ⟨by decide, by simp⟩ fun C hC => ?_
    (repeat' ((fail_if_success (refine stop_reg 4 ?_)); (first | refine aw_seq ?_ | refine aw_block ?_ | refine aw_reg hC (by kernel_rfl) ?_ | refine aw_regd hC Try.checked.mixed (by kernel_rfl) ?_ | refine chk_and (by kernel_rfl) ?_ | refine aw_skip ?_ | refine aw_if ?_ | refine And.intro (by first | omega | with_reducible assumption) ?_ | refine aw_exit ?_ | refine aw_ret ?_ | (simp (decide := true) (disch := omega) only [go_sem, ↓reduceIte, ↓put_at]) | (refine ret_s [] ?_; simp (decide := true) (disch := omega) only [go_sem, ↓reduceIte, ↓put_at]))))
    refine loop_s (α := {j : Nat // j ≤ xs.length ∧ ∀ k (h : k < xs.length) (h2 : k < ys.length), k < j → q xs[k] ys[k] = true}) (fun j => [(.s 1, .av (.val (.lst 3 (ys.map ldEl)))), (.s 2, .av (.fn K [])), (.s 15, .av (.val (.lst 3 (xs.map ldEl)))), (.s 16, .av (.val (vi xs.length))), (.s 17, .av (.val (vi j.1)))]) (fun j => xs.length - j.1) ⟨0, Nat.zero_le _, fun k _ _ h => by omega⟩ ?_ (fun j => ?_)
    · simp (decide := true) (disch := omega) only [go_sem, ↓reduceIte, ↓put_at]
    · obtain ⟨j, hj, hq⟩ := j
      dsimp only at hj hq ⊢
      by_cases hlt : j < xs.length
      · have hlt2 : j < ys.length := by omega
        have hcj := hc xs[j] ys[j]
        have hno := allF_no q xs ys j hlt hlt2
        (repeat' ((first | refine aw_seq ?_ | refine aw_block ?_ | refine aw_reg hC (by kernel_rfl) ?_ | refine aw_regd hC Try.checked.mixed (by kernel_rfl) ?_ | refine chk_and (by kernel_rfl) ?_ | refine aw_skip ?_ | refine aw_if ?_ | refine And.intro (by first | omega | with_reducible assumption) ?_ | refine aw_exit ?_ | refine aw_ret ?_ | (simp (decide := true) (disch := omega) only [go_sem, ↓reduceIte, ↓put_at]) | (refine ret_s [] ?_; simp (decide := true) (disch := omega) only [go_sem, ↓reduceIte, ↓put_at]))))
        refine pfcall_u hK [] hcj (by simp (decide := true) (disch := omega) only [go_sem, ↓reduceIte, ↓put_at]) ?_
        cases hqj : q xs[j] ys[j] with
        | false =>
          rw [hno hqj]
          (repeat' ((first | refine aw_seq ?_ | refine aw_block ?_ | refine aw_reg hC (by kernel_rfl) ?_ | refine aw_regd hC Try.checked.mixed (by kernel_rfl) ?_ | refine chk_and (by kernel_rfl) ?_ | refine aw_skip ?_ | refine aw_if ?_ | refine And.intro (by first | omega | with_reducible assumption) ?_ | refine aw_exit ?_ | refine aw_ret ?_ | (simp (decide := true) (disch := omega) only [go_sem, ↓reduceIte, ↓put_at]) | (refine ret_s [] ?_; simp (decide := true) (disch := omega) only [go_sem, ↓reduceIte, ↓put_at]))))
        | true =>
          (repeat' ((first | refine aw_seq ?_ | refine aw_block ?_ | refine aw_reg hC (by kernel_rfl) ?_ | refine aw_regd hC Try.checked.mixed (by kernel_rfl) ?_ | refine chk_and (by kernel_rfl) ?_ | refine aw_skip ?_ | refine aw_if ?_ | refine And.intro (by first | omega | with_reducible assumption) ?_ | refine aw_exit ?_ | refine aw_ret ?_ | (simp (decide := true) (disch := omega) only [go_sem, ↓reduceIte, ↓put_at]) | (refine ret_s [] ?_; simp (decide := true) (disch := omega) only [go_sem, ↓reduceIte, ↓put_at]))))
          refine next_s (α := {j : Nat // j ≤ xs.length ∧ ∀ k (h : k < xs.length) (h2 : k < ys.length), k < j → q xs[k] ys[k] = true}) ⟨j + 1, hlt, fun k hk hk2 hk3 => by
            by_cases e : k = j
            · subst e; exact hqj
            · exact hq k hk hk2 (by omega)⟩ ⟨?_, by (try dsimp only); omega⟩
          simp (decide := true) (disch := omega) only [go_sem, ↓reduceIte, ↓put_at]
      · rw [allF_yes q xs ys hne fun k h1 h2 => hq k h1 h2 (by omega)]
        (repeat' ((first | refine aw_seq ?_ | refine aw_block ?_ | refine aw_reg hC (by kernel_rfl) ?_ | refine aw_regd hC Try.checked.mixed (by kernel_rfl) ?_ | refine chk_and (by kernel_rfl) ?_ | refine aw_skip ?_ | refine aw_if ?_ | refine And.intro (by first | omega | with_reducible assumption) ?_ | refine aw_exit ?_ | refine aw_ret ?_ | (simp (decide := true) (disch := omega) only [go_sem, ↓reduceIte, ↓put_at]) | (refine ret_s [] ?_; simp (decide := true) (disch := omega) only [go_sem, ↓reduceIte, ↓put_at]))))
  · rw [allF_len q xs ys hne]
    refine spec_of Try.func66 rfl Try.ntmps66 Try.results66 ⟨by decide, by simp⟩ fun C hC => ?_
    (repeat' ((first | refine aw_seq ?_ | refine aw_block ?_ | refine aw_reg hC (by kernel_rfl) ?_ | refine aw_regd hC Try.checked.mixed (by kernel_rfl) ?_ | refine chk_and (by kernel_rfl) ?_ | refine aw_skip ?_ | refine aw_if ?_ | refine And.intro (by first | omega | with_reducible assumption) ?_ | refine aw_exit ?_ | refine aw_ret ?_ | (simp (decide := true) (disch := omega) only [go_sem, ↓reduceIte, ↓put_at]) | (refine ret_s [] ?_; simp (decide := true) (disch := omega) only [go_sem, ↓reduceIte, ↓put_at]))))
/-- The first least one. -/
def minF {α : Type} (c : α → α → Int) (m : α) : List α → α
  | [] => m
  | x :: xs => minF c (if c x m < 0 then x else m) xs
set_option maxRecDepth 100000 in
set_option maxHeartbeats 4000000 in
theorem sl_min (y : Ld) (ys : List Ld) (K : FuncId) (hK : ∀ args w, (callFunc K args).run Try.prog w = .ok (.enter K args) w) (c : Ld → Ld → Int) (hl : ys.length ≤ 1000000)
    (hc : ∀ x ∈ y :: ys, ∀ z ∈ y :: ys, Spec Try.prog K [.ca (.val (.agg (ldEl x))), .ca (.val (.agg (ldEl z)))] [] (.ca (.val (vi (c x z)))) []) :
    Spec Try.prog 72 [.ca (.val (.lst 3 ((y :: ys).map ldEl))), .fn K []] [] (.ca (.val (.agg (ldEl (minF c y ys))))) [] := by
  obtain ⟨xs, hxs⟩ : ∃ xs, xs = y :: ys := ⟨_, rfl⟩
  have hx0 : 0 < xs.length := by rw [hxs]; simp
  have hxl : xs.length = ys.length + 1 := by rw [hxs]; rfl
  have hy0 : xs[0] = y := by simp [hxs]
  rw [← hxs] at hc ⊢
  have hR0 : minF c y (xs.drop 1) = minF c y ys := by rw [hxs]; rfl
  generalize minF c y ys = R at hR0 ⊢
  refine spec_of Try.func72 rfl Try.ntmps72 Try.results72 ⟨by decide, by simp⟩ fun C hC => ?_
  (repeat' ((fail_if_success (refine stop_reg 5 ?_)); (first | refine aw_seq ?_ | refine aw_block ?_ | refine aw_reg hC (by kernel_rfl) ?_ | refine aw_regd hC Try.checked.mixed (by kernel_rfl) ?_ | refine chk_and (by kernel_rfl) ?_ | refine aw_skip ?_ | refine aw_if ?_ | refine And.intro (by first | omega | with_reducible assumption) ?_ | refine aw_exit ?_ | refine aw_ret ?_ | (simp (decide := true) (disch := omega) only [go_sem, ↓reduceIte, ↓put_at]) | (refine ret_s [] ?_; simp (decide := true) (disch := omega) only [go_sem, ↓reduceIte, ↓put_at]))))
  refine loop_s (α := {x : Nat × Ld // 1 ≤ x.1 ∧ x.1 ≤ xs.length ∧ x.2 ∈ xs ∧ minF c x.2 (xs.drop x.1) = R}) (fun x => [(.s 0, .av (.val (.lst 3 (xs.map ldEl)))), (.s 1, .av (.fn K [])), (.o (4, 0), .num 3), (.c (4, 0) 0, .av (.val .any)), (.c (4, 0) 1, .av (.val .any)), (.c (4, 0) 2, .av (.val .any)), (.s 4, .av (.ptr (4, 0) 0 0)), (.o (5, 0), .num 3), (.c (5, 0) 0, .av (.val (vi x.1.2.p))), (.c (5, 0) 1, .av (.val (vi x.1.2.w))), (.c (5, 0) 2, .av (.val (vi x.1.2.b))), (.s 5, .av (.ptr (5, 0) 0 0)), (.s 6, .av (.val (vi x.1.1)))]) (fun x => xs.length - x.1.1) ⟨(1, y), Nat.le_refl _, by omega, by rw [hxs]; simp, hR0⟩ ?_ (fun x => ?_)
  · try dsimp only
    try simp only [← hy0]
    simp (decide := true) (disch := omega) only [go_sem, ↓reduceIte, ↓put_at]
  · obtain ⟨⟨j, m⟩, hj1, hj, hm, hmin⟩ := x
    dsimp only at hj1 hj hm hmin ⊢
    by_cases hlt : j < xs.length
    · have hcj := hc _ (List.getElem_mem hlt) m hm
      have hd : xs.drop j = xs[j] :: xs.drop (j + 1) := List.drop_eq_getElem_cons hlt
      rw [hd] at hmin
      unfold minF at hmin
      (repeat' ((first | refine aw_seq ?_ | refine aw_block ?_ | refine aw_reg hC (by kernel_rfl) ?_ | refine aw_regd hC Try.checked.mixed (by kernel_rfl) ?_ | refine chk_and (by kernel_rfl) ?_ | refine aw_skip ?_ | refine aw_if ?_ | refine And.intro (by first | omega | with_reducible assumption) ?_ | refine aw_exit ?_ | refine aw_ret ?_ | (simp (decide := true) (disch := omega) only [go_sem, ↓reduceIte, ↓put_at]) | (refine ret_s [] ?_; simp (decide := true) (disch := omega) only [go_sem, ↓reduceIte, ↓put_at]))))
      refine pfcall_u hK [] hcj (by simp (decide := true) (disch := omega) only [go_sem, ↓reduceIte, ↓put_at]) ?_
      by_cases hneg : c xs[j] m < 0
      · rw [if_pos hneg] at hmin
        (repeat' ((first | refine aw_seq ?_ | refine aw_block ?_ | refine aw_reg hC (by kernel_rfl) ?_ | refine aw_regd hC Try.checked.mixed (by kernel_rfl) ?_ | refine chk_and (by kernel_rfl) ?_ | refine aw_skip ?_ | refine aw_if ?_ | refine And.intro (by first | omega | with_reducible assumption) ?_ | refine aw_exit ?_ | refine aw_ret ?_ | (simp (decide := true) (disch := omega) only [go_sem, ↓reduceIte, ↓put_at]) | (refine ret_s [] ?_; simp (decide := true) (disch := omega) only [go_sem, ↓reduceIte, ↓put_at]))))
        refine next_s (α := {x : Nat × Ld // 1 ≤ x.1 ∧ x.1 ≤ xs.length ∧ x.2 ∈ xs ∧ minF c x.2 (xs.drop x.1) = R}) ⟨(j + 1, xs[j]), by dsimp only; omega, hlt, List.getElem_mem hlt, hmin⟩ ⟨?_, by dsimp only; omega⟩
        simp (decide := true) (disch := omega) only [go_sem, ↓reduceIte, ↓put_at]
      · rw [if_neg hneg] at hmin
        (repeat' ((first | refine aw_seq ?_ | refine aw_block ?_ | refine aw_reg hC (by kernel_rfl) ?_ | refine aw_regd hC Try.checked.mixed (by kernel_rfl) ?_ | refine chk_and (by kernel_rfl) ?_ | refine aw_skip ?_ | refine aw_if ?_ | refine And.intro (by first | omega | with_reducible assumption) ?_ | refine aw_exit ?_ | refine aw_ret ?_ | (simp (decide := true) (disch := omega) only [go_sem, ↓reduceIte, ↓put_at]) | (refine ret_s [] ?_; simp (decide := true) (disch := omega) only [go_sem, ↓reduceIte, ↓put_at]))))
        refine next_s (α := {x : Nat × Ld // 1 ≤ x.1 ∧ x.1 ≤ xs.length ∧ x.2 ∈ xs ∧ minF c x.2 (xs.drop x.1) = R}) ⟨(j + 1, m), by dsimp only; omega, hlt, hm, hmin⟩ ⟨?_, by dsimp only; omega⟩
        simp (decide := true) (disch := omega) only [go_sem, ↓reduceIte, ↓put_at]
    · obtain rfl : j = xs.length := by omega
      rw [List.drop_length] at hmin
      have hmin : m = R := hmin
      subst hmin
      (repeat' ((first | refine aw_seq ?_ | refine aw_block ?_ | refine aw_reg hC (by kernel_rfl) ?_ | refine aw_regd hC Try.checked.mixed (by kernel_rfl) ?_ | refine chk_and (by kernel_rfl) ?_ | refine aw_skip ?_ | refine aw_if ?_ | refine And.intro (by first | omega | with_reducible assumption) ?_ | refine aw_exit ?_ | refine aw_ret ?_ | (simp (decide := true) (disch := omega) only [go_sem, ↓reduceIte, ↓put_at]) | (refine ret_s [] ?_; simp (decide := true) (disch := omega) only [go_sem, ↓reduceIte, ↓put_at]))))
end Go.Proofs.Ytdgkehoodlncmaa
