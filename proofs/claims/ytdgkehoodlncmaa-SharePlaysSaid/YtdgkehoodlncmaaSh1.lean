
/- Package share, walked. -/
import Derived.Test.YtdgkehoodlncmaaSl3
import Derived.Test.YtdgkehoodlncmaaShM
namespace Go.Proofs.Ytdgkehoodlncmaa
open Go.RowKit
set_option linter.unusedVariables false
set_option linter.unusedSimpArgs false

abbrev iRow (z : Int) : List V := [vi z]
/-- The first that isn't 0. -/
def orF : List Int → Int
  | [] => 0
  | x :: xs => if x ≠ 0 then x else orF xs
theorem orF_at : ∀ (xs : List Int) (j : Nat) (h : j < xs.length), (∀ k (hk : k < j), (xs[k]'(by omega)) = 0) → xs[j] ≠ 0 → orF xs = xs[j]
  | x :: xs, 0, _, _, h => by simp at h; simp [orF, h]
  | x :: xs, j + 1, h, h0, h1 => by
    have e : x = 0 := by have := h0 0 (by omega); simpa using this
    have := orF_at xs j (by simpa using h) (fun k hk => by have := h0 (k + 1) (by omega); simpa using this) (by simpa using h1)
    simp [orF, e, this]
theorem orF_none : ∀ (xs : List Int), (∀ k (hk : k < xs.length), xs[k] = 0) → orF xs = 0
  | [], _ => rfl
  | x :: xs, h => by
    have e : x = 0 := by have := h 0 (by simp); simpa using this
    have := orF_none xs (fun k hk => by have := h (k + 1) (by simpa using hk); simpa using this)
    simp [orF, e, this]
set_option maxRecDepth 100000 in
set_option maxHeartbeats 4000000 in
theorem cmp_or (xs : List Int) (hl : xs.length ≤ 1000000) : Spec Try.prog 122 [.ca (.val (.lst 1 (xs.map iRow)))] [] (.ca (.val (vi (orF xs)))) [] := by
  refine spec_of Try.func122 rfl Try.ntmps122 Try.results122 ⟨by decide, by simp⟩ fun C hC => ?_
  (repeat' ((fail_if_success (refine stop_reg 3 ?_)); (first | refine aw_seq ?_ | refine aw_block ?_ | refine aw_reg hC (by kernel_rfl) ?_ | refine aw_regd hC Try.checked.mixed (by kernel_rfl) ?_ | refine chk_and (by kernel_rfl) ?_ | refine aw_skip ?_ | refine aw_if ?_ | refine And.intro (by first | omega | with_reducible assumption) ?_ | refine aw_exit ?_ | refine aw_ret ?_ | (simp (decide := true) (disch := omega) only [go_sem, ↓reduceIte, ↓put_at]) | (refine ret_s [] ?_; simp (decide := true) (disch := omega) only [go_sem, ↓reduceIte, ↓put_at]))))
  refine loop_s (α := {j : Nat // j ≤ xs.length ∧ ∀ k (hk : k < xs.length), k < j → xs[k] = 0}) (fun j => [(.s 2, .av (.val (vi 0))), (.s 3, .av (.val (vi 0))), (.s 6, .av (.val (.lst 1 (xs.map iRow)))), (.s 7, .av (.val (vi xs.length))), (.s 8, .av (.val (vi j.1)))]) (fun j => xs.length - j.1) ⟨0, Nat.zero_le _, fun k _ h => by omega⟩ ?_ (fun j => ?_)
  · simp (decide := true) (disch := omega) only [go_sem, ↓reduceIte, ↓put_at]
  · obtain ⟨j, hj, hq⟩ := j
    dsimp only at hj hq ⊢
    by_cases hlt : j < xs.length
    · have hge : (xs.map iRow).getD j [] = iRow xs[j] := by simp [hlt]
      by_cases h0 : xs[j] = 0
      · (repeat' ((first | refine aw_seq ?_ | refine aw_block ?_ | refine aw_reg hC (by kernel_rfl) ?_ | refine aw_regd hC Try.checked.mixed (by kernel_rfl) ?_ | refine chk_and (by kernel_rfl) ?_ | refine aw_skip ?_ | refine aw_if ?_ | refine And.intro (by first | omega | with_reducible assumption) ?_ | refine aw_exit ?_ | refine aw_ret ?_ | (simp (decide := true) (disch := omega) only [go_sem, ↓reduceIte, ↓put_at]) | (refine ret_s [] ?_; simp (decide := true) (disch := omega) only [go_sem, ↓reduceIte, ↓put_at]))))
        refine next_s (α := {j : Nat // j ≤ xs.length ∧ ∀ k (hk : k < xs.length), k < j → xs[k] = 0}) ⟨j + 1, hlt, fun k hk hk2 => by
          by_cases e : k = j
          · subst e; exact h0
          · exact hq k hk (by omega)⟩ ⟨?_, ?_⟩
        · simp (decide := true) (disch := omega) only [go_sem, ↓reduceIte, ↓put_at]
        · (try dsimp only)
          omega
      · rw [orF_at xs j hlt (fun k hk => hq k (by omega) hk) h0]
        (repeat' ((first | refine aw_seq ?_ | refine aw_block ?_ | refine aw_reg hC (by kernel_rfl) ?_ | refine aw_regd hC Try.checked.mixed (by kernel_rfl) ?_ | refine chk_and (by kernel_rfl) ?_ | refine aw_skip ?_ | refine aw_if ?_ | refine And.intro (by first | omega | with_reducible assumption) ?_ | refine aw_exit ?_ | refine aw_ret ?_ | (simp (decide := true) (disch := omega) only [go_sem, ↓reduceIte, ↓put_at]) | (refine ret_s [] ?_; simp (decide := true) (disch := omega) only [go_sem, ↓reduceIte, ↓put_at]))))
    · rw [orF_none xs (fun k hk => hq k hk (by omega))]
      (repeat' ((first | refine aw_seq ?_ | refine aw_block ?_ | refine aw_reg hC (by kernel_rfl) ?_ | refine aw_regd hC Try.checked.mixed (by kernel_rfl) ?_ | refine chk_and (by kernel_rfl) ?_ | refine aw_skip ?_ | refine aw_if ?_ | refine And.intro (by first | omega | with_reducible assumption) ?_ | refine aw_exit ?_ | refine aw_ret ?_ | (simp (decide := true) (disch := omega) only [go_sem, ↓reduceIte, ↓put_at]) | (refine ret_s [] ?_; simp (decide := true) (disch := omega) only [go_sem, ↓reduceIte, ↓put_at]))))
set_option maxRecDepth 100000 in
set_option maxHeartbeats 4000000 in
theorem idx_int (xs : List Int) (v : Int) (hl : xs.length ≤ 1000000) : Spec Try.prog 121 [.ca (.val (.lst 1 (xs.map iRow))), .ca (.val (vi v))] [] (.ca (.val (vi (idxF (fun x => decide (v = x)) xs)))) [] := by
  refine spec_of Try.func121 rfl Try.ntmps121 Try.results121 ⟨by decide, by simp⟩ fun C hC => ?_
  (repeat' ((fail_if_success (refine stop_reg 2 ?_)); (first | refine aw_seq ?_ | refine aw_block ?_ | refine aw_reg hC (by kernel_rfl) ?_ | refine aw_regd hC Try.checked.mixed (by kernel_rfl) ?_ | refine chk_and (by kernel_rfl) ?_ | refine aw_skip ?_ | refine aw_if ?_ | refine And.intro (by first | omega | with_reducible assumption) ?_ | refine aw_exit ?_ | refine aw_ret ?_ | (simp (decide := true) (disch := omega) only [go_sem, ↓reduceIte, ↓put_at]) | (refine ret_s [] ?_; simp (decide := true) (disch := omega) only [go_sem, ↓reduceIte, ↓put_at]))))
  refine loop_s (α := {j : Nat // j ≤ xs.length ∧ ∀ k (hk : k < xs.length), k < j → v ≠ xs[k]}) (fun j => [(.s 0, .av (.val (.lst 1 (xs.map iRow)))), (.s 1, .av (.val (vi v))), (.s 4, .av (.val (vi 0))), (.s 7, .av (.val (vi xs.length))), (.s 8, .av (.val (vi j.1)))]) (fun j => xs.length - j.1) ⟨0, Nat.zero_le _, fun k _ h => by omega⟩ ?_ (fun j => ?_)
  · simp (decide := true) (disch := omega) only [go_sem, ↓reduceIte, ↓put_at]
  · obtain ⟨j, hj, hq⟩ := j
    dsimp only at hj hq ⊢
    by_cases hlt : j < xs.length
    · have hge : (xs.map iRow).getD j [] = iRow xs[j] := by simp [hlt]
      by_cases h0 : v = xs[j]
      · rw [idxF_at (fun x => decide (v = x)) xs j hlt (fun k hk => decide_eq_false (hq k (by omega) hk)) (decide_eq_true h0)]
        (repeat' ((first | refine aw_seq ?_ | refine aw_block ?_ | refine aw_reg hC (by kernel_rfl) ?_ | refine aw_regd hC Try.checked.mixed (by kernel_rfl) ?_ | refine chk_and (by kernel_rfl) ?_ | refine aw_skip ?_ | refine aw_if ?_ | refine And.intro (by first | omega | with_reducible assumption) ?_ | refine aw_exit ?_ | refine aw_ret ?_ | (simp (decide := true) (disch := omega) only [go_sem, ↓reduceIte, ↓put_at]) | (refine ret_s [] ?_; simp (decide := true) (disch := omega) only [go_sem, ↓reduceIte, ↓put_at]))))
      · (repeat' ((first | refine aw_seq ?_ | refine aw_block ?_ | refine aw_reg hC (by kernel_rfl) ?_ | refine aw_regd hC Try.checked.mixed (by kernel_rfl) ?_ | refine chk_and (by kernel_rfl) ?_ | refine aw_skip ?_ | refine aw_if ?_ | refine And.intro (by first | omega | with_reducible assumption) ?_ | refine aw_exit ?_ | refine aw_ret ?_ | (simp (decide := true) (disch := omega) only [go_sem, ↓reduceIte, ↓put_at]) | (refine ret_s [] ?_; simp (decide := true) (disch := omega) only [go_sem, ↓reduceIte, ↓put_at]))))
        refine next_s (α := {j : Nat // j ≤ xs.length ∧ ∀ k (hk : k < xs.length), k < j → v ≠ xs[k]}) ⟨j + 1, hlt, fun k hk hk2 => by
          by_cases e : k = j
          · subst e; exact h0
          · exact hq k hk (by omega)⟩ ⟨?_, ?_⟩
        · simp (decide := true) (disch := omega) only [go_sem, ↓reduceIte, ↓put_at]
        · (try dsimp only)
          omega
    · rw [idxF_none (fun x => decide (v = x)) xs (fun x hx => by
        obtain ⟨k, hk, rfl⟩ := List.mem_iff_getElem.1 hx
        exact decide_eq_false (hq k hk (by omega)))]
      (repeat' ((first | refine aw_seq ?_ | refine aw_block ?_ | refine aw_reg hC (by kernel_rfl) ?_ | refine aw_regd hC Try.checked.mixed (by kernel_rfl) ?_ | refine chk_and (by kernel_rfl) ?_ | refine aw_skip ?_ | refine aw_if ?_ | refine And.intro (by first | omega | with_reducible assumption) ?_ | refine aw_exit ?_ | refine aw_ret ?_ | (simp (decide := true) (disch := omega) only [go_sem, ↓reduceIte, ↓put_at]) | (refine ret_s [] ?_; simp (decide := true) (disch := omega) only [go_sem, ↓reduceIte, ↓put_at]))))
theorem idx_mem (xs : List Int) (v : Int) : decide (0 ≤ idxF (fun x => decide (v = x)) xs) = decide (v ∈ xs) := by
  rcases idxF_lt (fun x => decide (v = x)) xs with h | ⟨h1, h2, h3, h4⟩
  · rw [decide_eq_false (by omega)]
    symm
    refine decide_eq_false fun hm => ?_
    obtain ⟨k, hk, rfl⟩ := List.mem_iff_getElem.1 hm
    have : ∀ (ys : List Int) (k : Nat) (hk : k < ys.length), 0 ≤ idxF (fun x => decide (ys[k] = x)) ys := fun ys => by
      induction ys with
      | nil => intro k hk; simp at hk
      | cons y ys ih =>
        intro k hk
        simp only [idxF]
        split
        · omega
        · rename_i hne
          cases k with
          | zero => simp at hne
          | succ k =>
            have := ih k (by simpa using hk)
            simp only [List.getElem_cons_succ]
            split <;> omega
    have := this xs k hk
    omega
  · rw [decide_eq_true (by omega)]
    symm
    refine decide_eq_true ?_
    have h2 : v = xs[(idxF (fun x => decide (v = x)) xs).toNat] := by simpa using h2
    rw [h2]; exact List.getElem_mem _
set_option maxRecDepth 100000 in
theorem cont_int (xs : List Int) (v : Int) (hl : xs.length ≤ 1000000) : Spec Try.prog 71 [.ca (.val (.lst 1 (xs.map iRow))), .ca (.val (vi v))] [] (.ca (.val (vb (decide (v ∈ xs))))) [] := by
  have c := idx_int xs v hl
  rw [← idx_mem]
  generalize idxF (fun x => decide (v = x)) xs = r at *
  refine spec_of Try.func71 rfl Try.ntmps71 Try.results71 ⟨by decide, by simp⟩ fun C hC => ?_
  (repeat' ((first | refine aw_seq ?_ | refine aw_block ?_ | refine aw_reg hC (by kernel_rfl) ?_ | refine aw_regd hC Try.checked.mixed (by kernel_rfl) ?_ | refine chk_and (by kernel_rfl) ?_ | refine aw_skip ?_ | refine aw_if ?_ | refine And.intro (by first | omega | with_reducible assumption) ?_ | refine aw_exit ?_ | refine aw_ret ?_ | (simp (decide := true) (disch := omega) only [go_sem, ↓reduceIte, ↓put_at]) | refine call_u Try.call121 (c) [] (by simp (decide := true) (disch := omega) only [go_sem, ↓reduceIte, ↓put_at]; first | done | assumption | omega) ?_ | refine condK_eq (fun h => ?_) (fun h => ?_) | refine condK_dec (fun h => ?_) (fun h => ?_) | refine condK_if (fun h => ?_) (fun h => ?_) | (refine ret_s [] ?_; simp (decide := true) (disch := omega) only [go_sem, ↓reduceIte, ↓put_at]))))
set_option maxRecDepth 100000 in
theorem eq18_ (a1 b1 : Int) (a2 b2 : Int) (w : World) : (binOp .eql 42 (.agg [.int .i64 a1, .int .i64 a2].toArray) (.agg [.int .i64 b1, .int .i64 b2].toArray)).run Try.prog w = .ok (.bool (decide (a1 = b1 ∧ a2 = b2))) w := by
  by_cases h1 : a1 = b1
  · by_cases h2 : a2 = b2
    · subst h1 h2; simp [go_sem]
    · simp [go_sem, h1, h2]
  · simp [go_sem, h1]
set_option maxRecDepth 100000 in
theorem sh_cmp (a b : Ld) (ha : 0 ≤ a.b * b.w ∧ a.b * b.w ≤ 4611686018427387904) (hb : 0 ≤ b.b * a.w ∧ b.b * a.w ≤ 4611686018427387904) :
    Spec Try.prog 73 [.ca (.val (.agg (ldEl a))), .ca (.val (.agg (ldEl b)))] [] (.ca (.val (vi (cmpL a b)))) [] := by
  have c1 := cmp_int (a.b * b.w) (b.b * a.w)
  have c2 := cmp_int a.p b.p
  have c3 := cmp_or [cmpZ (a.b * b.w) (b.b * a.w), cmpZ a.p b.p] (by simp)
  have e : orF [cmpZ (a.b * b.w) (b.b * a.w), cmpZ a.p b.p] = cmpL a b := by
    unfold cmpL
    simp only [orF]
    split
    · rfl
    · split
      · rfl
      · omega
  rw [e] at c3
  obtain ⟨ha1, ha2⟩ := ha
  obtain ⟨hb1, hb2⟩ := hb
  generalize cmpL a b = r at *
  refine spec_of Try.func73 rfl Try.ntmps73 Try.results73 ⟨by decide, by simp⟩ fun C hC => ?_
  (repeat' ((first | refine aw_seq ?_ | refine aw_block ?_ | refine aw_reg hC (by kernel_rfl) ?_ | refine aw_regd hC Try.checked.mixed (by kernel_rfl) ?_ | refine chk_and (by kernel_rfl) ?_ | refine aw_skip ?_ | refine aw_if ?_ | refine And.intro (by first | omega | with_reducible assumption) ?_ | refine aw_exit ?_ | refine aw_ret ?_ | (simp (decide := true) (disch := omega) only [go_sem, ↓reduceIte, ↓put_at]) | refine call_u Try.call114 (c1) [] (by simp (decide := true) (disch := omega) only [go_sem, ↓reduceIte, ↓put_at]; first | done | assumption | omega) ?_ | refine call_u Try.call114 (c2) [] (by simp (decide := true) (disch := omega) only [go_sem, ↓reduceIte, ↓put_at]; first | done | assumption | omega) ?_ | refine call_u Try.call122 (c3) [] (by simp (decide := true) (disch := omega) only [go_sem, ↓reduceIte, ↓put_at]; first | done | assumption | omega) ?_ | refine condK_eq (fun h => ?_) (fun h => ?_) | refine condK_dec (fun h => ?_) (fun h => ?_) | refine condK_if (fun h => ?_) (fun h => ?_) | (refine ret_s [] ?_; simp (decide := true) (disch := omega) only [go_sem, ↓reduceIte, ↓put_at]))))
set_option maxRecDepth 100000 in
theorem sh_l1 (x : Ld) (p : Int) : Spec Try.prog 118 [.ca (.val (.agg (ldEl x))), .ca (.val (vi p))] [] (.ca (.val (vi (cmpZ x.p p)))) [] := by
  have c := cmp_int x.p p
  refine spec_of Try.func118 rfl Try.ntmps118 Try.results118 ⟨by decide, by simp⟩ fun C hC => ?_
  (repeat' ((first | refine aw_seq ?_ | refine aw_block ?_ | refine aw_reg hC (by kernel_rfl) ?_ | refine aw_regd hC Try.checked.mixed (by kernel_rfl) ?_ | refine chk_and (by kernel_rfl) ?_ | refine aw_skip ?_ | refine aw_if ?_ | refine And.intro (by first | omega | with_reducible assumption) ?_ | refine aw_exit ?_ | refine aw_ret ?_ | (simp (decide := true) (disch := omega) only [go_sem, ↓reduceIte, ↓put_at]) | refine call_u Try.call114 (c) [] (by simp (decide := true) (disch := omega) only [go_sem, ↓reduceIte, ↓put_at]; first | done | assumption | omega) ?_ | refine condK_eq (fun h => ?_) (fun h => ?_) | refine condK_dec (fun h => ?_) (fun h => ?_) | refine condK_if (fun h => ?_) (fun h => ?_) | (refine ret_s [] ?_; simp (decide := true) (disch := omega) only [go_sem, ↓reduceIte, ↓put_at]))))
set_option maxRecDepth 100000 in
theorem sh_s1 (a b : Ld) : Spec Try.prog 67 [.ca (.val (.agg (ldEl a))), .ca (.val (.agg (ldEl b)))] [] (.ca (.val (vb (sameW a b)))) [] := by
  unfold sameW
  refine spec_of Try.func67 rfl Try.ntmps67 Try.results67 ⟨by decide, by simp⟩ fun C hC => ?_
  (repeat' ((first | refine aw_seq ?_ | refine aw_block ?_ | refine aw_reg hC (by kernel_rfl) ?_ | refine aw_regd hC Try.checked.mixed (by kernel_rfl) ?_ | refine chk_and (by kernel_rfl) ?_ | refine aw_skip ?_ | refine aw_if ?_ | refine And.intro (by first | omega | with_reducible assumption) ?_ | refine aw_exit ?_ | refine aw_ret ?_ | (simp (decide := true) (disch := omega) only [go_sem, ↓reduceIte, ↓put_at]) | (refine ret_s [] ?_; simp (decide := true) (disch := omega) only [go_sem, ↓reduceIte, ↓put_at]))))
  refine cmpA_s _ _ _ (.inl rfl) (by simp (decide := true) (disch := omega) only [go_sem, ↓reduceIte, ↓put_at]) (by simp (decide := true) (disch := omega) only [go_sem, ↓reduceIte, ↓put_at]) (by kernel_rfl) (eq18_ a.p b.p a.w b.w) ?_
  (repeat' ((first | refine aw_seq ?_ | refine aw_block ?_ | refine aw_reg hC (by kernel_rfl) ?_ | refine aw_regd hC Try.checked.mixed (by kernel_rfl) ?_ | refine chk_and (by kernel_rfl) ?_ | refine aw_skip ?_ | refine aw_if ?_ | refine And.intro (by first | omega | with_reducible assumption) ?_ | refine aw_exit ?_ | refine aw_ret ?_ | (simp (decide := true) (disch := omega) only [go_sem, ↓reduceIte, ↓put_at]) | (refine ret_s [] ?_; simp (decide := true) (disch := omega) only [go_sem, ↓reduceIte, ↓put_at]))))
set_option maxRecDepth 100000 in
theorem sh_a1 (x : Ld) (p : Int) : Spec Try.prog 123 [.ca (.val (.agg (ldEl x))), .ca (.val (.ep [vi p]))] [] (.ca (.val (vb (decide (x.p = p))))) [] := by
  refine spec_of Try.func123 rfl Try.ntmps123 Try.results123 ⟨by decide, by simp⟩ fun C hC => ?_
  (repeat' ((first | refine aw_seq ?_ | refine aw_block ?_ | refine aw_reg hC (by kernel_rfl) ?_ | refine aw_regd hC Try.checked.mixed (by kernel_rfl) ?_ | refine chk_and (by kernel_rfl) ?_ | refine aw_skip ?_ | refine aw_if ?_ | refine And.intro (by first | omega | with_reducible assumption) ?_ | refine aw_exit ?_ | refine aw_ret ?_ | (simp (decide := true) (disch := omega) only [go_sem, ↓reduceIte, ↓put_at]) | (refine ret_s [] ?_; simp (decide := true) (disch := omega) only [go_sem, ↓reduceIte, ↓put_at]))))
  rfl
set_option maxRecDepth 100000 in
theorem sh_p1 (x : Ld) (may : List Int) (hl : may.length ≤ 1000000) : Spec Try.prog 70 [.ca (.val (.agg (ldEl x))), .ca (.val (.ep [.lst 1 (may.map iRow)]))] [] (.ca (.val (vb (!decide (x.p ∈ may))))) [] := by
  have c := cont_int may x.p hl
  refine spec_of Try.func70 rfl Try.ntmps70 Try.results70 ⟨by decide, by simp⟩ fun C hC => ?_
  (repeat' ((first | refine aw_seq ?_ | refine aw_block ?_ | refine aw_reg hC (by kernel_rfl) ?_ | refine aw_regd hC Try.checked.mixed (by kernel_rfl) ?_ | refine chk_and (by kernel_rfl) ?_ | refine aw_skip ?_ | refine aw_if ?_ | refine And.intro (by first | omega | with_reducible assumption) ?_ | refine aw_exit ?_ | refine aw_ret ?_ | (simp (decide := true) (disch := omega) only [go_sem, ↓reduceIte, ↓put_at]) | refine call_u Try.call71 (c) [] (by simp (decide := true) (disch := omega) only [go_sem, ↓reduceIte, ↓put_at]; first | done | assumption | omega) ?_ | (refine ret_s [] ?_; simp (decide := true) (disch := omega) only [go_sem, ↓reduceIte, ↓put_at]))))
end Go.Proofs.Ytdgkehoodlncmaa
