
/- Package slices at the loads of package share: put in, copied, taken out by a function. -/
import Derived.Test.YtdgkehoodlncmaaSl1
import Derived.Test.YtdgkehoodlncmaaSl2
import Derived.Test.YtdgkehoodlncmaaShM
namespace Go.Proofs.Ytdgkehoodlncmaa
open Go.RowKit
set_option linter.unusedVariables false
set_option linter.unusedSimpArgs false

theorem ovl_ld : ∀ u v w w', (Extern.SlicesOverlaps.overlaps #[134, 134] #[4] #[u, v]).run Try.prog w = .ok (.bool false) w' → (callFunc 143 #[u, v]).run Try.prog w = .ok (.value (.bool false)) w' := by
  intro u v w w' h
  rw [run_callFunc_extern (fn := Try.f143) (by kernel_rfl) (by kernel_rfl) (by kernel_rfl) (by kernel_rfl) (e := Extern.SlicesOverlaps.overlaps #[134, 134] #[4]) (by kernel_rfl), h]
  rfl
set_option maxRecDepth 100000 in
set_option maxHeartbeats 4000000 in
theorem sl_ins_ld (es : List (List V)) (v : List V) (i : Nat) (hi : i ≤ es.length) (hl : es.length < 1000000) (hsz : ∀ r ∈ es, r.length = 3) (hone : ∀ r ∈ es, ∀ y ∈ r, oneV y = true) (hv : v.length = 3) (hvo : ∀ y ∈ v, oneV y = true) :
    Spec Try.prog 119 [.ca (.hd (.rw 140 3 es)), .ca (.val (vi i)), .ca (.own 140 3 [v])] [] (.ca (.hd (.rw 140 3 (es.take i ++ v :: es.drop i)))) [] := by
  refine spec_of Try.func119 rfl Try.ntmps119 Try.results119 ⟨by decide, by simp⟩ fun C hC => ?_
  refine cap_s (0, 1) [30, 40, 60, 77] 140 3 es ⟨⟨by kernel_rfl, by rw [hC]; decide⟩, fun n h1 h2 => ?_⟩
  (repeat' ((first | refine aw_seq ?_ | refine aw_block ?_ | refine aw_reg hC (by kernel_rfl) ?_ | refine aw_regd hC Try.checked.mixed (by kernel_rfl) ?_ | refine chk_and (by kernel_rfl) ?_ | refine aw_skip ?_ | refine aw_if ?_ | refine And.intro (by first | omega | with_reducible assumption) ?_ | refine aw_exit ?_ | refine aw_ret ?_ | (simp (decide := true) (disch := omega) only [go_sem, ↓reduceIte, ↓put_at]) | refine condK_eq (fun h => ?_) (fun h => ?_) | refine condK_dec (fun h => ?_) (fun h => ?_) | refine condK_if (fun h => ?_) (fun h => ?_) | (refine ret_s [] ?_; simp (decide := true) (disch := omega) only [go_sem, ↓reduceIte, ↓put_at]))))
  · refine ⟨⟨by omega, by omega, hv, hvo⟩, ?_⟩
    (repeat' ((first | refine aw_seq ?_ | refine aw_block ?_ | refine aw_reg hC (by kernel_rfl) ?_ | refine aw_regd hC Try.checked.mixed (by kernel_rfl) ?_ | refine chk_and (by kernel_rfl) ?_ | refine aw_skip ?_ | refine aw_if ?_ | refine And.intro (by first | omega | with_reducible assumption) ?_ | refine aw_exit ?_ | refine aw_ret ?_ | (simp (decide := true) (disch := omega) only [go_sem, ↓reduceIte, ↓put_at]) | refine condK_eq (fun h => ?_) (fun h => ?_) | refine condK_dec (fun h => ?_) (fun h => ?_) | refine condK_if (fun h => ?_) (fun h => ?_) | (refine ret_s [] ?_; simp (decide := true) (disch := omega) only [go_sem, ↓reduceIte, ↓put_at]))))
    have hin : i = es.length := by omega
    rw [List.take_of_length_le (by omega), List.drop_of_length_le (by omega)]
  · generalize hZ : List.replicate ((es.length : Int) + 1 - i).toNat _ = Z
    have hZl : Z.length = es.length + 1 - i := by rw [← hZ, List.length_replicate]; omega
    rw [ins_a es Z v i hi]
    generalize hW : es.take i ++ v :: Z.drop 1 = W
    have hWl : W.length = es.length + 1 := by rw [← hW]; simp [hZl]; omega
    simp only [List.length_take, hZl]
    refine ⟨by omega, ?_⟩
    (repeat' ((first | refine aw_seq ?_ | refine aw_block ?_ | refine aw_reg hC (by kernel_rfl) ?_ | refine aw_regd hC Try.checked.mixed (by kernel_rfl) ?_ | refine chk_and (by kernel_rfl) ?_ | refine aw_skip ?_ | refine aw_if ?_ | refine And.intro (by first | omega | with_reducible assumption) ?_ | refine aw_exit ?_ | refine aw_ret ?_ | (simp (decide := true) (disch := omega) only [go_sem, ↓reduceIte, ↓put_at]) | refine condK_eq (fun h => ?_) (fun h => ?_) | refine condK_dec (fun h => ?_) (fun h => ?_) | refine condK_if (fun h => ?_) (fun h => ?_) | (refine ret_s [] ?_; simp (decide := true) (disch := omega) only [go_sem, ↓reduceIte, ↓put_at]))))
    refine ⟨⟨by omega, by omega, hv, hvo⟩, ?_⟩
    (repeat' ((first | refine aw_seq ?_ | refine aw_block ?_ | refine aw_reg hC (by kernel_rfl) ?_ | refine aw_regd hC Try.checked.mixed (by kernel_rfl) ?_ | refine chk_and (by kernel_rfl) ?_ | refine aw_skip ?_ | refine aw_if ?_ | refine And.intro (by first | omega | with_reducible assumption) ?_ | refine aw_exit ?_ | refine aw_ret ?_ | (simp (decide := true) (disch := omega) only [go_sem, ↓reduceIte, ↓put_at]) | refine condK_eq (fun h => ?_) (fun h => ?_) | refine condK_dec (fun h => ?_) (fun h => ?_) | refine condK_if (fun h => ?_) (fun h => ?_) | (refine ret_s [] ?_; simp (decide := true) (disch := omega) only [go_sem, ↓reduceIte, ↓put_at]))))
    have hD : List.take (es.length - i) (List.drop (0 + i) es) = es.drop i := by rw [Nat.zero_add, List.take_of_length_le (by rw [List.length_drop]; omega)]
    have hi1 : ((i : Int) + 1).toNat = i + 1 := by omega
    have hR : List.take (0 + (i + 1)) W ++ es.drop i ++ List.drop (0 + (i + 1) + (es.length - i)) W = es.take i ++ v :: es.drop i := by
      have e1 : List.drop (0 + (i + 1) + (es.length - i)) W = [] := List.drop_of_length_le (by omega)
      have e2 : List.take (0 + (i + 1)) W = es.take i ++ [v] := by
        have e3 : (es.take i ++ [v]).length = i + 1 := by rw [List.length_append, List.length_take]; simp; omega
        rw [← hW, Nat.zero_add, show es.take i ++ v :: Z.drop 1 = (es.take i ++ [v]) ++ Z.drop 1 by simp, List.take_append_of_le_length (by omega), List.take_of_length_le (by omega)]
      rw [e1, e2]; simp
    rw [hD, hi1]
    simp only [List.length_drop, hR]
    refine ⟨⟨by omega, by omega, fun r h => hsz r (List.mem_of_mem_drop h), fun r h => hone r (List.mem_of_mem_drop h), by omega⟩, ?_⟩
    (repeat' ((first | refine aw_seq ?_ | refine aw_block ?_ | refine aw_reg hC (by kernel_rfl) ?_ | refine aw_regd hC Try.checked.mixed (by kernel_rfl) ?_ | refine chk_and (by kernel_rfl) ?_ | refine aw_skip ?_ | refine aw_if ?_ | refine And.intro (by first | omega | with_reducible assumption) ?_ | refine aw_exit ?_ | refine aw_ret ?_ | (simp (decide := true) (disch := omega) only [go_sem, ↓reduceIte, ↓put_at]) | refine condK_eq (fun h => ?_) (fun h => ?_) | refine condK_dec (fun h => ?_) (fun h => ?_) | refine condK_if (fun h => ?_) (fun h => ?_) | (refine ret_s [] ?_; simp (decide := true) (disch := omega) only [go_sem, ↓reduceIte, ↓put_at]))))
  · have hLl : (longer es 3 ((es.length : Int) + 1).toNat).length = es.length + 1 := by rw [longer_len (by omega)]; omega
    have hLt : ∀ k, k ≤ es.length → (longer es 3 ((es.length : Int) + 1).toNat).take k = es.take k := fun k hk => by unfold longer; rw [List.take_append_of_le_length hk]
    generalize longer es 3 ((es.length : Int) + 1).toNat = Z at *
    simp only [hLl]
    refine ⟨by omega, ?_⟩
    refine ovl_s (e := 140) (sz := 3) (off := i + 1) (len := es.length - i) (es := Z) (vs := [v]) (ex := 140) (e' := 140) (2, 0) (0, 1) ovl_ld (by kernel_rfl) (by kernel_rfl) (by decide) (by simp (decide := true) (disch := omega) only [go_sem, ↓reduceIte, ↓put_at]) (by simp (decide := true) (disch := omega) only [go_sem, ↓reduceIte, ↓put_at]) (by simp) (by simp (decide := true) (disch := omega) only [go_sem, ↓reduceIte, ↓put_at]; exact ⟨by omega, by omega⟩) (by simp (decide := true) (disch := omega) only [go_sem, ↓reduceIte, ↓put_at]) (by omega) ?_
    (repeat' ((first | refine aw_seq ?_ | refine aw_block ?_ | refine aw_reg hC (by kernel_rfl) ?_ | refine aw_regd hC Try.checked.mixed (by kernel_rfl) ?_ | refine chk_and (by kernel_rfl) ?_ | refine aw_skip ?_ | refine aw_if ?_ | refine And.intro (by first | omega | with_reducible assumption) ?_ | refine aw_exit ?_ | refine aw_ret ?_ | (simp (decide := true) (disch := omega) only [go_sem, ↓reduceIte, ↓put_at]) | refine condK_eq (fun h => ?_) (fun h => ?_) | refine condK_dec (fun h => ?_) (fun h => ?_) | refine condK_if (fun h => ?_) (fun h => ?_) | (refine ret_s [] ?_; simp (decide := true) (disch := omega) only [go_sem, ↓reduceIte, ↓put_at]))))
    have hi1 : ((i : Int) + 1).toNat = i + 1 := by omega
    have hD : List.take (Z.length - (i + 1)) (List.drop (0 + i) Z) = es.drop i := by
      have := hLt es.length (Nat.le_refl _)
      rw [List.take_length] at this
      rw [hLl, Nat.zero_add, ← this, List.drop_take, List.length_take]
      congr 1; omega
    have hE : List.drop (0 + (i + 1) + (Z.length - (i + 1))) Z = [] := List.drop_of_length_le (by omega)
    rw [hi1, hD, hE]
    have hWl : (List.take (0 + (i + 1)) Z ++ es.drop i ++ []).length = es.length + 1 := by simp; omega
    have hR : List.take (0 + i) (List.take (0 + (i + 1)) Z ++ es.drop i ++ []) ++ [v] ++ List.drop (0 + i + 1) (List.take (0 + (i + 1)) Z ++ es.drop i ++ []) = es.take i ++ v :: es.drop i := by
      have h1 : (List.take (0 + (i + 1)) Z).length = i + 1 := by rw [List.length_take]; omega
      rw [List.append_nil, List.take_append_of_le_length (by omega), List.take_take, List.drop_append, List.drop_of_length_le (by omega), h1, show min (0 + i) (0 + (i + 1)) = i by omega, hLt i hi, show 0 + i + 1 - (i + 1) = 0 by omega]
      simp
    generalize List.take (0 + (i + 1)) Z ++ es.drop i ++ [] = W at *
    refine ⟨⟨by omega, by omega, by omega, fun r h => hone r (List.mem_of_mem_drop h)⟩, ?_⟩
    (repeat' ((first | refine aw_seq ?_ | refine aw_block ?_ | refine aw_reg hC (by kernel_rfl) ?_ | refine aw_regd hC Try.checked.mixed (by kernel_rfl) ?_ | refine chk_and (by kernel_rfl) ?_ | refine aw_skip ?_ | refine aw_if ?_ | refine And.intro (by first | omega | with_reducible assumption) ?_ | refine aw_exit ?_ | refine aw_ret ?_ | (simp (decide := true) (disch := omega) only [go_sem, ↓reduceIte, ↓put_at]) | refine condK_eq (fun h => ?_) (fun h => ?_) | refine condK_dec (fun h => ?_) (fun h => ?_) | refine condK_if (fun h => ?_) (fun h => ?_) | (refine ret_s [] ?_; simp (decide := true) (disch := omega) only [go_sem, ↓reduceIte, ↓put_at]))))
    rw [hR]
    refine ⟨⟨by omega, by omega, hv, hvo⟩, ?_⟩
    (repeat' ((first | refine aw_seq ?_ | refine aw_block ?_ | refine aw_reg hC (by kernel_rfl) ?_ | refine aw_regd hC Try.checked.mixed (by kernel_rfl) ?_ | refine chk_and (by kernel_rfl) ?_ | refine aw_skip ?_ | refine aw_if ?_ | refine And.intro (by first | omega | with_reducible assumption) ?_ | refine aw_exit ?_ | refine aw_ret ?_ | (simp (decide := true) (disch := omega) only [go_sem, ↓reduceIte, ↓put_at]) | refine condK_eq (fun h => ?_) (fun h => ?_) | refine condK_dec (fun h => ?_) (fun h => ?_) | refine condK_if (fun h => ?_) (fun h => ?_) | (refine ret_s [] ?_; simp (decide := true) (disch := omega) only [go_sem, ↓reduceIte, ↓put_at]))))
set_option maxRecDepth 100000 in
set_option maxHeartbeats 4000000 in
theorem sl_clone_ld (es : List (List V)) (hl : es.length < 1000000) (hsz : ∀ r ∈ es, r.length = 3) (hone : ∀ r ∈ es, ∀ y ∈ r, oneV y = true) :
    Spec Try.prog 69 [.ca (.val (.lst 3 es))] [] (.ca (.hd (.rw 140 3 es))) [] := by
  refine spec_of Try.func69 rfl Try.ntmps69 Try.results69 ⟨by decide, by simp⟩ fun C hC => ?_
  refine mark_s (5, 1) [5] ⟨by rw [hC]; decide, fun n => ?_⟩
  (repeat' ((first | refine aw_seq ?_ | refine aw_block ?_ | refine aw_reg hC (by kernel_rfl) ?_ | refine aw_regd hC Try.checked.mixed (by kernel_rfl) ?_ | refine chk_and (by kernel_rfl) ?_ | refine aw_skip ?_ | refine aw_if ?_ | refine And.intro (by first | omega | with_reducible assumption) ?_ | refine aw_exit ?_ | refine aw_ret ?_ | (simp (decide := true) (disch := omega) only [go_sem, ↓reduceIte, ↓put_at]) | refine condK_eq (fun h => ?_) (fun h => ?_) | refine condK_dec (fun h => ?_) (fun h => ?_) | refine condK_if (fun h => ?_) (fun h => ?_) | (refine ret_s [] ?_; simp (decide := true) (disch := omega) only [go_sem, ↓reduceIte, ↓put_at]))))
  refine nil_s 3 es (by simp (decide := true) (disch := omega) only [go_sem, ↓reduceIte, ↓put_at]) (by simp (decide := true) (disch := omega) only [go_sem, ↓reduceIte, ↓put_at]) (fun b hb => ?_)
  cases b with
  | true =>
    obtain rfl := hb rfl
    (repeat' ((first | refine aw_seq ?_ | refine aw_block ?_ | refine aw_reg hC (by kernel_rfl) ?_ | refine aw_regd hC Try.checked.mixed (by kernel_rfl) ?_ | refine chk_and (by kernel_rfl) ?_ | refine aw_skip ?_ | refine aw_if ?_ | refine And.intro (by first | omega | with_reducible assumption) ?_ | refine aw_exit ?_ | refine aw_ret ?_ | (simp (decide := true) (disch := omega) only [go_sem, ↓reduceIte, ↓put_at]) | refine condK_eq (fun h => ?_) (fun h => ?_) | refine condK_dec (fun h => ?_) (fun h => ?_) | refine condK_if (fun h => ?_) (fun h => ?_) | (refine ret_s [] ?_; simp (decide := true) (disch := omega) only [go_sem, ↓reduceIte, ↓put_at]))))
  | false =>
    (repeat' ((first | refine aw_seq ?_ | refine aw_block ?_ | refine aw_reg hC (by kernel_rfl) ?_ | refine aw_regd hC Try.checked.mixed (by kernel_rfl) ?_ | refine chk_and (by kernel_rfl) ?_ | refine aw_skip ?_ | refine aw_if ?_ | refine And.intro (by first | omega | with_reducible assumption) ?_ | refine aw_exit ?_ | refine aw_ret ?_ | (simp (decide := true) (disch := omega) only [go_sem, ↓reduceIte, ↓put_at]) | refine condK_eq (fun h => ?_) (fun h => ?_) | refine condK_dec (fun h => ?_) (fun h => ?_) | refine condK_if (fun h => ?_) (fun h => ?_) | (refine ret_s [] ?_; simp (decide := true) (disch := omega) only [go_sem, ↓reduceIte, ↓put_at]))))
    refine ⟨⟨by omega, by omega, hsz, hone⟩, ?_⟩
    (repeat' ((first | refine aw_seq ?_ | refine aw_block ?_ | refine aw_reg hC (by kernel_rfl) ?_ | refine aw_regd hC Try.checked.mixed (by kernel_rfl) ?_ | refine chk_and (by kernel_rfl) ?_ | refine aw_skip ?_ | refine aw_if ?_ | refine And.intro (by first | omega | with_reducible assumption) ?_ | refine aw_exit ?_ | refine aw_ret ?_ | (simp (decide := true) (disch := omega) only [go_sem, ↓reduceIte, ↓put_at]) | refine condK_eq (fun h => ?_) (fun h => ?_) | refine condK_dec (fun h => ?_) (fun h => ?_) | refine condK_if (fun h => ?_) (fun h => ?_) | (refine ret_s [] ?_; simp (decide := true) (disch := omega) only [go_sem, ↓reduceIte, ↓put_at]))))
theorem idxF_ge {α : Type} (q : α → Bool) : ∀ (xs : List α) (k : Nat) (hk : k < xs.length), q xs[k] = true → 0 ≤ idxF q xs
  | x :: xs, k, hk, h => by
    simp only [idxF]
    split
    · omega
    · rename_i hne
      cases k with
      | zero => exact absurd h hne
      | succ k =>
        have := idxF_ge q xs k (by simpa using hk) (by simpa using h)
        split <;> omega
set_option maxRecDepth 100000 in
set_option maxHeartbeats 4000000 in
theorem sl_delf (xs : List Ld) (z : V) (K : FuncId) (hK : ∀ args w, (callFunc K args).run Try.prog w = .ok (.enter K args) w) (q : Ld → Bool) (hl : xs.length ≤ 1000000)
    (hc : ∀ x ∈ xs, Spec Try.prog K [.ca (.val (.agg (ldEl x))), .ca (.val (.ep [z]))] [] (.ca (.val (vb (q x)))) []) :
    Spec Try.prog 68 [.ca (.hd (.rw 140 3 (xs.map ldEl))), .fn K [.ptr 0 0]] [[.val z]] (.ca (.hd (.rw 140 3 ((xs.filter fun x => !q x).map ldEl)))) [[.val z]] := by
  have ci := sl_index xs (.ep [z]) K hK q hl hc
  rcases idxF_lt q xs with hi | ⟨h1, h2, h3, h4⟩
  · have hno : ∀ x ∈ xs, q x = false := fun x hx => by
      cases hq : q x with
      | false => rfl
      | true =>
        obtain ⟨k, hk, rfl⟩ := List.mem_iff_getElem.1 hx
        have := idxF_ge q xs k hk hq
        omega
    have hf : xs.filter (fun x => !q x) = xs := List.filter_eq_self.2 fun x hx => by rw [hno x hx]; rfl
    have hn1 := idxF_none q xs hno
    rw [hn1] at ci
    rw [hf]
    refine spec_of Try.func68 rfl Try.ntmps68 Try.results68 ⟨by decide, by simp⟩ fun C hC => ?_
    (repeat' ((first | refine aw_seq ?_ | refine aw_block ?_ | refine aw_reg hC (by kernel_rfl) ?_ | refine aw_regd hC Try.checked.mixed (by kernel_rfl) ?_ | refine chk_and (by kernel_rfl) ?_ | refine aw_skip ?_ | refine aw_if ?_ | refine And.intro (by first | omega | with_reducible assumption) ?_ | refine aw_exit ?_ | refine aw_ret ?_ | (simp (decide := true) (disch := omega) only [go_sem, ↓reduceIte, ↓put_at]) | refine pcall_u Try.call120 (ci) (by simp (decide := true) (disch := omega) only [go_sem, ↓reduceIte, ↓put_at]; first | done | assumption | omega) ?_ | (refine ret_s [] ?_; simp (decide := true) (disch := omega) only [go_sem, ↓reduceIte, ↓put_at]))))
  · obtain ⟨n, hn⟩ : ∃ n : Nat, idxF q xs = n := ⟨_, h3⟩
    have e : (idxF q xs).toNat = n := by omega
    simp only [e] at h1 h2 h4
    rw [hn] at ci
    clear h3
    have hl2 : xs.length < 9223372036854775807 := by omega
    refine spec_of Try.func68 rfl Try.ntmps68 Try.results68 ⟨by decide, by simp⟩ fun C hC => ?_
    (repeat' ((fail_if_success (refine stop_reg 5 ?_)); (first | refine aw_seq ?_ | refine aw_block ?_ | refine aw_reg hC (by kernel_rfl) ?_ | refine aw_regd hC Try.checked.mixed (by kernel_rfl) ?_ | refine chk_and (by kernel_rfl) ?_ | refine aw_skip ?_ | refine aw_if ?_ | refine And.intro (by first | omega | with_reducible assumption) ?_ | refine aw_exit ?_ | refine aw_ret ?_ | (simp (decide := true) (disch := omega) only [go_sem, ↓reduceIte, ↓put_at]) | refine pcall_u Try.call120 (ci) (by simp (decide := true) (disch := omega) only [go_sem, ↓reduceIte, ↓put_at]; first | done | assumption | omega) ?_ | (refine ret_s [] ?_; simp (decide := true) (disch := omega) only [go_sem, ↓reduceIte, ↓put_at]))))
    refine loop_s (α := {x : Nat × Nat × List Ld // x.1 < x.2.1 ∧ x.2.1 ≤ xs.length ∧ x.2.2.length = xs.length ∧ x.2.2.take x.1 = (xs.take x.2.1).filter (fun y => !q y) ∧ x.2.2.drop x.2.1 = xs.drop x.2.1}) (fun x => [(.r (0, 1), .tree (.rw 140 3 (x.1.2.2.map ldEl))), (.s 0, .av (.ref (0, 1) 0)), (.o (1000, 0), .num 1), (.c (1000, 0) 0, .av (.val z)), (.s 1, .av (.fn K [.ptr (1000, 0) 0 0])), (.s 4, .av (.val (.sc (.slice none 0 0)))), (.s 5, .av (.val (vi x.1.1))), (.s 6, .av (.val (vi x.1.2.1)))]) (fun x => xs.length - x.1.2.1) ⟨(n, n + 1, xs), by dsimp only; omega, by dsimp only; omega, rfl, ?_, rfl⟩ ?_ (fun x => ?_)
    · dsimp only
      rw [← List.take_append_getElem h1, List.filter_append, List.filter_eq_self.2 fun y hy => ?_]
      · simp [h2]
      · obtain ⟨k, hk, rfl⟩ := List.mem_iff_getElem.1 hy
        rw [List.getElem_take]
        simp at hk
        rw [h4 k (by omega)]; rfl
    · simp (decide := true) (disch := omega) only [go_sem, ↓reduceIte, ↓put_at]
    · obtain ⟨⟨i, j, Z⟩, g1, g2, g3, g4, g5⟩ := x
      dsimp only at g1 g2 g3 g4 g5 ⊢
      by_cases hlt : j < xs.length
      · have hZj : j < Z.length := by omega
        have hge : (Z.map ldEl).getD j [] = ldEl Z[j] := by simp [hZj]
        have hzx : Z[j] = xs[j] := by
          have := congrArg (fun l => l[0]?) g5
          simpa [hlt, hZj] using this
        have hcj := hc _ (List.getElem_mem hlt)
        rw [← hzx] at hcj
        (repeat' ((first | refine aw_seq ?_ | refine aw_block ?_ | refine aw_reg hC (by kernel_rfl) ?_ | refine aw_regd hC Try.checked.mixed (by kernel_rfl) ?_ | refine chk_and (by kernel_rfl) ?_ | refine aw_skip ?_ | refine aw_if ?_ | refine And.intro (by first | omega | with_reducible assumption) ?_ | refine aw_exit ?_ | refine aw_ret ?_ | (simp (decide := true) (disch := omega) only [go_sem, ↓reduceIte, ↓put_at]) | (refine ret_s [] ?_; simp (decide := true) (disch := omega) only [go_sem, ↓reduceIte, ↓put_at]))))
        refine pfcall_u hK [.ptr (1000, 0) 0 0] hcj (by simp (decide := true) (disch := omega) only [go_sem, ↓reduceIte, ↓put_at]) ?_
        have hdr : Z.drop (j + 1) = xs.drop (j + 1) := by rw [← List.drop_drop, ← List.drop_drop, g5]
        have htk : (xs.take (j + 1)).filter (fun y => !q y) = (xs.take j).filter (fun y => !q y) ++ [xs[j]].filter (fun y => !q y) := by rw [← List.take_append_getElem hlt, List.filter_append]
        cases hq : q Z[j] with
        | true =>
          have hq2 := hq
          rw [hzx] at hq2
          (repeat' ((first | refine aw_seq ?_ | refine aw_block ?_ | refine aw_reg hC (by kernel_rfl) ?_ | refine aw_regd hC Try.checked.mixed (by kernel_rfl) ?_ | refine chk_and (by kernel_rfl) ?_ | refine aw_skip ?_ | refine aw_if ?_ | refine And.intro (by first | omega | with_reducible assumption) ?_ | refine aw_exit ?_ | refine aw_ret ?_ | (simp (decide := true) (disch := omega) only [go_sem, ↓reduceIte, ↓put_at]) | (refine ret_s [] ?_; simp (decide := true) (disch := omega) only [go_sem, ↓reduceIte, ↓put_at]))))
          refine next_s (α := {x : Nat × Nat × List Ld // x.1 < x.2.1 ∧ x.2.1 ≤ xs.length ∧ x.2.2.length = xs.length ∧ x.2.2.take x.1 = (xs.take x.2.1).filter (fun y => !q y) ∧ x.2.2.drop x.2.1 = xs.drop x.2.1}) ⟨(i, j + 1, Z), by dsimp only; omega, hlt, g3, by dsimp only; rw [htk, g4]; simp [hq2], hdr⟩ ⟨?_, ?_⟩
          · simp (decide := true) (disch := omega) only [go_sem, ↓reduceIte, ↓put_at]
          · (try dsimp only)
            omega
        | false =>
          have hq2 := hq
          rw [hzx] at hq2
          have hiz : i < Z.length := by omega
          (repeat' ((first | refine aw_seq ?_ | refine aw_block ?_ | refine aw_reg hC (by kernel_rfl) ?_ | refine aw_regd hC Try.checked.mixed (by kernel_rfl) ?_ | refine chk_and (by kernel_rfl) ?_ | refine aw_skip ?_ | refine aw_if ?_ | refine And.intro (by first | omega | with_reducible assumption) ?_ | refine aw_exit ?_ | refine aw_ret ?_ | (simp (decide := true) (disch := omega) only [go_sem, ↓reduceIte, ↓put_at]) | (refine ret_s [] ?_; simp (decide := true) (disch := omega) only [go_sem, ↓reduceIte, ↓put_at]))))
          refine next_s (α := {x : Nat × Nat × List Ld // x.1 < x.2.1 ∧ x.2.1 ≤ xs.length ∧ x.2.2.length = xs.length ∧ x.2.2.take x.1 = (xs.take x.2.1).filter (fun y => !q y) ∧ x.2.2.drop x.2.1 = xs.drop x.2.1}) ⟨(i + 1, j + 1, Z.set i Z[j]), by dsimp only; omega, hlt, by simpa using g3, ?_, ?_⟩ ⟨?_, ?_⟩
          · dsimp only
            rw [htk, ← g4, List.take_set, ← List.take_append_getElem hiz, List.set_append_right _ _ (by rw [List.length_take]; omega), List.length_take]
            simp [hq2, show i - min i Z.length = 0 by omega, hzx]
          · dsimp only
            rw [List.drop_set_of_lt (by omega)]; exact hdr
          · simp (decide := true) (disch := omega) only [go_sem, ↓reduceIte, ↓put_at]
            rw [List.map_set]; rfl
          · (try dsimp only)
            omega
      · obtain rfl : j = xs.length := by omega
        rw [List.take_length] at g4
        have hZi : i ≤ Z.length := by omega
        (repeat' ((fail_if_success (first | refine stop_at 12 ?_ | refine stop_l 12 ?_)); (first | refine aw_seq ?_ | refine aw_block ?_ | refine aw_reg hC (by kernel_rfl) ?_ | refine aw_regd hC Try.checked.mixed (by kernel_rfl) ?_ | refine chk_and (by kernel_rfl) ?_ | refine aw_skip ?_ | refine aw_if ?_ | refine And.intro (by first | omega | with_reducible assumption) ?_ | refine aw_exit ?_ | refine aw_ret ?_ | (simp (decide := true) (disch := omega) only [go_sem, ↓reduceIte, ↓put_at]) | (refine ret_s [] ?_; simp (decide := true) (disch := omega) only [go_sem, ↓reduceIte, ↓put_at]))))
        refine aw_seq ?_
        refine aw_reg hC (by kernel_rfl) ?_
        simp (decide := true) (disch := omega) only [go_sem, ↓reduceIte, ↓put_at]
        have hT : (List.take (0 + i) (Z.map ldEl) ++ List.replicate (Z.length - i) [vi 0, vi 0, vi 0] ++ List.drop (0 + i + (Z.length - i)) (Z.map ldEl)).take i = (xs.filter fun x => !q x).map ldEl := by
          have h1 : (List.take i (Z.map ldEl)).length = i := by rw [List.length_take, List.length_map]; omega
          rw [Nat.zero_add, List.append_assoc, List.take_append_of_le_length (by omega), List.take_of_length_le (by omega), ← g4, List.map_take]
        have hWl : (List.take (0 + i) (Z.map ldEl) ++ List.replicate (Z.length - i) [vi 0, vi 0, vi 0] ++ List.drop (0 + i + (Z.length - i)) (Z.map ldEl)).length = Z.length := by simp; omega
        have hWl2 := hWl
        simp only [List.length_append, List.length_replicate] at hWl2
        simp only [List.length_replicate]
        refine ⟨by omega, ?_⟩
        generalize List.take (0 + i) (Z.map ldEl) ++ List.replicate (Z.length - i) [vi 0, vi 0, vi 0] ++ List.drop (0 + i + (Z.length - i)) (Z.map ldEl) = W at hT hWl ⊢
        refine shr_s 4 (0, 1) i 140 3 W ⟨⟨by kernel_rfl, by kernel_rfl, by omega, by rw [hC]; decide⟩, ?_⟩
        rw [hT]
        (repeat' ((first | refine aw_seq ?_ | refine aw_block ?_ | refine aw_reg hC (by kernel_rfl) ?_ | refine aw_regd hC Try.checked.mixed (by kernel_rfl) ?_ | refine chk_and (by kernel_rfl) ?_ | refine aw_skip ?_ | refine aw_if ?_ | refine And.intro (by first | omega | with_reducible assumption) ?_ | refine aw_exit ?_ | refine aw_ret ?_ | (simp (decide := true) (disch := omega) only [go_sem, ↓reduceIte, ↓put_at]) | (refine ret_s [] ?_; simp (decide := true) (disch := omega) only [go_sem, ↓reduceIte, ↓put_at]))))
end Go.Proofs.Ytdgkehoodlncmaa
