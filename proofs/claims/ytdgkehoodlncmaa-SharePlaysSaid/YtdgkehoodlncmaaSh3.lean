
/- Package share, walked: carried, picked. -/
import Derived.Test.YtdgkehoodlncmaaSh2
namespace Go.Proofs.Ytdgkehoodlncmaa
open Go.RowKit
set_option linter.unusedVariables false
set_option linter.unusedSimpArgs false

set_option maxRecDepth 100000 in
set_option maxHeartbeats 4000000 in
theorem s_carry (l : List Ld) (hl : l.length ≤ 1000000) (p n : Int) (hb : ∀ x ∈ l, 0 ≤ x.b ∧ x.b ≤ 1099511627776) : Spec Try.prog 23 [.ptr 0 0, .ca (.val (vi p)), .ca (.val (vi n))] [shL l] (.ca (.val (vb (carryF l p n).2))) [shL (carryF l p n).1] := by
  have c := s_at l hl p
  rcases idxF_lt (fun x => decide (x.p = p)) l with hi | ⟨h1, h2, h3, h4⟩
  · have e : carryF l p n = (l, false) := by unfold carryF; dsimp only; rw [if_pos hi]
    rw [e]
    generalize idxF (fun x => decide (x.p = p)) l = r at *
    refine spec_of Try.func23 rfl Try.ntmps23 Try.results23 ⟨by decide, by simp⟩ fun C hC => ?_
    (repeat' ((first | refine aw_seq ?_ | refine aw_block ?_ | refine aw_reg hC (by kernel_rfl) ?_ | refine aw_regd hC Try.checked.mixed (by kernel_rfl) ?_ | refine chk_and (by kernel_rfl) ?_ | refine aw_skip ?_ | refine aw_if ?_ | refine And.intro (by first | omega | with_reducible assumption) ?_ | refine aw_exit ?_ | refine aw_ret ?_ | (simp (decide := true) (disch := omega) only [go_sem, ↓reduceIte, ↓put_at]) | refine pcall_u Try.call74 (c) (by simp (decide := true) (disch := omega) only [go_sem, ↓reduceIte, ↓put_at]; first | done | assumption | omega) ?_ | (refine ret_s [] ?_; simp (decide := true) (disch := omega) only [go_sem, ↓reduceIte, ↓put_at]))))
  · have e : carryF l p n = (l.modify (idxF (fun x => decide (x.p = p)) l).toNat fun x => { x with b := x.b + carN n }, true) := by unfold carryF; dsimp only; rw [if_neg (by omega)]
    rw [e]
    obtain ⟨i, hi⟩ : ∃ i : Nat, idxF (fun x => decide (x.p = p)) l = i := ⟨_, h3⟩
    have e : (idxF (fun x => decide (x.p = p)) l).toNat = i := by omega
    simp only [e] at h1 h2 h4 ⊢
    rw [hi] at c
    clear h3
    have hge : (l.map ldEl).getD i [] = ldEl l[i] := by simp [h1]
    obtain ⟨b1, b2⟩ := hb _ (List.getElem_mem h1)
    have hm : (l.modify i fun x => { x with b := x.b + carN n }) = l.set i { l[i] with b := l[i].b + carN n } := by
      apply List.ext_getElem
      · simp
      · intro k k1 k2
        rw [List.getElem_modify, List.getElem_set]
        split
        · rename_i h; subst h; rfl
        · rfl
    rw [hm]
    unfold carN
    refine spec_of Try.func23 rfl Try.ntmps23 Try.results23 ⟨by decide, by simp⟩ fun C hC => ?_
    (repeat' ((first | refine aw_seq ?_ | refine aw_block ?_ | refine aw_reg hC (by kernel_rfl) ?_ | refine aw_regd hC Try.checked.mixed (by kernel_rfl) ?_ | refine chk_and (by kernel_rfl) ?_ | refine aw_skip ?_ | refine aw_if ?_ | refine And.intro (by first | omega | with_reducible assumption) ?_ | refine aw_exit ?_ | refine aw_ret ?_ | (simp (decide := true) (disch := omega) only [go_sem, ↓reduceIte, ↓put_at]) | refine pcall_u Try.call74 (c) (by simp (decide := true) (disch := omega) only [go_sem, ↓reduceIte, ↓put_at]; first | done | assumption | omega) ?_ | (refine ret_s [] ?_; simp (decide := true) (disch := omega) only [go_sem, ↓reduceIte, ↓put_at]))))
    rw [List.map_set]; rfl
set_option maxRecDepth 100000 in
set_option maxHeartbeats 4000000 in
theorem s_carried (l : List Ld) (hl : l.length ≤ 1000000) (p : Int) : Spec Try.prog 25 [.ca (.val (.ep (shV l))), .ca (.val (vi p))] [] (.ca (.val (vi (carF l p)))) [] := by
  have c := s_at l hl p
  unfold carF
  dsimp only
  rcases idxF_lt (fun x => decide (x.p = p)) l with hi | ⟨h1, h2, h3, h4⟩
  · rw [if_pos hi]
    generalize idxF (fun x => decide (x.p = p)) l = r at *
    refine spec_of Try.func25 rfl Try.ntmps25 Try.results25 ⟨by decide, by simp⟩ fun C hC => ?_
    (repeat' ((first | refine aw_seq ?_ | refine aw_block ?_ | refine aw_reg hC (by kernel_rfl) ?_ | refine aw_regd hC Try.checked.mixed (by kernel_rfl) ?_ | refine chk_and (by kernel_rfl) ?_ | refine aw_skip ?_ | refine aw_if ?_ | refine And.intro (by first | omega | with_reducible assumption) ?_ | refine aw_exit ?_ | refine aw_ret ?_ | (simp (decide := true) (disch := omega) only [go_sem, ↓reduceIte, ↓put_at]) | refine pcall_u Try.call74 (c) (by simp (decide := true) (disch := omega) only [go_sem, ↓reduceIte, ↓put_at]; first | done | assumption | omega) ?_ | (refine ret_s [] ?_; simp (decide := true) (disch := omega) only [go_sem, ↓reduceIte, ↓put_at]))))
  · rw [if_neg (by omega)]
    obtain ⟨i, hi⟩ : ∃ i : Nat, idxF (fun x => decide (x.p = p)) l = i := ⟨_, h3⟩
    have e : (idxF (fun x => decide (x.p = p)) l).toNat = i := by omega
    simp only [e] at h1 h2 h4 ⊢
    rw [hi] at c
    clear h3
    have hge : (l.map ldEl).getD i [] = ldEl l[i] := by simp [h1]
    have hge2 : ((l[i]?).map (·.b)).getD 0 = l[i].b := by simp [h1]
    rw [hge2]
    refine spec_of Try.func25 rfl Try.ntmps25 Try.results25 ⟨by decide, by simp⟩ fun C hC => ?_
    (repeat' ((first | refine aw_seq ?_ | refine aw_block ?_ | refine aw_reg hC (by kernel_rfl) ?_ | refine aw_regd hC Try.checked.mixed (by kernel_rfl) ?_ | refine chk_and (by kernel_rfl) ?_ | refine aw_skip ?_ | refine aw_if ?_ | refine And.intro (by first | omega | with_reducible assumption) ?_ | refine aw_exit ?_ | refine aw_ret ?_ | (simp (decide := true) (disch := omega) only [go_sem, ↓reduceIte, ↓put_at]) | refine pcall_u Try.call74 (c) (by simp (decide := true) (disch := omega) only [go_sem, ↓reduceIte, ↓put_at]; first | done | assumption | omega) ?_ | (refine ret_s [] ?_; simp (decide := true) (disch := omega) only [go_sem, ↓reduceIte, ↓put_at]))))
theorem tot_snoc (l : List Ld) (x : Ld) : totF (l ++ [x]) = totF l + x.b := by unfold totF; simp
theorem tot_bd (B : Int) : ∀ l : List Ld, (∀ x ∈ l, 0 ≤ x.b ∧ x.b ≤ B) → 0 ≤ totF l ∧ totF l ≤ l.length * B := by
  intro l
  induction l with
  | nil => intro _; simp [totF]
  | cons x xs ih =>
    intro h
    have h1 := h x (List.mem_cons_self ..)
    have h2 := ih fun y hy => h y (List.mem_cons_of_mem _ hy)
    have e : totF (x :: xs) = x.b + totF xs := by simp [totF]
    rw [e]
    simp only [List.length_cons]
    have : ((xs.length + 1 : Nat) : Int) * B = xs.length * B + B := by rw [Int.natCast_add, Int.add_mul]; simp
    omega
set_option maxRecDepth 100000 in
set_option maxHeartbeats 4000000 in
theorem s_total (l : List Ld) (hl : l.length ≤ 15) (hb : ∀ x ∈ l, 0 ≤ x.b ∧ x.b ≤ 1099511627776) : Spec Try.prog 24 [.ca (.val (.ep (shV l)))] [] (.ca (.val (vi (totF l)))) [] := by
  refine spec_of Try.func24 rfl Try.ntmps24 Try.results24 ⟨by decide, by simp⟩ fun C hC => ?_
  (repeat' ((fail_if_success (refine stop_reg 3 ?_)); (first | refine aw_seq ?_ | refine aw_block ?_ | refine aw_reg hC (by kernel_rfl) ?_ | refine aw_regd hC Try.checked.mixed (by kernel_rfl) ?_ | refine chk_and (by kernel_rfl) ?_ | refine aw_skip ?_ | refine aw_if ?_ | refine And.intro (by first | omega | with_reducible assumption) ?_ | refine aw_exit ?_ | refine aw_ret ?_ | (simp (decide := true) (disch := omega) only [go_sem, ↓reduceIte, ↓put_at]) | (refine ret_s [] ?_; simp (decide := true) (disch := omega) only [go_sem, ↓reduceIte, ↓put_at]))))
  refine loop_s (α := {j : Nat // j ≤ l.length}) (fun j => [(.s 2, .av (.val (vi 0))), (.s 3, .av (.val (vi (totF (l.take j.1))))), (.s 9, .av (.val (.lst 3 (l.map ldEl)))), (.s 10, .av (.val (vi l.length))), (.s 11, .av (.val (vi j.1)))]) (fun j => l.length - j.1) ⟨0, Nat.zero_le _⟩ ?_ (fun j => ?_)
  · simp (decide := true) (disch := omega) only [go_sem, ↓reduceIte, ↓put_at]
  · obtain ⟨j, hj⟩ := j
    dsimp only at hj ⊢
    by_cases hlt : j < l.length
    · have hge : (l.map ldEl).getD j [] = ldEl l[j] := by simp [hlt]
      obtain ⟨b1, b2⟩ := hb _ (List.getElem_mem hlt)
      have hbd := tot_bd 1099511627776 (l.take j) fun x hx => hb x (List.mem_of_mem_take hx)
      rw [List.length_take] at hbd
      have hnx : totF (l.take (j + 1)) = totF (l.take j) + l[j].b := by rw [← List.take_append_getElem hlt, tot_snoc]
      generalize totF (l.take j) = t0 at *
      have : t0 ≤ 16492674416640 := by omega
      (repeat' ((first | refine aw_seq ?_ | refine aw_block ?_ | refine aw_reg hC (by kernel_rfl) ?_ | refine aw_regd hC Try.checked.mixed (by kernel_rfl) ?_ | refine chk_and (by kernel_rfl) ?_ | refine aw_skip ?_ | refine aw_if ?_ | refine And.intro (by first | omega | with_reducible assumption) ?_ | refine aw_exit ?_ | refine aw_ret ?_ | (simp (decide := true) (disch := omega) only [go_sem, ↓reduceIte, ↓put_at]) | (refine ret_s [] ?_; simp (decide := true) (disch := omega) only [go_sem, ↓reduceIte, ↓put_at]))))
      refine next_s (α := {j : Nat // j ≤ l.length}) ⟨j + 1, hlt⟩ ⟨?_, ?_⟩
      · (try dsimp only)
        rw [hnx]
        simp (decide := true) (disch := omega) only [go_sem, ↓reduceIte, ↓put_at]
      · (try dsimp only)
        omega
    · obtain rfl : j = l.length := by omega
      rw [List.take_length]
      (repeat' ((first | refine aw_seq ?_ | refine aw_block ?_ | refine aw_reg hC (by kernel_rfl) ?_ | refine aw_regd hC Try.checked.mixed (by kernel_rfl) ?_ | refine chk_and (by kernel_rfl) ?_ | refine aw_skip ?_ | refine aw_if ?_ | refine And.intro (by first | omega | with_reducible assumption) ?_ | refine aw_exit ?_ | refine aw_ret ?_ | (simp (decide := true) (disch := omega) only [go_sem, ↓reduceIte, ↓put_at]) | (refine ret_s [] ?_; simp (decide := true) (disch := omega) only [go_sem, ↓reduceIte, ↓put_at]))))
set_option maxRecDepth 100000 in
set_option maxHeartbeats 4000000 in
theorem s_pick {B : Int} (l : List Ld) (hl : ShOk B l) (hB : B ≤ 1099511627776) (may : List Int) (hm : may.length ≤ 1000000) : Spec Try.prog 22 [.ca (.val (.ep (shV l))), .ca (.val (.lst 1 (may.map iRow)))] [] (.ca (.val (.tup [vi (pickF l may).1, vb (pickF l may).2]))) [] := by
  have hf := hl.few
  have c1 := sl_clone_ld (l.map ldEl) (by rw [List.length_map]; omega) (ld_len _) (ld_one _)
  have c2 := sl_delf l (.lst 1 (may.map iRow)) 70 Try.call70 (fun x => !decide (x.p ∈ may)) (by omega) (fun x _ => sh_p1 x may hm)
  have e : (l.filter fun x => !(!decide (x.p ∈ may))) = l.filter fun x => decide (x.p ∈ may) := List.filter_congr fun x _ => by simp
  rw [e] at c2
  have hmem : ∀ x ∈ (l.filter fun x => decide (x.p ∈ may)), x ∈ l := fun x hx => (List.mem_filter.1 hx).1
  have hfl := List.length_filter_le (fun x : Ld => decide (x.p ∈ may)) l
  unfold pickF
  generalize hcan : (l.filter fun x => decide (x.p ∈ may)) = can at *
  cases can with
  | nil =>
    refine spec_of Try.func22 rfl Try.ntmps22 Try.results22 ⟨by decide, by simp⟩ fun C hC => ?_
    (repeat' ((first | refine aw_seq ?_ | refine aw_block ?_ | refine aw_reg hC (by kernel_rfl) ?_ | refine aw_regd hC Try.checked.mixed (by kernel_rfl) ?_ | refine chk_and (by kernel_rfl) ?_ | refine aw_skip ?_ | refine aw_if ?_ | refine And.intro (by first | omega | with_reducible assumption) ?_ | refine aw_exit ?_ | refine aw_ret ?_ | (simp (decide := true) (disch := omega) only [go_sem, ↓reduceIte, ↓put_at]) | refine pcallT_u Try.call69 (c1) ((ld_flat l)) (by simp (decide := true) (disch := omega) only [go_sem, ↓reduceIte, ↓put_at]; first | done | assumption | omega) ?_ | refine call_u Try.call68 (c2) [(3, 0)] (by simp (decide := true) (disch := omega) only [go_sem, ↓reduceIte, ↓put_at]; first | done | assumption | omega) ?_ | (refine ret_s [] ?_; simp (decide := true) (disch := omega) only [go_sem, ↓reduceIte, ↓put_at]))))
  | cons y ys =>
    have c3 := sl_min y ys 73 Try.call73 cmpL (by simp at hfl; omega) (fun x hx z hz => by
      have h1 := hl.ok _ (hmem x hx)
      have h2 := hl.ok _ (hmem z hz)
      have key : ∀ a b : Int, 0 ≤ a → a ≤ 1099511627776 → 1 ≤ b → b ≤ 65535 → 0 ≤ a * b ∧ a * b ≤ 4611686018427387904 := fun a b q1 q2 q3 q4 => by
        refine ⟨Int.mul_nonneg q1 (by omega), ?_⟩
        have := Int.mul_le_mul q2 q4 (by omega) (by omega : (0 : Int) ≤ 1099511627776)
        omega
      exact sh_cmp x z (key _ _ h1.2.2.1 (by omega) h2.1 h2.2.1) (key _ _ h2.2.2.1 (by omega) h1.1 h1.2.1))
    dsimp only
    generalize minF cmpL y ys = m at *
    refine spec_of Try.func22 rfl Try.ntmps22 Try.results22 ⟨by decide, by simp⟩ fun C hC => ?_
    (repeat' ((first | refine aw_seq ?_ | refine aw_block ?_ | refine aw_reg hC (by kernel_rfl) ?_ | refine aw_regd hC Try.checked.mixed (by kernel_rfl) ?_ | refine chk_and (by kernel_rfl) ?_ | refine aw_skip ?_ | refine aw_if ?_ | refine And.intro (by first | omega | with_reducible assumption) ?_ | refine aw_exit ?_ | refine aw_ret ?_ | (simp (decide := true) (disch := omega) only [go_sem, ↓reduceIte, ↓put_at]) | refine pcallT_u Try.call69 (c1) ((ld_flat l)) (by simp (decide := true) (disch := omega) only [go_sem, ↓reduceIte, ↓put_at]; first | done | assumption | omega) ?_ | refine call_u Try.call68 (c2) [(3, 0)] (by simp (decide := true) (disch := omega) only [go_sem, ↓reduceIte, ↓put_at]; first | done | assumption | omega) ?_ | refine pcall_u Try.call72 (c3) (by simp (decide := true) (disch := omega) only [go_sem, ↓reduceIte, ↓put_at]; first | done | assumption | omega) ?_ | (refine ret_s [] ?_; simp (decide := true) (disch := omega) only [go_sem, ↓reduceIte, ↓put_at]))))
    refine fld_s 42 0 _ [vi m.p, vi m.w, vi m.b] (.agg [vi m.p, vi m.w]) (by kernel_rfl) ti42 (by simp (decide := true) (disch := omega) only [go_sem, ↓reduceIte, ↓put_at]) rfl ?_
    (repeat' ((first | refine aw_seq ?_ | refine aw_block ?_ | refine aw_reg hC (by kernel_rfl) ?_ | refine aw_regd hC Try.checked.mixed (by kernel_rfl) ?_ | refine chk_and (by kernel_rfl) ?_ | refine aw_skip ?_ | refine aw_if ?_ | refine And.intro (by first | omega | with_reducible assumption) ?_ | refine aw_exit ?_ | refine aw_ret ?_ | (simp (decide := true) (disch := omega) only [go_sem, ↓reduceIte, ↓put_at]) | (refine ret_s [] ?_; simp (decide := true) (disch := omega) only [go_sem, ↓reduceIte, ↓put_at]))))
    refine fld_s 3 0 _ [vi m.p, vi m.w] (vi m.p) (by kernel_rfl) ti3 (by simp (decide := true) (disch := omega) only [go_sem, ↓reduceIte, ↓put_at]) rfl ?_
    (repeat' ((first | refine aw_seq ?_ | refine aw_block ?_ | refine aw_reg hC (by kernel_rfl) ?_ | refine aw_regd hC Try.checked.mixed (by kernel_rfl) ?_ | refine chk_and (by kernel_rfl) ?_ | refine aw_skip ?_ | refine aw_if ?_ | refine And.intro (by first | omega | with_reducible assumption) ?_ | refine aw_exit ?_ | refine aw_ret ?_ | (simp (decide := true) (disch := omega) only [go_sem, ↓reduceIte, ↓put_at]) | (refine ret_s [] ?_; simp (decide := true) (disch := omega) only [go_sem, ↓reduceIte, ↓put_at]))))
end Go.Proofs.Ytdgkehoodlncmaa
