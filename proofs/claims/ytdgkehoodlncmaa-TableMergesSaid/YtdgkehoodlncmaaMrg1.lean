
/- Package table: taken away, merged; the document's tables; walked. -/
import Derived.Test.YtdgkehoodlncmaaTab2
import Derived.Test.YtdgkehoodlncmaaMrgM
namespace Go.Proofs.Ytdgkehoodlncmaa
open Go.RowKit
set_option linter.unusedVariables false
set_option linter.unusedSimpArgs false

set_option maxRecDepth 100000 in
theorem eqr16_ (a1 b1 : Int) (a2 b2 : Bool) (a3 b3 : Int) (w : World) : (binOp .eql 26 (.agg [.int .i64 a1, .bool a2, .int .i64 a3].toArray) (.agg [.int .i64 b1, .bool b2, .int .i64 b3].toArray)).run Try.prog w = .ok (.bool (decide (a1 = b1 ∧ a2 = b2 ∧ a3 = b3))) w := by
  by_cases h1 : a1 = b1
  · by_cases h2 : a2 = b2
    · by_cases h3 : a3 = b3
      · subst h1 h2 h3; simp [go_sem]
      · simp [go_sem, h1, h2, h3]
    · have e : (a2 == b2) = false := by cases a2 <;> cases b2 <;> simp_all
      simp [go_sem, h1, h2, e]
  · simp [go_sem, h1]
set_option maxRecDepth 100000 in
set_option maxHeartbeats 4000000 in
theorem t_drop (t : Tb) (ht : TbOk t) (id : Int) (hv : -1000000000 ≤ t.ver ∧ t.ver ≤ 1000000000) : Spec Try.prog 82 [.ptr 0 0, .ca (.val (vi id))] [tbL t] (.ca (.val (vb (tDrop t id).2))) [tbL (tDrop t id).1] := by
  have c := t_find t ht id
  have hf := ht.few
  obtain ⟨hv1, hv2⟩ := hv
  cases hh : hasP t.l id with
  | true =>
    have hT : tDrop t id = ({ t with ver := t.ver + 1, l := t.l.filter fun e => decide (e.id ≠ id) }, true) := by unfold tDrop; rw [if_pos hh]
    obtain ⟨hlt, hid⟩ := has_at ht.up hh
    have c2 := sl_del_ten (t.l.map enEl) (atP t.l id) (atP t.l id + 1) (by omega) (by rw [List.length_map]; omega) (by simp; omega) (en_len _) (en_one _)
    have e : (t.l.map enEl).take (atP t.l id) ++ (t.l.map enEl).drop (atP t.l id + 1) = (t.l.filter fun e => decide (e.id ≠ id)).map enEl := by rw [← drop_del ht.up hh, List.map_append, List.map_take, List.map_drop]
    rw [e, cast_s] at c2
    rw [hh] at c
    rw [hT]
    generalize t.l.filter (fun e => decide (e.id ≠ id)) = L2 at *
    generalize atP t.l id = A at *
    refine spec_of Try.func82 rfl Try.ntmps82 Try.results82 ⟨by decide, by simp⟩ fun C hC => ?_
    (repeat' ((first | refine aw_seq ?_ | refine aw_block ?_ | refine aw_reg hC (by kernel_rfl) ?_ | refine aw_regd hC Try.checked.mixed (by kernel_rfl) ?_ | refine chk_and (by kernel_rfl) ?_ | refine aw_skip ?_ | refine aw_if ?_ | refine And.intro (by first | omega | with_reducible assumption) ?_ | refine aw_exit ?_ | refine aw_ret ?_ | (simp (decide := true) (disch := omega) only [go_sem, ↓reduceIte, ↓put_at]) | refine pcall_u Try.call62 (c) (by simp (decide := true) (disch := omega) only [go_sem, ↓reduceIte, ↓put_at]; first | done | assumption | omega) ?_ | refine call_u Try.call125 (c2) [] (by simp (decide := true) (disch := omega) only [go_sem, ↓reduceIte, ↓put_at]; first | done | assumption | omega) ?_ | (refine ret_s [] ?_; simp (decide := true) (disch := omega) only [go_sem, ↓reduceIte, ↓put_at]))))
  | false =>
    have hT : tDrop t id = (t, false) := by unfold tDrop; rw [if_neg (by rw [hh]; simp)]
    rw [hh] at c
    rw [hT]
    generalize atP t.l id = A at *
    refine spec_of Try.func82 rfl Try.ntmps82 Try.results82 ⟨by decide, by simp⟩ fun C hC => ?_
    (repeat' ((first | refine aw_seq ?_ | refine aw_block ?_ | refine aw_reg hC (by kernel_rfl) ?_ | refine aw_regd hC Try.checked.mixed (by kernel_rfl) ?_ | refine chk_and (by kernel_rfl) ?_ | refine aw_skip ?_ | refine aw_if ?_ | refine And.intro (by first | omega | with_reducible assumption) ?_ | refine aw_exit ?_ | refine aw_ret ?_ | (simp (decide := true) (disch := omega) only [go_sem, ↓reduceIte, ↓put_at]) | refine pcall_u Try.call62 (c) (by simp (decide := true) (disch := omega) only [go_sem, ↓reduceIte, ↓put_at]; first | done | assumption | omega) ?_ | (refine ret_s [] ?_; simp (decide := true) (disch := omega) only [go_sem, ↓reduceIte, ↓put_at]))))
set_option maxRecDepth 100000 in
set_option maxHeartbeats 4000000 in
theorem t_merge (t : Tb) (ht : TbOk t) (l : List En) (hl : l.length ≤ 1000) (hv : -1000000 ≤ t.ver ∧ t.ver ≤ 1000000) : Spec Try.prog 34 [.ptr 0 0, .ca (.val (.lst 3 (l.map enEl)))] [tbL t] (.ca (.val (.tup [vi (tMerge t l).2.1, vi (tMerge t l).2.2]))) [tbL (tMerge t l).1] := by
  generalize hF : tMerge t l = F
  refine spec_of Try.func34 rfl Try.ntmps34 Try.results34 ⟨by decide, by simp⟩ fun C hC => ?_
  (repeat' ((fail_if_success (refine stop_reg 3 ?_)); (first | refine aw_seq ?_ | refine aw_block ?_ | refine aw_reg hC (by kernel_rfl) ?_ | refine aw_regd hC Try.checked.mixed (by kernel_rfl) ?_ | refine chk_and (by kernel_rfl) ?_ | refine aw_skip ?_ | refine aw_if ?_ | refine And.intro (by first | omega | with_reducible assumption) ?_ | refine aw_exit ?_ | refine aw_ret ?_ | (simp (decide := true) (disch := omega) only [go_sem, ↓reduceIte, ↓put_at]) | (refine ret_s [] ?_; simp (decide := true) (disch := omega) only [go_sem, ↓reduceIte, ↓put_at]))))
  refine loop_s (α := {x : Nat × Tb × Nat // x.1 ≤ l.length ∧ TbOk x.2.1 ∧ (-1000000 ≤ x.2.1.ver ∧ x.2.1.ver ≤ 1000000 + x.1) ∧ x.2.2 ≤ x.1 ∧ ((tMerge x.2.1 (l.drop x.1)).1, x.2.2 + (tMerge x.2.1 (l.drop x.1)).2.1, (tMerge x.2.1 (l.drop x.1)).2.2) = F}) (fun x => [(.r (1000, 3), .tree (.rw 32 3 (x.1.2.1.l.map enEl))), (.o (1000, 0), .num 3), (.c (1000, 0) 0, .av (.val (vi x.1.2.1.most))), (.c (1000, 0) 1, .av (.val (vi x.1.2.1.ver))), (.c (1000, 0) 2, .av (.ref (1000, 3) 0)), (.s 0, .av (.ptr (1000, 0) 0 0)), (.s 4, .av (.val (vi 0))), (.s 5, .av (.val (vi 0))), (.s 6, .av (.val (vi x.1.2.2))), (.s 11, .av (.val (.lst 3 (l.map enEl)))), (.s 12, .av (.val (vi l.length))), (.s 13, .av (.val (vi x.1.1)))]) (fun x => l.length - x.1.1) ⟨(0, t, 0), Nat.zero_le _, ht, by dsimp only; omega, Nat.le_refl _, by simp [hF]⟩ ?_ (fun x => ?_)
  · simp (decide := true) (disch := omega) only [go_sem, ↓reduceIte, ↓put_at]
  · obtain ⟨⟨j, A, n⟩, h1, h2, h3, h4, h5⟩ := x
    dsimp only at h1 h2 h3 h4 h5 ⊢
    by_cases hlt : j < l.length
    · have hge : (l.map enEl).getD j [] = enEl l[j] := by simp [hlt]
      have c1 := t_set A h2 l[j] (by omega)
      rw [List.drop_eq_getElem_cons hlt] at h5
      unfold tMerge at h5
      have hok := tSet_ok h2 l[j]
      have hvv := tSet_ver A l[j]
      generalize tSet A l[j] = R at *
      obtain ⟨R1, rb, re⟩ := R
      dsimp only at h5 c1 hok hvv
      by_cases he : re = 0
      · subst he
        simp only [ne_eq, not_true_eq_false, if_false] at h5
        cases rb with
        | true =>
          (repeat' ((first | refine aw_seq ?_ | refine aw_block ?_ | refine aw_reg hC (by kernel_rfl) ?_ | refine aw_regd hC Try.checked.mixed (by kernel_rfl) ?_ | refine chk_and (by kernel_rfl) ?_ | refine aw_skip ?_ | refine aw_if ?_ | refine And.intro (by first | omega | with_reducible assumption) ?_ | refine aw_exit ?_ | refine aw_ret ?_ | (simp (decide := true) (disch := omega) only [go_sem, ↓reduceIte, ↓put_at]) | refine call_u Try.call16 (c1) [(1000, 0)] (by simp (decide := true) (disch := omega) only [go_sem, ↓reduceIte, ↓put_at]; first | done | assumption | omega) ?_ | (refine ret_s [] ?_; simp (decide := true) (disch := omega) only [go_sem, ↓reduceIte, ↓put_at]))))
          refine next_s ⟨(j + 1, R1, n + 1), hlt, hok, by dsimp only; omega, by dsimp only; omega, by dsimp only; rw [← h5]; simp; omega⟩ ⟨?_, ?_⟩
          · simp (decide := true) (disch := omega) only [go_sem, ↓reduceIte, ↓put_at]
          · (try dsimp only)
            omega
        | false =>
          (repeat' ((first | refine aw_seq ?_ | refine aw_block ?_ | refine aw_reg hC (by kernel_rfl) ?_ | refine aw_regd hC Try.checked.mixed (by kernel_rfl) ?_ | refine chk_and (by kernel_rfl) ?_ | refine aw_skip ?_ | refine aw_if ?_ | refine And.intro (by first | omega | with_reducible assumption) ?_ | refine aw_exit ?_ | refine aw_ret ?_ | (simp (decide := true) (disch := omega) only [go_sem, ↓reduceIte, ↓put_at]) | refine call_u Try.call16 (c1) [(1000, 0)] (by simp (decide := true) (disch := omega) only [go_sem, ↓reduceIte, ↓put_at]; first | done | assumption | omega) ?_ | (refine ret_s [] ?_; simp (decide := true) (disch := omega) only [go_sem, ↓reduceIte, ↓put_at]))))
          refine next_s ⟨(j + 1, R1, n), hlt, hok, by dsimp only; omega, by dsimp only; omega, by dsimp only; rw [← h5]; simp⟩ ⟨?_, ?_⟩
          · simp (decide := true) (disch := omega) only [go_sem, ↓reduceIte, ↓put_at]
          · (try dsimp only)
            omega
      · rw [if_pos he] at h5
        subst h5
        (repeat' ((first | refine aw_seq ?_ | refine aw_block ?_ | refine aw_reg hC (by kernel_rfl) ?_ | refine aw_regd hC Try.checked.mixed (by kernel_rfl) ?_ | refine chk_and (by kernel_rfl) ?_ | refine aw_skip ?_ | refine aw_if ?_ | refine And.intro (by first | omega | with_reducible assumption) ?_ | refine aw_exit ?_ | refine aw_ret ?_ | (simp (decide := true) (disch := omega) only [go_sem, ↓reduceIte, ↓put_at]) | refine call_u Try.call16 (c1) [(1000, 0)] (by simp (decide := true) (disch := omega) only [go_sem, ↓reduceIte, ↓put_at]; first | done | assumption | omega) ?_ | (refine ret_s [] ?_; simp (decide := true) (disch := omega) only [go_sem, ↓reduceIte, ↓put_at]))))
        rfl
    · obtain rfl : j = l.length := by omega
      rw [List.drop_length] at h5
      unfold tMerge at h5
      subst h5
      (repeat' ((first | refine aw_seq ?_ | refine aw_block ?_ | refine aw_reg hC (by kernel_rfl) ?_ | refine aw_regd hC Try.checked.mixed (by kernel_rfl) ?_ | refine chk_and (by kernel_rfl) ?_ | refine aw_skip ?_ | refine aw_if ?_ | refine And.intro (by first | omega | with_reducible assumption) ?_ | refine aw_exit ?_ | refine aw_ret ?_ | (simp (decide := true) (disch := omega) only [go_sem, ↓reduceIte, ↓put_at]) | (refine ret_s [] ?_; simp (decide := true) (disch := omega) only [go_sem, ↓reduceIte, ↓put_at]))))
      rfl
/-! ### The document's -/
set_option maxRecDepth 100000 in
theorem r_new (most : Int) : Spec Try.prog 29 [.ca (.val (vi most))] [] (.ca (.val (.agg [vi (max 1 (min most 15)), vi 0, .lst 3 []]))) [] := by
  refine spec_of Try.func29 rfl Try.ntmps29 Try.results29 ⟨by decide, by simp⟩ fun C hC => ?_
  (repeat' ((first | refine aw_seq ?_ | refine aw_block ?_ | refine aw_reg hC (by kernel_rfl) ?_ | refine aw_regd hC Try.checked.mixed (by kernel_rfl) ?_ | refine chk_and (by kernel_rfl) ?_ | refine aw_skip ?_ | refine aw_if ?_ | refine And.intro (by first | omega | with_reducible assumption) ?_ | refine aw_exit ?_ | refine aw_ret ?_ | (simp (decide := true) (disch := omega) only [go_sem, ↓reduceIte, ↓put_at]) | refine condK_eq (fun h => ?_) (fun h => ?_) | refine condK_dec (fun h => ?_) (fun h => ?_) | refine condK_if (fun h => ?_) (fun h => ?_) | (refine ret_s [] ?_; simp (decide := true) (disch := omega) only [go_sem, ↓reduceIte, ↓put_at]))))
theorem get_at : ∀ (l : List En) (j : Nat) (id : Int), (∀ k (h : k < l.length), k < j → l[k].id ≠ id) → ∀ h : j < l.length, l[j].id = id → rGet l id = some l[j]
  | x :: xs, 0, id, _, _, h => by simp at h; simp [rGet, h]
  | x :: xs, j + 1, id, h0, h, h1 => by
    have hx : x.id ≠ id := h0 0 (by simp) (by omega)
    have := get_at xs j id (fun k hk hk2 => by have := h0 (k + 1) (by simpa using hk) (by omega); simpa using this) (by simpa using h) (by simpa using h1)
    unfold rGet at this ⊢
    rw [List.find?_cons_of_neg (by simpa using hx)]
    simpa using this
theorem get_none {l : List En} {id : Int} (h : ∀ k (h : k < l.length), l[k].id ≠ id) : rGet l id = none := List.find?_eq_none.2 fun x hx => by
  obtain ⟨k, hk, rfl⟩ := List.mem_iff_getElem.1 hx
  simpa using h k hk
set_option maxRecDepth 100000 in
set_option maxHeartbeats 4000000 in
theorem r_get (x : Tb) (hl : x.l.length ≤ 1000000) (id : Int) : Spec Try.prog 124 [.ca (.val (.agg (tbV x))), .ca (.val (vi id))] [] (.ca (.val (.tup [.agg (enEl ((rGet x.l id).getD ⟨0, false, 0⟩)), vb (rGet x.l id).isSome]))) [] := by
  refine spec_of Try.func124 rfl Try.ntmps124 Try.results124 ⟨by decide, by simp⟩ fun C hC => ?_
  (repeat' ((fail_if_success (refine stop_reg 2 ?_)); (first | refine aw_seq ?_ | refine aw_block ?_ | refine aw_reg hC (by kernel_rfl) ?_ | refine aw_regd hC Try.checked.mixed (by kernel_rfl) ?_ | refine chk_and (by kernel_rfl) ?_ | refine aw_skip ?_ | refine aw_if ?_ | refine And.intro (by first | omega | with_reducible assumption) ?_ | refine aw_exit ?_ | refine aw_ret ?_ | (simp (decide := true) (disch := omega) only [go_sem, ↓reduceIte, ↓put_at]) | (refine ret_s [] ?_; simp (decide := true) (disch := omega) only [go_sem, ↓reduceIte, ↓put_at]))))
  refine loop_s (α := {j : Nat // j ≤ x.l.length ∧ ∀ k (h : k < x.l.length), k < j → x.l[k].id ≠ id}) (fun j => [(.s 1, .av (.val (vi id))), (.o (4, 0), .num 3), (.c (4, 0) 0, .av (.val (vi 0))), (.c (4, 0) 1, .av (.val (vb false))), (.c (4, 0) 2, .av (.val (vi 0))), (.s 4, .av (.ptr (4, 0) 0 0)), (.s 5, .av (.val (vb false))), (.s 9, .av (.val (.lst 3 (x.l.map enEl)))), (.s 10, .av (.val (vi x.l.length))), (.s 11, .av (.val (vi j.1)))]) (fun j => x.l.length - j.1) ⟨0, Nat.zero_le _, fun k _ h => by omega⟩ ?_ (fun j => ?_)
  · simp (decide := true) (disch := omega) only [go_sem, ↓reduceIte, ↓put_at]
  · obtain ⟨j, hj, hq⟩ := j
    dsimp only at hj hq ⊢
    by_cases hlt : j < x.l.length
    · have hge : (x.l.map enEl).getD j [] = enEl x.l[j] := by simp [hlt]
      by_cases he : x.l[j].id = id
      · rw [get_at x.l j id hq hlt he]
        (repeat' ((first | refine aw_seq ?_ | refine aw_block ?_ | refine aw_reg hC (by kernel_rfl) ?_ | refine aw_regd hC Try.checked.mixed (by kernel_rfl) ?_ | refine chk_and (by kernel_rfl) ?_ | refine aw_skip ?_ | refine aw_if ?_ | refine And.intro (by first | omega | with_reducible assumption) ?_ | refine aw_exit ?_ | refine aw_ret ?_ | (simp (decide := true) (disch := omega) only [go_sem, ↓reduceIte, ↓put_at]) | (refine ret_s [] ?_; simp (decide := true) (disch := omega) only [go_sem, ↓reduceIte, ↓put_at]))))
      · (repeat' ((first | refine aw_seq ?_ | refine aw_block ?_ | refine aw_reg hC (by kernel_rfl) ?_ | refine aw_regd hC Try.checked.mixed (by kernel_rfl) ?_ | refine chk_and (by kernel_rfl) ?_ | refine aw_skip ?_ | refine aw_if ?_ | refine And.intro (by first | omega | with_reducible assumption) ?_ | refine aw_exit ?_ | refine aw_ret ?_ | (simp (decide := true) (disch := omega) only [go_sem, ↓reduceIte, ↓put_at]) | (refine ret_s [] ?_; simp (decide := true) (disch := omega) only [go_sem, ↓reduceIte, ↓put_at]))))
        refine next_s (α := {j : Nat // j ≤ x.l.length ∧ ∀ k (h : k < x.l.length), k < j → x.l[k].id ≠ id}) ⟨j + 1, hlt, fun k hk hk2 => by
          by_cases e : k = j
          · subst e; exact he
          · exact hq k hk (by omega)⟩ ⟨?_, ?_⟩
        · simp (decide := true) (disch := omega) only [go_sem, ↓reduceIte, ↓put_at]
        · (try dsimp only)
          omega
    · rw [get_none fun k hk => hq k hk (by omega)]
      (repeat' ((first | refine aw_seq ?_ | refine aw_block ?_ | refine aw_reg hC (by kernel_rfl) ?_ | refine aw_regd hC Try.checked.mixed (by kernel_rfl) ?_ | refine chk_and (by kernel_rfl) ?_ | refine aw_skip ?_ | refine aw_if ?_ | refine And.intro (by first | omega | with_reducible assumption) ?_ | refine aw_exit ?_ | refine aw_ret ?_ | (simp (decide := true) (disch := omega) only [go_sem, ↓reduceIte, ↓put_at]) | (refine ret_s [] ?_; simp (decide := true) (disch := omega) only [go_sem, ↓reduceIte, ↓put_at]))))
end Go.Proofs.Ytdgkehoodlncmaa
