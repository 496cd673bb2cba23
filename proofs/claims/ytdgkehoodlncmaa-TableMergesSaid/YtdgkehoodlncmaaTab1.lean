
/- Package table, walked. -/
import Derived.Test.YtdgkehoodlncmaaSl1
import Derived.Test.YtdgkehoodlncmaaSl2
import Derived.Test.YtdgkehoodlncmaaTabM
namespace Go.Proofs.Ytdgkehoodlncmaa
open Go.RowKit
set_option linter.unusedVariables false
set_option linter.unusedSimpArgs false

set_option maxRecDepth 100000 in
set_option maxHeartbeats 4000000 in
theorem sl_bs_ten (es : List (List V)) (t : Int) (K : FuncId) (hK : ∀ args w, (callFunc K args).run Try.prog w = .ok (.enter K args) w) (c : Nat → Int) (hl : es.length ≤ 1000000) (hsz : ∀ r ∈ es, r.length = 3)
    (hc : ∀ i (h : i < es.length), Spec Try.prog K [.ca (.val (.agg es[i])), .ca (.val (vi t))] [] (.ca (.val (vi (c i)))) []) (hm : ∀ i j, i ≤ j → j < es.length → 0 ≤ c i → 0 ≤ c j) :
    Spec Try.prog 112 [.ca (.val (.lst 3 es)), .ca (.val (vi t)), .fn K []] [] (.ca (.val (.tup [vi (firstN c es.length), vb (decide (firstN c es.length < es.length) && decide (c (firstN c es.length) = 0))]))) [] := by
  refine spec_of Try.func112 rfl Try.ntmps112 Try.results112 ⟨by decide, by simp⟩ fun C hC => ?_
  (repeat' ((fail_if_success (refine stop_reg 3 ?_)); (first | refine aw_seq ?_ | refine aw_block ?_ | refine aw_reg hC (by kernel_rfl) ?_ | refine aw_regd hC Try.checked.mixed (by kernel_rfl) ?_ | refine chk_and (by kernel_rfl) ?_ | refine aw_skip ?_ | refine aw_if ?_ | refine And.intro (by first | omega | with_reducible assumption) ?_ | refine aw_exit ?_ | refine aw_ret ?_ | (simp (decide := true) (disch := omega) only [go_sem, ↓reduceIte, ↓put_at]) | (refine ret_s [] ?_; simp (decide := true) (disch := omega) only [go_sem, ↓reduceIte, ↓put_at]))))
  refine loop_s (α := {x : Nat × Nat // x.1 ≤ x.2 ∧ x.2 ≤ es.length ∧ (∀ k, k < x.1 → c k < 0) ∧ (∀ k, x.2 ≤ k → k < es.length → 0 ≤ c k)}) (fun x => [(.s 0, .av (.val (.lst 3 es))), (.s 1, .av (.val (vi t))), (.s 2, .av (.fn K [])), (.s 8, .av (.val (vi es.length))), (.s 9, .av (.val (vi x.1.1))), (.s 10, .av (.val (vi x.1.2)))]) (fun x => x.1.2 - x.1.1) ⟨(0, es.length), Nat.zero_le _, Nat.le_refl _, fun k h => by omega, fun k a b => by omega⟩ ?_ (fun x => ?_)
  · simp (decide := true) (disch := omega) only [go_sem, ↓reduceIte, ↓put_at]
  · obtain ⟨⟨i, j⟩, h1, h2, h3, h4⟩ := x
    dsimp only at h1 h2 h3 h4 ⊢
    by_cases hij : i < j
    · have hh : (i + j) / 2 < es.length := by omega
      obtain ⟨h, hh0⟩ : ∃ h, h = (i + j) / 2 := ⟨_, rfl⟩
      rw [← hh0] at hh
      have hch := hc h hh
      have hl3 := hsz _ (List.getElem_mem hh)
      have hi1 : (((i : Int) + (j : Int)) / 2).toNat = h := by omega
      have hi2 : ((i : Int) + (j : Int)) / 2 = (h : Int) := by omega
      have hge : es.getD h [] = es[h] := by simp [hh]
      have htk : es[h].take 3 = es[h] := List.take_of_length_le (by omega)
      (repeat' ((first | refine aw_seq ?_ | refine aw_block ?_ | refine aw_reg hC (by kernel_rfl) ?_ | refine aw_regd hC Try.checked.mixed (by kernel_rfl) ?_ | refine chk_and (by kernel_rfl) ?_ | refine aw_skip ?_ | refine aw_if ?_ | refine And.intro (by first | omega | with_reducible assumption) ?_ | refine aw_exit ?_ | refine aw_ret ?_ | (simp (decide := true) (disch := omega) only [go_sem, ↓reduceIte, ↓put_at]) | (refine ret_s [] ?_; simp (decide := true) (disch := omega) only [go_sem, ↓reduceIte, ↓put_at]))))
      simp only [hi1, hge, htk]
      refine ⟨by omega, ?_⟩
      refine pfcall_u hK [] hch (by simp (decide := true) (disch := omega) only [go_sem, ↓reduceIte, ↓put_at]) ?_
      by_cases hneg : c h < 0
      · (repeat' ((first | refine aw_seq ?_ | refine aw_block ?_ | refine aw_reg hC (by kernel_rfl) ?_ | refine aw_regd hC Try.checked.mixed (by kernel_rfl) ?_ | refine chk_and (by kernel_rfl) ?_ | refine aw_skip ?_ | refine aw_if ?_ | refine And.intro (by first | omega | with_reducible assumption) ?_ | refine aw_exit ?_ | refine aw_ret ?_ | (simp (decide := true) (disch := omega) only [go_sem, ↓reduceIte, ↓put_at]) | (refine ret_s [] ?_; simp (decide := true) (disch := omega) only [go_sem, ↓reduceIte, ↓put_at]))))
        refine next_s (α := {x : Nat × Nat // x.1 ≤ x.2 ∧ x.2 ≤ es.length ∧ (∀ k, k < x.1 → c k < 0) ∧ (∀ k, x.2 ≤ k → k < es.length → 0 ≤ c k)}) ⟨(h + 1, j), by dsimp only; omega, h2, fun k hk => ?_, h4⟩ ⟨?_, by dsimp only; omega⟩
        · dsimp only at hk
          by_cases hki : k < i
          · exact h3 k hki
          · exact Int.not_le.1 fun h0 => absurd (hm k h (by omega) hh h0) (by omega)
        · simp (decide := true) (disch := omega) only [go_sem, ↓reduceIte, ↓put_at]
          omega
      · (repeat' ((first | refine aw_seq ?_ | refine aw_block ?_ | refine aw_reg hC (by kernel_rfl) ?_ | refine aw_regd hC Try.checked.mixed (by kernel_rfl) ?_ | refine chk_and (by kernel_rfl) ?_ | refine aw_skip ?_ | refine aw_if ?_ | refine And.intro (by first | omega | with_reducible assumption) ?_ | refine aw_exit ?_ | refine aw_ret ?_ | (simp (decide := true) (disch := omega) only [go_sem, ↓reduceIte, ↓put_at]) | (refine ret_s [] ?_; simp (decide := true) (disch := omega) only [go_sem, ↓reduceIte, ↓put_at]))))
        refine next_s (α := {x : Nat × Nat // x.1 ≤ x.2 ∧ x.2 ≤ es.length ∧ (∀ k, k < x.1 → c k < 0) ∧ (∀ k, x.2 ≤ k → k < es.length → 0 ≤ c k)}) ⟨(i, h), by dsimp only; omega, by dsimp only; omega, h3, fun k hk hk2 => hm h k hk hk2 (by omega)⟩ ⟨?_, by dsimp only; omega⟩
        simp (decide := true) (disch := omega) only [go_sem, ↓reduceIte, ↓put_at]
        omega
    · obtain rfl : j = i := by omega
      have hf := firstN_is c es.length j h2 h3 h4
      rw [hf]
      by_cases hn : j < es.length
      · have hcj := hc j hn
        have hl3 := hsz _ (List.getElem_mem hn)
        have hge : es.getD j [] = es[j] := by simp [hn]
        have htk : es[j].take 3 = es[j] := List.take_of_length_le (by omega)
        rw [decide_eq_true hn, Bool.true_and]
        (repeat' ((first | refine aw_seq ?_ | refine aw_block ?_ | refine aw_reg hC (by kernel_rfl) ?_ | refine aw_regd hC Try.checked.mixed (by kernel_rfl) ?_ | refine chk_and (by kernel_rfl) ?_ | refine aw_skip ?_ | refine aw_if ?_ | refine And.intro (by first | omega | with_reducible assumption) ?_ | refine aw_exit ?_ | refine aw_ret ?_ | (simp (decide := true) (disch := omega) only [go_sem, ↓reduceIte, ↓put_at]) | (refine ret_s [] ?_; simp (decide := true) (disch := omega) only [go_sem, ↓reduceIte, ↓put_at]))))
        simp only [hge, htk]
        refine ⟨by omega, ?_⟩
        refine pfcall_u hK [] hcj (by simp (decide := true) (disch := omega) only [go_sem, ↓reduceIte, ↓put_at]) ?_
        by_cases h0 : c j = 0
        · rw [decide_eq_true h0]
          (repeat' ((first | refine aw_seq ?_ | refine aw_block ?_ | refine aw_reg hC (by kernel_rfl) ?_ | refine aw_regd hC Try.checked.mixed (by kernel_rfl) ?_ | refine chk_and (by kernel_rfl) ?_ | refine aw_skip ?_ | refine aw_if ?_ | refine And.intro (by first | omega | with_reducible assumption) ?_ | refine aw_exit ?_ | refine aw_ret ?_ | (simp (decide := true) (disch := omega) only [go_sem, ↓reduceIte, ↓put_at]) | (refine ret_s [] ?_; simp (decide := true) (disch := omega) only [go_sem, ↓reduceIte, ↓put_at]))))
        · rw [decide_eq_false h0]
          (repeat' ((first | refine aw_seq ?_ | refine aw_block ?_ | refine aw_reg hC (by kernel_rfl) ?_ | refine aw_regd hC Try.checked.mixed (by kernel_rfl) ?_ | refine chk_and (by kernel_rfl) ?_ | refine aw_skip ?_ | refine aw_if ?_ | refine And.intro (by first | omega | with_reducible assumption) ?_ | refine aw_exit ?_ | refine aw_ret ?_ | (simp (decide := true) (disch := omega) only [go_sem, ↓reduceIte, ↓put_at]) | (refine ret_s [] ?_; simp (decide := true) (disch := omega) only [go_sem, ↓reduceIte, ↓put_at]))))
      · rw [decide_eq_false hn, Bool.false_and]
        (repeat' ((first | refine aw_seq ?_ | refine aw_block ?_ | refine aw_reg hC (by kernel_rfl) ?_ | refine aw_regd hC Try.checked.mixed (by kernel_rfl) ?_ | refine chk_and (by kernel_rfl) ?_ | refine aw_skip ?_ | refine aw_if ?_ | refine And.intro (by first | omega | with_reducible assumption) ?_ | refine aw_exit ?_ | refine aw_ret ?_ | (simp (decide := true) (disch := omega) only [go_sem, ↓reduceIte, ↓put_at]) | (refine ret_s [] ?_; simp (decide := true) (disch := omega) only [go_sem, ↓reduceIte, ↓put_at]))))
set_option maxRecDepth 100000 in
theorem eq16_ (a1 b1 : Int) (a2 b2 : Bool) (a3 b3 : Int) (w : World) : (binOp .eql 32 (.agg [.int .i64 a1, .bool a2, .int .i64 a3].toArray) (.agg [.int .i64 b1, .bool b2, .int .i64 b3].toArray)).run Try.prog w = .ok (.bool (decide (a1 = b1 ∧ a2 = b2 ∧ a3 = b3))) w := by
  by_cases h1 : a1 = b1
  · by_cases h2 : a2 = b2
    · by_cases h3 : a3 = b3
      · subst h1 h2 h3; simp [go_sem]
      · simp [go_sem, h1, h2, h3]
    · have e : (a2 == b2) = false := by cases a2 <;> cases b2 <;> simp_all
      simp [go_sem, h1, h2, e]
  · simp [go_sem, h1]
set_option maxRecDepth 100000 in
theorem ne16_ (a1 b1 : Int) (a2 b2 : Bool) (a3 b3 : Int) (w : World) : (binOp .neq 32 (.agg [.int .i64 a1, .bool a2, .int .i64 a3].toArray) (.agg [.int .i64 b1, .bool b2, .int .i64 b3].toArray)).run Try.prog w = .ok (.bool (!decide (a1 = b1 ∧ a2 = b2 ∧ a3 = b3))) w := by
  by_cases h1 : a1 = b1
  · by_cases h2 : a2 = b2
    · by_cases h3 : a3 = b3
      · subst h1 h2 h3; simp [go_sem]
      · simp [go_sem, h1, h2, h3]
    · have e : (a2 == b2) = false := by cases a2 <;> cases b2 <;> simp_all
      simp [go_sem, h1, h2, e]
  · simp [go_sem, h1]
abbrev enEl (e : En) : List V := [vi e.id, vb e.up, vi e.rate]
abbrev tbL (t : Tb) : List CA := [.val (vi t.most), .val (vi t.ver), .hd (.rw 32 3 (t.l.map enEl))]
abbrev tbV (t : Tb) : List V := [vi t.most, vi t.ver, .lst 3 (t.l.map enEl)]
theorem en_len (l : List En) : ∀ r ∈ l.map enEl, r.length = 3 := fun r h => by obtain ⟨e, _, rfl⟩ := List.mem_map.1 h; rfl
theorem en_one (l : List En) : ∀ r ∈ l.map enEl, ∀ y ∈ r, oneV y = true := fun r h y hy => by obtain ⟨e, _, rfl⟩ := List.mem_map.1 h; simp at hy; rcases hy with rfl | rfl | rfl <;> rfl
theorem en_flat (l : List En) : flatR (l.map enEl) := fun r h y hy => by obtain ⟨e, _, rfl⟩ := List.mem_map.1 h; simp at hy; rcases hy with rfl | rfl | rfl <;> trivial
set_option maxRecDepth 100000 in
theorem t_new (most : Int) : Spec Try.prog 15 [.ca (.val (vi most))] [] (.ptr 0 0) [tbL ⟨max 1 (min most 15), 0, []⟩] := by
  refine spec_of Try.func15 rfl Try.ntmps15 Try.results15 ⟨by decide, by simp⟩ fun C hC => ?_
  (repeat' ((first | refine aw_seq ?_ | refine aw_block ?_ | refine aw_reg hC (by kernel_rfl) ?_ | refine aw_regd hC Try.checked.mixed (by kernel_rfl) ?_ | refine chk_and (by kernel_rfl) ?_ | refine aw_skip ?_ | refine aw_if ?_ | refine And.intro (by first | omega | with_reducible assumption) ?_ | refine aw_exit ?_ | refine aw_ret ?_ | (simp (decide := true) (disch := omega) only [go_sem, ↓reduceIte, ↓put_at]) | refine condK_eq (fun h => ?_) (fun h => ?_) | refine condK_dec (fun h => ?_) (fun h => ?_) | refine condK_if (fun h => ?_) (fun h => ?_) | (refine ret_s [(7, 0)] ?_; simp (decide := true) (disch := omega) only [go_sem, ↓reduceIte, ↓put_at]))))
set_option maxRecDepth 100000 in
theorem t_cmp (e : En) (id : Int) : Spec Try.prog 113 [.ca (.val (.agg (enEl e))), .ca (.val (vi id))] [] (.ca (.val (vi (cmpZ e.id id)))) [] := by
  have c := cmp_int e.id id
  refine spec_of Try.func113 rfl Try.ntmps113 Try.results113 ⟨by decide, by simp⟩ fun C hC => ?_
  (repeat' ((first | refine aw_seq ?_ | refine aw_block ?_ | refine aw_reg hC (by kernel_rfl) ?_ | refine aw_regd hC Try.checked.mixed (by kernel_rfl) ?_ | refine chk_and (by kernel_rfl) ?_ | refine aw_skip ?_ | refine aw_if ?_ | refine And.intro (by first | omega | with_reducible assumption) ?_ | refine aw_exit ?_ | refine aw_ret ?_ | (simp (decide := true) (disch := omega) only [go_sem, ↓reduceIte, ↓put_at]) | refine call_u Try.call114 (c) [] (by simp (decide := true) (disch := omega) only [go_sem, ↓reduceIte, ↓put_at]; first | done | assumption | omega) ?_ | refine condK_eq (fun h => ?_) (fun h => ?_) | refine condK_dec (fun h => ?_) (fun h => ?_) | refine condK_if (fun h => ?_) (fun h => ?_) | (refine ret_s [] ?_; simp (decide := true) (disch := omega) only [go_sem, ↓reduceIte, ↓put_at]))))
set_option maxRecDepth 100000 in
theorem t_find (t : Tb) (ht : TbOk t) (id : Int) : Spec Try.prog 62 [.ca (.val (.ep (tbV t))), .ca (.val (vi id))] [] (.ca (.val (.tup [vi (atP t.l id), vb (hasP t.l id)]))) [] := by
  have hu := ht.up
  have hf := ht.few
  have hat := at_has hu (id := id)
  have hfn : firstN (fun i => cmpZ ((t.l[i]?.map (·.id)).getD 0) id) (t.l.map enEl).length = atP t.l id := by
    refine firstN_is _ _ _ (by rw [List.length_map]; exact atP_le _ _) (fun k hk => ?_) (fun k hk hk2 => ?_)
    · have h1 : k < t.l.length := by have := atP_le t.l id; omega
      have := (at_lt hu h1).1 hk
      simp [h1, cmpZ, this]
    · have h1 : k < t.l.length := by simpa using hk2
      have : ¬ (t.l[k]).id < id := fun hc => by have := (at_lt hu h1).2 hc; omega
      simp only [h1, List.getElem?_eq_getElem, Option.map_some, Option.getD_some, cmpZ, if_neg this]
      split <;> omega
  have c := sl_bs_ten (t.l.map enEl) id 113 Try.call113 (fun i => cmpZ ((t.l[i]?.map (·.id)).getD 0) id) (by rw [List.length_map]; omega) (en_len _) (fun i hi => by
      have h1 : i < t.l.length := by simpa using hi
      have := t_cmp (t.l[i]) id
      simpa [h1] using this) (fun i j hij hj h0 => by
      have h2 : j < t.l.length := by simpa using hj
      have h1 : i < t.l.length := by omega
      have h3 : (t.l[i]).id ≤ (t.l[j]).id := by
        rcases Nat.lt_or_ge i j with h | h
        · have := up_get hu h h2; omega
        · have : i = j := by omega
          subst this; omega
      simp only [h1, h2, List.getElem?_eq_getElem, Option.map_some, Option.getD_some, cmpZ] at h0 ⊢
      split at h0
      · omega
      · split at h0
        · split
          · omega
          · split <;> omega
        · split
          · omega
          · split <;> omega)
  rw [hfn] at c
  have he : (decide (atP t.l id < (t.l.map enEl).length) && decide (cmpZ ((t.l[atP t.l id]?.map (·.id)).getD 0) id = 0)) = hasP t.l id := by
    rw [hat, List.length_map]
    by_cases h1 : atP t.l id < t.l.length
    · simp only [h1, List.getElem?_eq_getElem, Option.map_some, Option.getD_some, decide_true, Bool.true_and]
      unfold cmpZ
      by_cases h2 : (t.l[atP t.l id]).id = id
      · simp [h2]
      · have h4 : ¬ (some (t.l[atP t.l id]).id = some id) := fun h => h2 (Option.some.inj h)
        rw [decide_eq_false h4]
        refine decide_eq_false ?_
        split
        · omega
        · split <;> omega
    · simp [h1]
  rw [he] at c
  generalize atP t.l id = at_ at *
  generalize hasP t.l id = has_ at *
  refine spec_of Try.func62 rfl Try.ntmps62 Try.results62 ⟨by decide, by simp⟩ fun C hC => ?_
  (repeat' ((first | refine aw_seq ?_ | refine aw_block ?_ | refine aw_reg hC (by kernel_rfl) ?_ | refine aw_regd hC Try.checked.mixed (by kernel_rfl) ?_ | refine chk_and (by kernel_rfl) ?_ | refine aw_skip ?_ | refine aw_if ?_ | refine And.intro (by first | omega | with_reducible assumption) ?_ | refine aw_exit ?_ | refine aw_ret ?_ | (simp (decide := true) (disch := omega) only [go_sem, ↓reduceIte, ↓put_at]) | refine pcall_u Try.call112 (c) (by simp (decide := true) (disch := omega) only [go_sem, ↓reduceIte, ↓put_at]; first | done | assumption | omega) ?_ | refine condK_eq (fun h => ?_) (fun h => ?_) | refine condK_dec (fun h => ?_) (fun h => ?_) | refine condK_if (fun h => ?_) (fun h => ?_) | (refine ret_s [] ?_; simp (decide := true) (disch := omega) only [go_sem, ↓reduceIte, ↓put_at]))))
set_option maxRecDepth 100000 in
theorem t_len (t : Tb) : Spec Try.prog 59 [.ca (.val (.ep (tbV t)))] [] (.ca (.val (vi t.l.length))) [] := by
  refine spec_of Try.func59 rfl Try.ntmps59 Try.results59 ⟨by decide, by simp⟩ fun C hC => ?_
  (repeat' ((first | refine aw_seq ?_ | refine aw_block ?_ | refine aw_reg hC (by kernel_rfl) ?_ | refine aw_regd hC Try.checked.mixed (by kernel_rfl) ?_ | refine chk_and (by kernel_rfl) ?_ | refine aw_skip ?_ | refine aw_if ?_ | refine And.intro (by first | omega | with_reducible assumption) ?_ | refine aw_exit ?_ | refine aw_ret ?_ | (simp (decide := true) (disch := omega) only [go_sem, ↓reduceIte, ↓put_at]) | refine condK_eq (fun h => ?_) (fun h => ?_) | refine condK_dec (fun h => ?_) (fun h => ?_) | refine condK_if (fun h => ?_) (fun h => ?_) | (refine ret_s [] ?_; simp (decide := true) (disch := omega) only [go_sem, ↓reduceIte, ↓put_at]))))
set_option maxRecDepth 100000 in
theorem t_ver (t : Tb) : Spec Try.prog 18 [.ca (.val (.ep (tbV t)))] [] (.ca (.val (vi t.ver))) [] := by
  refine spec_of Try.func18 rfl Try.ntmps18 Try.results18 ⟨by decide, by simp⟩ fun C hC => ?_
  (repeat' ((first | refine aw_seq ?_ | refine aw_block ?_ | refine aw_reg hC (by kernel_rfl) ?_ | refine aw_regd hC Try.checked.mixed (by kernel_rfl) ?_ | refine chk_and (by kernel_rfl) ?_ | refine aw_skip ?_ | refine aw_if ?_ | refine And.intro (by first | omega | with_reducible assumption) ?_ | refine aw_exit ?_ | refine aw_ret ?_ | (simp (decide := true) (disch := omega) only [go_sem, ↓reduceIte, ↓put_at]) | refine condK_eq (fun h => ?_) (fun h => ?_) | refine condK_dec (fun h => ?_) (fun h => ?_) | refine condK_if (fun h => ?_) (fun h => ?_) | (refine ret_s [] ?_; simp (decide := true) (disch := omega) only [go_sem, ↓reduceIte, ↓put_at]))))
set_option maxRecDepth 100000 in
theorem t_all (t : Tb) (ht : t.l.length < 1000000) : Spec Try.prog 17 [.ca (.val (.ep (tbV t)))] [] (.ca (.hd (.rw 32 3 (t.l.map enEl)))) [] := by
  have c := sl_clone_ten (t.l.map enEl) (by simpa using ht) (en_len _) (en_one _)
  refine spec_of Try.func17 rfl Try.ntmps17 Try.results17 ⟨by decide, by simp⟩ fun C hC => ?_
  (repeat' ((first | refine aw_seq ?_ | refine aw_block ?_ | refine aw_reg hC (by kernel_rfl) ?_ | refine aw_regd hC Try.checked.mixed (by kernel_rfl) ?_ | refine chk_and (by kernel_rfl) ?_ | refine aw_skip ?_ | refine aw_if ?_ | refine And.intro (by first | omega | with_reducible assumption) ?_ | refine aw_exit ?_ | refine aw_ret ?_ | (simp (decide := true) (disch := omega) only [go_sem, ↓reduceIte, ↓put_at]) | refine pcallT_u Try.call64 (c) ((en_flat t.l)) (by simp (decide := true) (disch := omega) only [go_sem, ↓reduceIte, ↓put_at]; first | done | assumption | omega) ?_ | refine condK_eq (fun h => ?_) (fun h => ?_) | refine condK_dec (fun h => ?_) (fun h => ?_) | refine condK_if (fun h => ?_) (fun h => ?_) | (refine ret_s [] ?_; simp (decide := true) (disch := omega) only [go_sem, ↓reduceIte, ↓put_at]))))
set_option maxRecDepth 100000 in
set_option maxHeartbeats 4000000 in
theorem t_set (t : Tb) (ht : TbOk t) (e : En) (hv : -1000000000 ≤ t.ver ∧ t.ver ≤ 1000000000) : Spec Try.prog 16 [.ptr 0 0, .ca (.val (.agg (enEl e)))] [tbL t] (.ca (.val (.tup [vb (tSet t e).2.1, vi (tSet t e).2.2]))) [tbL (tSet t e).1] := by
  have c := t_find t ht e.id
  have hale := atP_le t.l e.id
  have hf := ht.few
  have hu := ht.up
  obtain ⟨hv1, hv2⟩ := hv
  by_cases hok : okE e
  · have hok2 := hok
    obtain ⟨k1, k2, k3, k4⟩ := hok2
    cases hh : hasP t.l e.id with
    | false =>
      rw [hh] at c
      have hne : e ∉ t.l := fun hc => by
        have := hasP_iff.2 ⟨e, hc, rfl⟩
        rw [hh] at this; cases this
      by_cases hfull : t.most ≤ t.l.length
      · have hT : tSet t e = (t, false, 8) := by unfold tSet; rw [if_pos hok, if_pos ⟨hh, hfull⟩]
        rw [hT]
        refine spec_of Try.func16 rfl Try.ntmps16 Try.results16 ⟨by decide, by simp⟩ fun C hC => ?_
        (repeat' ((first | refine aw_seq ?_ | refine aw_block ?_ | refine aw_reg hC (by kernel_rfl) ?_ | refine aw_regd hC Try.checked.mixed (by kernel_rfl) ?_ | refine chk_and (by kernel_rfl) ?_ | refine aw_skip ?_ | refine aw_if ?_ | refine And.intro (by first | omega | with_reducible assumption) ?_ | refine aw_exit ?_ | refine aw_ret ?_ | (simp (decide := true) (disch := omega) only [go_sem, ↓reduceIte, ↓put_at]) | refine pcall_u Try.call62 (c) (by simp (decide := true) (disch := omega) only [go_sem, ↓reduceIte, ↓put_at]; first | done | assumption | omega) ?_ | refine condK_eq (fun h => ?_) (fun h => ?_) | refine condK_dec (fun h => ?_) (fun h => ?_) | refine condK_if (fun h => ?_) (fun h => ?_) | (refine ret_s [] ?_; simp (decide := true) (disch := omega) only [go_sem, ↓reduceIte, ↓put_at]))))
      · have hT : tSet t e = ({ t with ver := t.ver + 1, l := setL t.l e }, true, 0) := by unfold tSet; rw [if_pos hok, if_neg (fun hc => hfull hc.2), if_neg hne]
        rw [hT]
        have c2 := sl_ins_ten (t.l.map enEl) (enEl e) (atP t.l e.id) (by simpa using hale) (by simp; omega) (en_len _) (en_one _) rfl (fun y hy => by simp at hy; rcases hy with rfl | rfl | rfl <;> rfl)
        have hins : List.take (atP t.l e.id) (t.l.map enEl) ++ enEl e :: List.drop (atP t.l e.id) (t.l.map enEl) = (setL t.l e).map enEl := by
          rw [← set_ins hu e hh, List.map_append, List.map_cons, List.map_take, List.map_drop]
        rw [hins] at c2
        generalize setL t.l e = L2 at *
        refine spec_of Try.func16 rfl Try.ntmps16 Try.results16 ⟨by decide, by simp⟩ fun C hC => ?_
        (repeat' ((first | refine aw_seq ?_ | refine aw_block ?_ | refine aw_reg hC (by kernel_rfl) ?_ | refine aw_regd hC Try.checked.mixed (by kernel_rfl) ?_ | refine chk_and (by kernel_rfl) ?_ | refine aw_skip ?_ | refine aw_if ?_ | refine And.intro (by first | omega | with_reducible assumption) ?_ | refine aw_exit ?_ | refine aw_ret ?_ | (simp (decide := true) (disch := omega) only [go_sem, ↓reduceIte, ↓put_at]) | refine pcall_u Try.call62 (c) (by simp (decide := true) (disch := omega) only [go_sem, ↓reduceIte, ↓put_at]; first | done | assumption | omega) ?_ | refine call_u Try.call63 (c2) [] (by simp (decide := true) (disch := omega) only [go_sem, ↓reduceIte, ↓put_at]; first | done | assumption | omega) ?_ | refine condK_eq (fun h => ?_) (fun h => ?_) | refine condK_dec (fun h => ?_) (fun h => ?_) | refine condK_if (fun h => ?_) (fun h => ?_) | (refine ret_s [] ?_; simp (decide := true) (disch := omega) only [go_sem, ↓reduceIte, ↓put_at]))))
    | true =>
      rw [hh] at c
      obtain ⟨hlt, hid⟩ := has_at hu hh
      have hset := set_set hu e hh
      have hge : (t.l.map enEl).getD (atP t.l e.id) [] = enEl (t.l[atP t.l e.id]) := by simp [hlt]
      have hmem : e ∈ t.l ↔ t.l[atP t.l e.id] = e := by
        constructor
        · intro hm
          obtain ⟨k, hk, hke⟩ := List.mem_iff_getElem.1 hm
          rcases Nat.lt_or_ge k (atP t.l e.id) with h1 | h1
          · have := up_get hu h1 hlt; rw [hke] at this; omega
          · rcases Nat.lt_or_ge (atP t.l e.id) k with h2 | h2
            · have := up_get hu h2 hk; rw [hke] at this; omega
            · have : k = atP t.l e.id := by omega
              subst this; exact hke
        · intro h; rw [← h]; exact List.getElem_mem _
      generalize hx0 : t.l[atP t.l e.id] = x0 at *
      generalize atP t.l e.id = A at *
      by_cases hm : e ∈ t.l
      · have hT : tSet t e = (t, false, 0) := by unfold tSet; rw [if_pos hok, if_neg (fun hc => by rw [hh] at hc; simp at hc), if_pos hm]
        rw [hT]
        obtain rfl := hmem.1 hm
        refine spec_of Try.func16 rfl Try.ntmps16 Try.results16 ⟨by decide, by simp⟩ fun C hC => ?_
        (repeat' ((first | refine aw_seq ?_ | refine aw_block ?_ | refine aw_reg hC (by kernel_rfl) ?_ | refine aw_regd hC Try.checked.mixed (by kernel_rfl) ?_ | refine chk_and (by kernel_rfl) ?_ | refine aw_skip ?_ | refine aw_if ?_ | refine And.intro (by first | omega | with_reducible assumption) ?_ | refine aw_exit ?_ | refine aw_ret ?_ | (simp (decide := true) (disch := omega) only [go_sem, ↓reduceIte, ↓put_at]) | refine pcall_u Try.call62 (c) (by simp (decide := true) (disch := omega) only [go_sem, ↓reduceIte, ↓put_at]; first | done | assumption | omega) ?_ | refine condK_eq (fun h => ?_) (fun h => ?_) | refine condK_dec (fun h => ?_) (fun h => ?_) | refine condK_if (fun h => ?_) (fun h => ?_) | (refine ret_s [] ?_; simp (decide := true) (disch := omega) only [go_sem, ↓reduceIte, ↓put_at]))))
        simp only [hx0]
        refine gcmpA_s _ _ _ (.inl rfl) (by simp (decide := true) (disch := omega) only [go_sem, ↓reduceIte, ↓put_at]) (by simp (decide := true) (disch := omega) only [go_sem, ↓reduceIte, ↓put_at]) (by simp (decide := true) (disch := omega) only [go_sem, ↓reduceIte, ↓put_at]) (by kernel_rfl) (eq16_ x0.id x0.id x0.up x0.up x0.rate x0.rate) ?_
        rw [decide_eq_true (show x0.id = x0.id ∧ x0.up = x0.up ∧ x0.rate = x0.rate from ⟨rfl, rfl, rfl⟩)]
        (repeat' ((first | refine aw_seq ?_ | refine aw_block ?_ | refine aw_reg hC (by kernel_rfl) ?_ | refine aw_regd hC Try.checked.mixed (by kernel_rfl) ?_ | refine chk_and (by kernel_rfl) ?_ | refine aw_skip ?_ | refine aw_if ?_ | refine And.intro (by first | omega | with_reducible assumption) ?_ | refine aw_exit ?_ | refine aw_ret ?_ | (simp (decide := true) (disch := omega) only [go_sem, ↓reduceIte, ↓put_at]) | refine condK_eq (fun h => ?_) (fun h => ?_) | refine condK_dec (fun h => ?_) (fun h => ?_) | refine condK_if (fun h => ?_) (fun h => ?_) | (refine ret_s [] ?_; simp (decide := true) (disch := omega) only [go_sem, ↓reduceIte, ↓put_at]))))
      · have hT : tSet t e = ({ t with ver := t.ver + 1, l := setL t.l e }, true, 0) := by unfold tSet; rw [if_pos hok, if_neg (fun hc => by rw [hh] at hc; simp at hc), if_neg hm]
        rw [hT, ← hset]
        have hne : ¬ (x0.id = e.id ∧ x0.up = e.up ∧ x0.rate = e.rate) := fun h => hm (hmem.2 (by cases x0; cases e; simp_all))
        refine spec_of Try.func16 rfl Try.ntmps16 Try.results16 ⟨by decide, by simp⟩ fun C hC => ?_
        (repeat' ((first | refine aw_seq ?_ | refine aw_block ?_ | refine aw_reg hC (by kernel_rfl) ?_ | refine aw_regd hC Try.checked.mixed (by kernel_rfl) ?_ | refine chk_and (by kernel_rfl) ?_ | refine aw_skip ?_ | refine aw_if ?_ | refine And.intro (by first | omega | with_reducible assumption) ?_ | refine aw_exit ?_ | refine aw_ret ?_ | (simp (decide := true) (disch := omega) only [go_sem, ↓reduceIte, ↓put_at]) | refine pcall_u Try.call62 (c) (by simp (decide := true) (disch := omega) only [go_sem, ↓reduceIte, ↓put_at]; first | done | assumption | omega) ?_ | refine condK_eq (fun h => ?_) (fun h => ?_) | refine condK_dec (fun h => ?_) (fun h => ?_) | refine condK_if (fun h => ?_) (fun h => ?_) | (refine ret_s [] ?_; simp (decide := true) (disch := omega) only [go_sem, ↓reduceIte, ↓put_at]))))
        simp only [hx0]
        refine gcmpA_s _ _ _ (.inl rfl) (by simp (decide := true) (disch := omega) only [go_sem, ↓reduceIte, ↓put_at]) (by simp (decide := true) (disch := omega) only [go_sem, ↓reduceIte, ↓put_at]) (by simp (decide := true) (disch := omega) only [go_sem, ↓reduceIte, ↓put_at]) (by kernel_rfl) (eq16_ x0.id e.id x0.up e.up x0.rate e.rate) ?_
        rw [decide_eq_false hne]
        (repeat' ((first | refine aw_seq ?_ | refine aw_block ?_ | refine aw_reg hC (by kernel_rfl) ?_ | refine aw_regd hC Try.checked.mixed (by kernel_rfl) ?_ | refine chk_and (by kernel_rfl) ?_ | refine aw_skip ?_ | refine aw_if ?_ | refine And.intro (by first | omega | with_reducible assumption) ?_ | refine aw_exit ?_ | refine aw_ret ?_ | (simp (decide := true) (disch := omega) only [go_sem, ↓reduceIte, ↓put_at]) | refine condK_eq (fun h => ?_) (fun h => ?_) | refine condK_dec (fun h => ?_) (fun h => ?_) | refine condK_if (fun h => ?_) (fun h => ?_) | (refine ret_s [] ?_; simp (decide := true) (disch := omega) only [go_sem, ↓reduceIte, ↓put_at]))))
        rw [List.map_set]
  · have hT : tSet t e = (t, false, 6) := by unfold tSet; rw [if_neg hok]
    rw [hT]
    have hok3 : ¬ (1 ≤ e.id ∧ e.id ≤ 15 ∧ 0 ≤ e.rate ∧ e.rate ≤ 65535) := hok
    generalize atP t.l e.id = A at *
    generalize hasP t.l e.id = B at *
    by_cases h1 : e.id < 1
    · refine spec_of Try.func16 rfl Try.ntmps16 Try.results16 ⟨by decide, by simp⟩ fun C hC => ?_
      (repeat' ((first | refine aw_seq ?_ | refine aw_block ?_ | refine aw_reg hC (by kernel_rfl) ?_ | refine aw_regd hC Try.checked.mixed (by kernel_rfl) ?_ | refine chk_and (by kernel_rfl) ?_ | refine aw_skip ?_ | refine aw_if ?_ | refine And.intro (by first | omega | with_reducible assumption) ?_ | refine aw_exit ?_ | refine aw_ret ?_ | (simp (decide := true) (disch := omega) only [go_sem, ↓reduceIte, ↓put_at]) | refine pcall_u Try.call62 (c) (by simp (decide := true) (disch := omega) only [go_sem, ↓reduceIte, ↓put_at]; first | done | assumption | omega) ?_ | refine condK_eq (fun h => ?_) (fun h => ?_) | refine condK_dec (fun h => ?_) (fun h => ?_) | refine condK_if (fun h => ?_) (fun h => ?_) | (refine ret_s [] ?_; simp (decide := true) (disch := omega) only [go_sem, ↓reduceIte, ↓put_at]))))
    · by_cases h2 : 15 < e.id
      · refine spec_of Try.func16 rfl Try.ntmps16 Try.results16 ⟨by decide, by simp⟩ fun C hC => ?_
        (repeat' ((first | refine aw_seq ?_ | refine aw_block ?_ | refine aw_reg hC (by kernel_rfl) ?_ | refine aw_regd hC Try.checked.mixed (by kernel_rfl) ?_ | refine chk_and (by kernel_rfl) ?_ | refine aw_skip ?_ | refine aw_if ?_ | refine And.intro (by first | omega | with_reducible assumption) ?_ | refine aw_exit ?_ | refine aw_ret ?_ | (simp (decide := true) (disch := omega) only [go_sem, ↓reduceIte, ↓put_at]) | refine pcall_u Try.call62 (c) (by simp (decide := true) (disch := omega) only [go_sem, ↓reduceIte, ↓put_at]; first | done | assumption | omega) ?_ | refine condK_eq (fun h => ?_) (fun h => ?_) | refine condK_dec (fun h => ?_) (fun h => ?_) | refine condK_if (fun h => ?_) (fun h => ?_) | (refine ret_s [] ?_; simp (decide := true) (disch := omega) only [go_sem, ↓reduceIte, ↓put_at]))))
      · by_cases h3 : e.rate < 0
        · refine spec_of Try.func16 rfl Try.ntmps16 Try.results16 ⟨by decide, by simp⟩ fun C hC => ?_
          (repeat' ((first | refine aw_seq ?_ | refine aw_block ?_ | refine aw_reg hC (by kernel_rfl) ?_ | refine aw_regd hC Try.checked.mixed (by kernel_rfl) ?_ | refine chk_and (by kernel_rfl) ?_ | refine aw_skip ?_ | refine aw_if ?_ | refine And.intro (by first | omega | with_reducible assumption) ?_ | refine aw_exit ?_ | refine aw_ret ?_ | (simp (decide := true) (disch := omega) only [go_sem, ↓reduceIte, ↓put_at]) | refine pcall_u Try.call62 (c) (by simp (decide := true) (disch := omega) only [go_sem, ↓reduceIte, ↓put_at]; first | done | assumption | omega) ?_ | refine condK_eq (fun h => ?_) (fun h => ?_) | refine condK_dec (fun h => ?_) (fun h => ?_) | refine condK_if (fun h => ?_) (fun h => ?_) | (refine ret_s [] ?_; simp (decide := true) (disch := omega) only [go_sem, ↓reduceIte, ↓put_at]))))
        · have h4 : 65535 < e.rate := by omega
          refine spec_of Try.func16 rfl Try.ntmps16 Try.results16 ⟨by decide, by simp⟩ fun C hC => ?_
          (repeat' ((first | refine aw_seq ?_ | refine aw_block ?_ | refine aw_reg hC (by kernel_rfl) ?_ | refine aw_regd hC Try.checked.mixed (by kernel_rfl) ?_ | refine chk_and (by kernel_rfl) ?_ | refine aw_skip ?_ | refine aw_if ?_ | refine And.intro (by first | omega | with_reducible assumption) ?_ | refine aw_exit ?_ | refine aw_ret ?_ | (simp (decide := true) (disch := omega) only [go_sem, ↓reduceIte, ↓put_at]) | refine pcall_u Try.call62 (c) (by simp (decide := true) (disch := omega) only [go_sem, ↓reduceIte, ↓put_at]; first | done | assumption | omega) ?_ | refine condK_eq (fun h => ?_) (fun h => ?_) | refine condK_dec (fun h => ?_) (fun h => ?_) | refine condK_if (fun h => ?_) (fun h => ?_) | (refine ret_s [] ?_; simp (decide := true) (disch := omega) only [go_sem, ↓reduceIte, ↓put_at]))))
end Go.Proofs.Ytdgkehoodlncmaa
