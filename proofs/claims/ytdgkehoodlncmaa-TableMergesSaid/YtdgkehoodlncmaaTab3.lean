
/- Layer 16: the fixed fact, and: in whatever order paths are set, there are the same ones; walked. -/
import Derived.Test.YtdgkehoodlncmaaTab2
namespace Go.Proofs.Ytdgkehoodlncmaa
open Go.RowKit
set_option linter.unusedVariables false
set_option linter.unusedSimpArgs false

set_option maxRecDepth 100000 in
set_option maxHeartbeats 4000000 in
theorem same_01 (a b : List Int) (ha : a.length ≤ 1000000) (hb : b.length ≤ 1000000) : Spec Try.prog 60 [.ca (.val (.lst 1 (a.map iEl))), .ca (.val (.lst 1 (b.map iEl)))] [] (.ca (.val (vb (decide (a = b))))) [] := by
  by_cases hne : a.length = b.length
  · refine spec_of Try.func60 rfl Try.ntmps60 Try.results60 ⟨by decide, by simp⟩ fun C hC => ?_
    (repeat' ((fail_if_success (refine stop_reg 4 ?_)); (first | refine aw_seq ?_ | refine aw_block ?_ | refine aw_reg hC (by kernel_rfl) ?_ | refine aw_regd hC Try.checked.mixed (by kernel_rfl) ?_ | refine chk_and (by kernel_rfl) ?_ | refine aw_skip ?_ | refine aw_if ?_ | refine And.intro (by first | omega | with_reducible assumption) ?_ | refine aw_exit ?_ | refine aw_ret ?_ | (simp (decide := true) (disch := omega) only [go_sem, ↓reduceIte, ↓put_at]) | (refine ret_s [] ?_; simp (decide := true) (disch := omega) only [go_sem, ↓reduceIte, ↓put_at]))))
    refine loop_s (α := {j : Nat // j ≤ a.length ∧ a.take j = b.take j}) (fun j => [(.s 0, .av (.val (.lst 1 (a.map iEl)))), (.s 1, .av (.val (.lst 1 (b.map iEl)))), (.s 12, .av (.val (vi a.length))), (.s 13, .av (.val (vi j.1)))]) (fun j => a.length - j.1) ⟨0, Nat.zero_le _, rfl⟩ ?_ (fun j => ?_)
    · simp (decide := true) (disch := omega) only [go_sem, ↓reduceIte, ↓put_at]
    · obtain ⟨j, hj, hq⟩ := j
      dsimp only at hj hq ⊢
      by_cases hlt : j < a.length
      · have hlt2 : j < b.length := by omega
        have h1 : (a.map iEl).getD j [] = iEl a[j] := by simp [hlt]
        have h2 : (b.map iEl).getD j [] = iEl b[j] := by simp [hlt2]
        by_cases he : a[j] = b[j]
        · (repeat' ((first | refine aw_seq ?_ | refine aw_block ?_ | refine aw_reg hC (by kernel_rfl) ?_ | refine aw_regd hC Try.checked.mixed (by kernel_rfl) ?_ | refine chk_and (by kernel_rfl) ?_ | refine aw_skip ?_ | refine aw_if ?_ | refine And.intro (by first | omega | with_reducible assumption) ?_ | refine aw_exit ?_ | refine aw_ret ?_ | (simp (decide := true) (disch := omega) only [go_sem, ↓reduceIte, ↓put_at]) | (refine ret_s [] ?_; simp (decide := true) (disch := omega) only [go_sem, ↓reduceIte, ↓put_at]))))
          refine next_s (α := {j : Nat // j ≤ a.length ∧ a.take j = b.take j}) ⟨j + 1, hlt, by rw [← List.take_append_getElem hlt, ← List.take_append_getElem hlt2, hq, he]⟩ ⟨?_, ?_⟩
          · simp (decide := true) (disch := omega) only [go_sem, ↓reduceIte, ↓put_at]
          · (try dsimp only)
            omega
        · rw [decide_eq_false (fun h : a = b => he (by subst h; rfl))]
          (repeat' ((first | refine aw_seq ?_ | refine aw_block ?_ | refine aw_reg hC (by kernel_rfl) ?_ | refine aw_regd hC Try.checked.mixed (by kernel_rfl) ?_ | refine chk_and (by kernel_rfl) ?_ | refine aw_skip ?_ | refine aw_if ?_ | refine And.intro (by first | omega | with_reducible assumption) ?_ | refine aw_exit ?_ | refine aw_ret ?_ | (simp (decide := true) (disch := omega) only [go_sem, ↓reduceIte, ↓put_at]) | (refine ret_s [] ?_; simp (decide := true) (disch := omega) only [go_sem, ↓reduceIte, ↓put_at]))))
      · obtain rfl : j = a.length := by omega
        have : a = b := by
          rw [List.take_length] at hq
          rw [hq, List.take_of_length_le (by omega)]
        rw [decide_eq_true this]
        (repeat' ((first | refine aw_seq ?_ | refine aw_block ?_ | refine aw_reg hC (by kernel_rfl) ?_ | refine aw_regd hC Try.checked.mixed (by kernel_rfl) ?_ | refine chk_and (by kernel_rfl) ?_ | refine aw_skip ?_ | refine aw_if ?_ | refine And.intro (by first | omega | with_reducible assumption) ?_ | refine aw_exit ?_ | refine aw_ret ?_ | (simp (decide := true) (disch := omega) only [go_sem, ↓reduceIte, ↓put_at]) | (refine ret_s [] ?_; simp (decide := true) (disch := omega) only [go_sem, ↓reduceIte, ↓put_at]))))
  · rw [decide_eq_false (fun h : a = b => hne (by rw [h]))]
    refine spec_of Try.func60 rfl Try.ntmps60 Try.results60 ⟨by decide, by simp⟩ fun C hC => ?_
    (repeat' ((first | refine aw_seq ?_ | refine aw_block ?_ | refine aw_reg hC (by kernel_rfl) ?_ | refine aw_regd hC Try.checked.mixed (by kernel_rfl) ?_ | refine chk_and (by kernel_rfl) ?_ | refine aw_skip ?_ | refine aw_if ?_ | refine And.intro (by first | omega | with_reducible assumption) ?_ | refine aw_exit ?_ | refine aw_ret ?_ | (simp (decide := true) (disch := omega) only [go_sem, ↓reduceIte, ↓put_at]) | (refine ret_s [] ?_; simp (decide := true) (disch := omega) only [go_sem, ↓reduceIte, ↓put_at]))))
theorem aw1 : tSet ⟨1, 0, []⟩ ⟨3, true, 0⟩ = (⟨1, 1, [⟨3, true, 0⟩]⟩, true, 0) := by simp [tSet, okE, hasP, setL]
theorem aw2 : tSet ⟨1, 1, [⟨3, true, 0⟩]⟩ ⟨4, false, 0⟩ = (⟨1, 1, [⟨3, true, 0⟩]⟩, false, 8) := by simp [tSet, okE, hasP]
theorem aw_ok0 : TbOk ⟨1, 0, []⟩ := ⟨List.Pairwise.nil, fun e h => by simp at h, by simp⟩
set_option maxRecDepth 100000 in
set_option maxHeartbeats 4000000 in
theorem awake16 : Spec Try.prog 14 [] [] (.ca (.val (vb true))) [] := by
  have c0 := t_new 1
  rw [show max 1 (min (1 : Int) 15) = 1 by decide] at c0
  have c1 := t_set ⟨1, 0, []⟩ aw_ok0 ⟨3, true, 0⟩ ⟨by decide, by decide⟩
  have hok1 : TbOk (tSet ⟨1, 0, []⟩ ⟨3, true, 0⟩).1 := tSet_ok aw_ok0 _
  rw [aw1] at c1 hok1
  have c2 := t_set ⟨1, 1, [⟨3, true, 0⟩]⟩ hok1 ⟨4, false, 0⟩ ⟨by decide, by decide⟩
  rw [aw2] at c2
  have c3 : Spec Try.prog 59 [.ca (.val (.ep [vi 1, vi 1, .lst 3 [[vi 3, vb true, vi 0]]]))] [] (.ca (.val (vi 1))) [] := t_len ⟨1, 1, [⟨3, true, 0⟩]⟩
  have c4 := t_up ⟨1, 1, [⟨3, true, 0⟩]⟩ (by simp)
  rw [show upsN [⟨3, true, 0⟩] = [3] from rfl] at c4
  have c5 := same_01 [3] [3] (by simp) (by simp)
  rw [decide_eq_true rfl] at c5
  refine spec_of Try.func14 rfl Try.ntmps14 Try.results14 ⟨by decide, by simp⟩ fun C hC => ?_
  (repeat' ((first | refine aw_seq ?_ | refine aw_block ?_ | refine aw_reg hC (by kernel_rfl) ?_ | refine aw_regd hC Try.checked.mixed (by kernel_rfl) ?_ | refine chk_and (by kernel_rfl) ?_ | refine aw_skip ?_ | refine aw_if ?_ | refine And.intro (by first | omega | with_reducible assumption) ?_ | refine aw_exit ?_ | refine aw_ret ?_ | (simp (decide := true) (disch := omega) only [go_sem, ↓reduceIte, ↓put_at]) | refine call_u Try.call15 (c0) [] (by simp (decide := true) (disch := omega) only [go_sem, ↓reduceIte, ↓put_at]; first | done | assumption | omega) ?_ | refine call_u Try.call16 (c1) [(6, 0)] (by simp (decide := true) (disch := omega) only [go_sem, ↓reduceIte, ↓put_at]; first | done | assumption | omega) ?_ | refine call_u Try.call16 (c2) [(6, 0)] (by simp (decide := true) (disch := omega) only [go_sem, ↓reduceIte, ↓put_at]; first | done | assumption | omega) ?_ | refine pcall_u Try.call59 (c3) (by simp (decide := true) (disch := omega) only [go_sem, ↓reduceIte, ↓put_at]; first | done | assumption | omega) ?_ | refine call_u Try.call61 (c4) [(6, 0)] (by simp (decide := true) (disch := omega) only [go_sem, ↓reduceIte, ↓put_at]; first | done | assumption | omega) ?_ | refine call_u Try.call60 (c5) [] (by simp (decide := true) (disch := omega) only [go_sem, ↓reduceIte, ↓put_at]; first | done | assumption | omega) ?_ | refine pnil_u (by first | exact .inl rfl | exact .inr rfl) (by simp (decide := true) (disch := omega) only [go_sem, ↓reduceIte, ↓put_at]; first | done | assumption | omega) ?_ | refine condK_eq (fun h => ?_) (fun h => ?_) | refine condK_dec (fun h => ?_) (fun h => ?_) | refine condK_if (fun h => ?_) (fun h => ?_) | (refine ret_s [] ?_; simp (decide := true) (disch := omega) only [go_sem, ↓reduceIte, ↓put_at]))))
/-- Numbers that were seen. -/
def seenK (s : List Int) : List (Value × T) := s.map fun z => (.int .i64 z, .av (.sc (.bool true)))
theorem seen_get (s : List Int) (z : Int) : kvGet (seenK s) (.int .i64 z) = if z ∈ s then some (.av (.sc (.bool true))) else none := by
  induction s with
  | nil => rfl
  | cons x s ih =>
    show kvGet ((_, _) :: seenK s) _ = _
    rw [kvGet_cons]
    by_cases h : x = z
    · subst h; simp
    · rw [if_neg (by simpa using h), ih]
      have : z ≠ x := fun e => h e.symm
      simp [this]
theorem seen_set (s : List Int) (z : Int) : kvSet (seenK s) (.int .i64 z) (.av (.sc (.bool true))) = seenK (if z ∈ s then s else s ++ [z]) := by
  induction s with
  | nil => rfl
  | cons x s ih =>
    show kvSet ((_, _) :: seenK s) _ _ = _
    rw [kvSet_cons]
    by_cases h : x = z
    · subst h; simp [seenK]
    · have h2 : z ≠ x := fun e => h e.symm
      rw [if_neg (by simpa using h), ih]
      by_cases hz : z ∈ s
      · simp [hz, seenK]
      · simp [hz, h2, seenK]
theorem seen_keys (s : List Int) : keysIs (.int .i64) ((seenK s).map (·.1)) = True := eq_true (keysIs_of fun k hk => by
  obtain ⟨p, hp, rfl⟩ := List.mem_map.1 hk
  obtain ⟨z, _, rfl⟩ := List.mem_map.1 hp
  exact rfl)
attribute [go_sem] seen_keys seen_set
theorem tSets_ver (t : Tb) (es : List En) : t.ver ≤ (tSets t es).ver ∧ (tSets t es).ver ≤ t.ver + es.length := by
  induction es generalizing t with
  | nil => exact ⟨Int.le_refl _, by simp [tSets]⟩
  | cons e es ih =>
    have := ih (tSet t e).1
    have h2 : t.ver ≤ (tSet t e).1.ver ∧ (tSet t e).1.ver ≤ t.ver + 1 := by
      unfold tSet
      (repeat' split) <;> simp <;> omega
    simp only [tSets, List.length_cons]
    omega
set_option maxRecDepth 100000 in
set_option maxHeartbeats 8000000 in
theorem order_walk (l : List En) (hl : l.length ≤ maxLen) : Spec Try.prog 3 [.ca (.val (.lst 3 (l.map enEl)))] [] (.ca (.val (vb true))) [] := by
  have c0 := awake16
  have cn := t_new 15
  rw [show max 1 (min (15 : Int) 15) = 15 by decide] at cn
  refine spec_of Try.func3 rfl Try.ntmps3 Try.results3 ⟨by decide, by simp⟩ fun C hC => ?_
  (repeat' ((fail_if_success (refine stop_reg 6 ?_)); (first | refine aw_seq ?_ | refine aw_block ?_ | refine aw_reg hC (by kernel_rfl) ?_ | refine aw_regd hC Try.checked.mixed (by kernel_rfl) ?_ | refine chk_and (by kernel_rfl) ?_ | refine aw_skip ?_ | refine aw_if ?_ | refine And.intro (by first | omega | with_reducible assumption) ?_ | refine aw_exit ?_ | refine aw_ret ?_ | (simp (decide := true) (disch := omega) only [go_sem, ↓reduceIte, ↓put_at]) | refine call_u Try.call14 (c0) [] (by simp (decide := true) (disch := omega) only [go_sem, ↓reduceIte, ↓put_at]; first | done | assumption | omega) ?_ | (refine ret_s [] ?_; simp (decide := true) (disch := omega) only [go_sem, ↓reduceIte, ↓put_at]))))
  refine own_s 3 (3, 1) 26 3 ?_
  simp (decide := true) (disch := omega) only [go_sem, ↓reduceIte, ↓put_at]
  refine meetB_s (α := {once : List En // (once.map (·.id)).Nodup ∧ once.length ≤ 15}) (fun once => [(.s 2, .av (.val (vb false))), (.k (3, 1), .row 26 3 once.1.length), (.s 3, .av (.own (3, 1) 0 26 3 (once.1.map enEl)))]) ?_ (fun once => ?_)
  refine loop_s (α := {x : Nat × List En // x.1 ≤ l.length ∧ x.1 ≤ 15 ∧ (x.2.map (·.id)).Nodup ∧ x.2.length ≤ x.1}) (fun x => [(.s 0, .av (.val (.lst 3 (l.map enEl)))), (.s 2, .av (.val (vb false))), (.k (3, 1), .row 26 3 x.1.2.length), (.s 3, .av (.own (3, 1) 0 26 3 (x.1.2.map enEl))), (.r (14, 1), .tree (.mp (seenK (x.1.2.map (·.id))))), (.s 4, .av (.ref (14, 1) 0)), (.s 5, .av (.val (vi x.1.1)))]) (fun x => 15 - x.1.1) ⟨(0, []), by simp, by simp, List.nodup_nil, by simp⟩ ?_ (fun x => ?_)
  · simp only [List.map_nil, show seenK [] = [] from rfl]
    simp (decide := true) (disch := omega) only [go_sem, ↓reduceIte, ↓put_at]
  · obtain ⟨⟨i, once⟩, hi, hi2, hn, hol⟩ := x
    dsimp only at hi hi2 hn hol ⊢
    by_cases hlt : i < l.length ∧ i < 15
    · obtain ⟨hlt, hlt2⟩ := hlt
      have hge : (l.map enEl).getD i [] = enEl l[i] := by simp [hlt]
      by_cases hs : l[i].id ∈ once.map (·.id)
      · have hget := seen_get (once.map (·.id)) l[i].id
        rw [if_pos hs] at hget
        (repeat' ((first | refine aw_seq ?_ | refine aw_block ?_ | refine aw_reg hC (by kernel_rfl) ?_ | refine aw_regd hC Try.checked.mixed (by kernel_rfl) ?_ | refine chk_and (by kernel_rfl) ?_ | refine aw_skip ?_ | refine aw_if ?_ | refine And.intro (by first | omega | with_reducible assumption) ?_ | refine aw_exit ?_ | refine aw_ret ?_ | (simp (decide := true) (disch := omega) only [go_sem, ↓reduceIte, ↓put_at]) | (refine ret_s [] ?_; simp (decide := true) (disch := omega) only [go_sem, ↓reduceIte, ↓put_at]))))
        simp only [hget]
        (repeat' ((first | refine aw_seq ?_ | refine aw_block ?_ | refine aw_reg hC (by kernel_rfl) ?_ | refine aw_regd hC Try.checked.mixed (by kernel_rfl) ?_ | refine chk_and (by kernel_rfl) ?_ | refine aw_skip ?_ | refine aw_if ?_ | refine And.intro (by first | omega | with_reducible assumption) ?_ | refine aw_exit ?_ | refine aw_ret ?_ | (simp (decide := true) (disch := omega) only [go_sem, ↓reduceIte, ↓put_at]) | (refine ret_s [] ?_; simp (decide := true) (disch := omega) only [go_sem, ↓reduceIte, ↓put_at]))))
        rw [if_pos hs]
        refine next_s (α := {x : Nat × List En // x.1 ≤ l.length ∧ x.1 ≤ 15 ∧ (x.2.map (·.id)).Nodup ∧ x.2.length ≤ x.1}) ⟨(i + 1, once), hlt, hlt2, hn, by dsimp only; omega⟩ ⟨?_, ?_⟩
        · simp (decide := true) (disch := omega) only [go_sem, ↓reduceIte, ↓put_at]
        · (try dsimp only)
          omega
      · have hget := seen_get (once.map (·.id)) l[i].id
        rw [if_neg hs] at hget
        (repeat' ((first | refine aw_seq ?_ | refine aw_block ?_ | refine aw_reg hC (by kernel_rfl) ?_ | refine aw_regd hC Try.checked.mixed (by kernel_rfl) ?_ | refine chk_and (by kernel_rfl) ?_ | refine aw_skip ?_ | refine aw_if ?_ | refine And.intro (by first | omega | with_reducible assumption) ?_ | refine aw_exit ?_ | refine aw_ret ?_ | (simp (decide := true) (disch := omega) only [go_sem, ↓reduceIte, ↓put_at]) | (refine ret_s [] ?_; simp (decide := true) (disch := omega) only [go_sem, ↓reduceIte, ↓put_at]))))
        simp only [hget]
        (repeat' ((first | refine aw_seq ?_ | refine aw_block ?_ | refine aw_reg hC (by kernel_rfl) ?_ | refine aw_regd hC Try.checked.mixed (by kernel_rfl) ?_ | refine chk_and (by kernel_rfl) ?_ | refine aw_skip ?_ | refine aw_if ?_ | refine And.intro (by first | omega | with_reducible assumption) ?_ | refine aw_exit ?_ | refine aw_ret ?_ | (simp (decide := true) (disch := omega) only [go_sem, ↓reduceIte, ↓put_at]) | (refine ret_s [] ?_; simp (decide := true) (disch := omega) only [go_sem, ↓reduceIte, ↓put_at]))))
        rw [if_neg hs]
        refine next_s (α := {x : Nat × List En // x.1 ≤ l.length ∧ x.1 ≤ 15 ∧ (x.2.map (·.id)).Nodup ∧ x.2.length ≤ x.1}) ⟨(i + 1, once ++ [l[i]]), hlt, hlt2, by rw [List.map_append]; exact List.nodup_append.2 ⟨hn, by simp, fun a ha b hb => by simp at hb; subst hb; exact fun e => hs (e ▸ ha)⟩, by simp; omega⟩ ⟨?_, ?_⟩
        · (try dsimp only)
          simp (decide := true) (disch := omega) only [go_sem, ↓reduceIte, ↓put_at]
          rw [List.map_append, List.map_append]
          exact ⟨rfl, rfl⟩
        · (try dsimp only)
          omega
    · by_cases h15 : i < l.length
      · have h16 : ¬ i < 15 := fun h => hlt ⟨h15, h⟩
        (repeat' ((first | refine aw_seq ?_ | refine aw_block ?_ | refine aw_reg hC (by kernel_rfl) ?_ | refine aw_regd hC Try.checked.mixed (by kernel_rfl) ?_ | refine chk_and (by kernel_rfl) ?_ | refine aw_skip ?_ | refine aw_if ?_ | refine And.intro (by first | omega | with_reducible assumption) ?_ | refine aw_exit ?_ | refine aw_ret ?_ | (simp (decide := true) (disch := omega) only [go_sem, ↓reduceIte, ↓put_at]) | (refine ret_s [] ?_; simp (decide := true) (disch := omega) only [go_sem, ↓reduceIte, ↓put_at]))))
        refine at_meet ⟨once, hn, by omega⟩ ?_
        simp (decide := true) (disch := omega) only [go_sem, ↓reduceIte, ↓put_at]
      · (repeat' ((first | refine aw_seq ?_ | refine aw_block ?_ | refine aw_reg hC (by kernel_rfl) ?_ | refine aw_regd hC Try.checked.mixed (by kernel_rfl) ?_ | refine chk_and (by kernel_rfl) ?_ | refine aw_skip ?_ | refine aw_if ?_ | refine And.intro (by first | omega | with_reducible assumption) ?_ | refine aw_exit ?_ | refine aw_ret ?_ | (simp (decide := true) (disch := omega) only [go_sem, ↓reduceIte, ↓put_at]) | (refine ret_s [] ?_; simp (decide := true) (disch := omega) only [go_sem, ↓reduceIte, ↓put_at]))))
        refine at_meet ⟨once, hn, by omega⟩ ?_
        simp (decide := true) (disch := omega) only [go_sem, ↓reduceIte, ↓put_at]
  obtain ⟨once, hn, hol⟩ := once
  dsimp only
  (repeat' ((fail_if_success (refine stop_reg 15 ?_)); (first | refine aw_seq ?_ | refine aw_block ?_ | refine aw_reg hC (by kernel_rfl) ?_ | refine aw_regd hC Try.checked.mixed (by kernel_rfl) ?_ | refine chk_and (by kernel_rfl) ?_ | refine aw_skip ?_ | refine aw_if ?_ | refine And.intro (by first | omega | with_reducible assumption) ?_ | refine aw_exit ?_ | refine aw_ret ?_ | (simp (decide := true) (disch := omega) only [go_sem, ↓reduceIte, ↓put_at]) | refine call_u Try.call15 (cn) [] (by simp (decide := true) (disch := omega) only [go_sem, ↓reduceIte, ↓put_at]; first | done | assumption | omega) ?_ | refine pnil_u (by first | exact .inl rfl | exact .inr rfl) (by simp (decide := true) (disch := omega) only [go_sem, ↓reduceIte, ↓put_at]; first | done | assumption | omega) ?_ | (refine ret_s [] ?_; simp (decide := true) (disch := omega) only [go_sem, ↓reduceIte, ↓put_at]))))
  refine loop_s (α := {x : Nat × Tb × Tb // x.1 ≤ once.length ∧ x.2.1 = tSets tNew (once.take x.1) ∧ x.2.2 = tSets tNew (once.reverse.take x.1)}) (fun x => [(.s 2, .av (.val (vb false))), (.k (3, 1), .row 26 3 once.length), (.s 3, .av (.own (3, 1) 0 26 3 (once.map enEl))), (.r (46, 3), .tree (.rw 32 3 (x.1.2.1.l.map enEl))), (.o (46, 0), .num 3), (.c (46, 0) 0, .av (.val (vi x.1.2.1.most))), (.c (46, 0) 1, .av (.val (vi x.1.2.1.ver))), (.c (46, 0) 2, .av (.ref (46, 3) 0)), (.r (47, 3), .tree (.rw 32 3 (x.1.2.2.l.map enEl))), (.o (47, 0), .num 3), (.c (47, 0) 0, .av (.val (vi x.1.2.2.most))), (.c (47, 0) 1, .av (.val (vi x.1.2.2.ver))), (.c (47, 0) 2, .av (.ref (47, 3) 0)), (.s 6, .av (.ptr (46, 0) 0 0)), (.s 7, .av (.ptr (47, 0) 0 0)), (.s 55, .av (.val (vi once.length))), (.s 56, .av (.val (vi x.1.1)))]) (fun x => once.length - x.1.1) ⟨(0, ⟨15, 0, []⟩, ⟨15, 0, []⟩), Nat.zero_le _, rfl, rfl⟩ ?_ (fun x => ?_)
  · simp (decide := true) (disch := omega) only [go_sem, ↓reduceIte, ↓put_at]
  · obtain ⟨⟨j, A, B⟩, hj, hA, hB⟩ := x
    dsimp only at hj hA hB ⊢
    have okA : TbOk A := by rw [hA]; exact tSets_ok tNew_ok _
    have okB : TbOk B := by rw [hB]; exact tSets_ok tNew_ok _
    by_cases hlt : j < once.length
    · have hlt2 : once.length - 1 - j < once.length := by omega
      have vA := tSets_ver tNew (once.take j)
      have vB := tSets_ver tNew (once.reverse.take j)
      rw [← hA, List.length_take] at vA
      rw [← hB, List.length_take] at vB
      have v0 : tNew.ver = 0 := rfl
      have cA := t_set A okA once[j] ⟨by omega, by omega⟩
      have cB := t_set B okB once[once.length - 1 - j] ⟨by omega, by omega⟩
      have hgA : (once.map enEl).getD j [] = enEl once[j] := by simp [hlt]
      have hnA : (tSet A once[j]).1 = tSets tNew (once.take (j + 1)) := by rw [← List.take_append_getElem hlt, tSets_app, ← hA]; rfl
      have hnB : (tSet B once[once.length - 1 - j]).1 = tSets tNew (once.reverse.take (j + 1)) := by
        have hr : j < once.reverse.length := by simpa using hlt
        rw [← List.take_append_getElem hr, tSets_app, ← hB, List.getElem_reverse]; rfl
      generalize (tSet A once[j]) = A2 at *
      generalize hm : once[once.length - 1 - j] = eB at *
      generalize (tSet B eB) = B2 at *
      have hix : ((once.length : Int) - 1 - j).toNat = once.length - 1 - j := by omega
      have he : ∀ h : ((once.length : Int) - 1 - j).toNat < once.length, once[((once.length : Int) - 1 - j).toNat]'h = eB := fun h => by rw [← hm]; simp only [hix]
      (repeat' ((first | refine aw_seq ?_ | refine aw_block ?_ | refine aw_reg hC (by kernel_rfl) ?_ | refine aw_regd hC Try.checked.mixed (by kernel_rfl) ?_ | refine chk_and (by kernel_rfl) ?_ | refine aw_skip ?_ | refine aw_if ?_ | refine And.intro (by first | omega | with_reducible assumption) ?_ | refine aw_exit ?_ | refine aw_ret ?_ | (simp (decide := true) (disch := omega) only [go_sem, ↓reduceIte, ↓put_at]) | refine call_u Try.call16 (cA) [(46, 0)] (by simp (decide := true) (disch := omega) only [go_sem, ↓reduceIte, ↓put_at]; first | done | assumption | omega) ?_ | refine call_u Try.call16 (cB) [(47, 0)] (by simp (decide := true) (disch := omega) only [go_sem, ↓reduceIte, ↓put_at]; first | done | assumption | omega) ?_ | (refine ret_s [] ?_; simp (decide := true) (disch := omega) only [go_sem, ↓reduceIte, ↓put_at]))))
      simp only [he]
      (repeat' ((first | refine aw_seq ?_ | refine aw_block ?_ | refine aw_reg hC (by kernel_rfl) ?_ | refine aw_regd hC Try.checked.mixed (by kernel_rfl) ?_ | refine chk_and (by kernel_rfl) ?_ | refine aw_skip ?_ | refine aw_if ?_ | refine And.intro (by first | omega | with_reducible assumption) ?_ | refine aw_exit ?_ | refine aw_ret ?_ | (simp (decide := true) (disch := omega) only [go_sem, ↓reduceIte, ↓put_at]) | refine call_u Try.call16 (cA) [(46, 0)] (by simp (decide := true) (disch := omega) only [go_sem, ↓reduceIte, ↓put_at]; first | done | assumption | omega) ?_ | refine call_u Try.call16 (cB) [(47, 0)] (by simp (decide := true) (disch := omega) only [go_sem, ↓reduceIte, ↓put_at]; first | done | assumption | omega) ?_ | (refine ret_s [] ?_; simp (decide := true) (disch := omega) only [go_sem, ↓reduceIte, ↓put_at]))))
      refine next_s (α := {x : Nat × Tb × Tb // x.1 ≤ once.length ∧ x.2.1 = tSets tNew (once.take x.1) ∧ x.2.2 = tSets tNew (once.reverse.take x.1)}) ⟨(j + 1, A2.1, B2.1), hlt, hnA, hnB⟩ ⟨?_, ?_⟩
      · simp (decide := true) (disch := omega) only [go_sem, ↓reduceIte, ↓put_at]
      · (try dsimp only)
        omega
    · obtain rfl : j = once.length := by omega
      rw [List.take_length] at hA
      rw [List.take_of_length_le (by simp), order16 once hn, ← hA] at hB
      subst hB
      have ca := t_all B (by have := okB.few; omega)
      have cv := t_ver B
      have hfw := okB.few
      (repeat' ((fail_if_success (refine stop_reg 24 ?_)); (first | refine aw_seq ?_ | refine aw_block ?_ | refine aw_reg hC (by kernel_rfl) ?_ | refine aw_regd hC Try.checked.mixed (by kernel_rfl) ?_ | refine chk_and (by kernel_rfl) ?_ | refine aw_skip ?_ | refine aw_if ?_ | refine And.intro (by first | omega | with_reducible assumption) ?_ | refine aw_exit ?_ | refine aw_ret ?_ | (simp (decide := true) (disch := omega) only [go_sem, ↓reduceIte, ↓put_at]) | refine pcallT_u Try.call17 (ca) ((en_flat B.l)) (by simp (decide := true) (disch := omega) only [go_sem, ↓reduceIte, ↓put_at]; first | done | assumption | omega) ?_ | refine pcall_u Try.call18 (cv) (by simp (decide := true) (disch := omega) only [go_sem, ↓reduceIte, ↓put_at]; first | done | assumption | omega) ?_ | (refine ret_s [] ?_; simp (decide := true) (disch := omega) only [go_sem, ↓reduceIte, ↓put_at]))))
      refine loop_s (α := {i : Nat // i ≤ B.l.length}) (fun i => [(.r (77, 1), .tree (.rw 32 3 (B.l.map enEl))), (.r (79, 1), .tree (.rw 32 3 (B.l.map enEl))), (.s 9, .av (.ref (77, 1) 0)), (.s 10, .av (.ref (79, 1) 0)), (.s 93, .av (.val (vi B.l.length))), (.s 94, .av (.val (vi i.1)))]) (fun i => B.l.length - i.1) ⟨0, Nat.zero_le _⟩ ?_ (fun i => ?_)
      · simp (decide := true) (disch := omega) only [go_sem, ↓reduceIte, ↓put_at]
      · obtain ⟨i, hi⟩ := i
        dsimp only at hi ⊢
        by_cases hlt3 : i < B.l.length
        · have hge : (B.l.map enEl).getD i [] = enEl B.l[i] := by simp [hlt3]
          (repeat' ((first | refine aw_seq ?_ | refine aw_block ?_ | refine aw_reg hC (by kernel_rfl) ?_ | refine aw_regd hC Try.checked.mixed (by kernel_rfl) ?_ | refine chk_and (by kernel_rfl) ?_ | refine aw_skip ?_ | refine aw_if ?_ | refine And.intro (by first | omega | with_reducible assumption) ?_ | refine aw_exit ?_ | refine aw_ret ?_ | (simp (decide := true) (disch := omega) only [go_sem, ↓reduceIte, ↓put_at]) | (refine ret_s [] ?_; simp (decide := true) (disch := omega) only [go_sem, ↓reduceIte, ↓put_at]))))
          refine cmpA_s _ _ _ (.inr rfl) (by simp (decide := true) (disch := omega) only [go_sem, ↓reduceIte, ↓put_at]) (by simp (decide := true) (disch := omega) only [go_sem, ↓reduceIte, ↓put_at]) (by kernel_rfl) (ne16_ B.l[i].id B.l[i].id B.l[i].up B.l[i].up B.l[i].rate B.l[i].rate) ?_
          rw [decide_eq_true (show B.l[i].id = B.l[i].id ∧ B.l[i].up = B.l[i].up ∧ B.l[i].rate = B.l[i].rate from ⟨rfl, rfl, rfl⟩)]
          (repeat' ((first | refine aw_seq ?_ | refine aw_block ?_ | refine aw_reg hC (by kernel_rfl) ?_ | refine aw_regd hC Try.checked.mixed (by kernel_rfl) ?_ | refine chk_and (by kernel_rfl) ?_ | refine aw_skip ?_ | refine aw_if ?_ | refine And.intro (by first | omega | with_reducible assumption) ?_ | refine aw_exit ?_ | refine aw_ret ?_ | (simp (decide := true) (disch := omega) only [go_sem, ↓reduceIte, ↓put_at]) | (refine ret_s [] ?_; simp (decide := true) (disch := omega) only [go_sem, ↓reduceIte, ↓put_at]))))
          refine next_s (α := {i : Nat // i ≤ B.l.length}) ⟨i + 1, hlt3⟩ ⟨?_, ?_⟩
          · simp (decide := true) (disch := omega) only [go_sem, ↓reduceIte, ↓put_at]
          · (try dsimp only)
            omega
        · (repeat' ((first | refine aw_seq ?_ | refine aw_block ?_ | refine aw_reg hC (by kernel_rfl) ?_ | refine aw_regd hC Try.checked.mixed (by kernel_rfl) ?_ | refine chk_and (by kernel_rfl) ?_ | refine aw_skip ?_ | refine aw_if ?_ | refine And.intro (by first | omega | with_reducible assumption) ?_ | refine aw_exit ?_ | refine aw_ret ?_ | (simp (decide := true) (disch := omega) only [go_sem, ↓reduceIte, ↓put_at]) | (refine ret_s [] ?_; simp (decide := true) (disch := omega) only [go_sem, ↓reduceIte, ↓put_at]))))
end Go.Proofs.Ytdgkehoodlncmaa
