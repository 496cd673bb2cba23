
/- Package table, walked: what it adverts; the fixed fact of layer 16. -/
import Derived.Test.YtdgkehoodlncmaaTab1
namespace Go.Proofs.Ytdgkehoodlncmaa
open Go.RowKit
set_option linter.unusedVariables false
set_option linter.unusedSimpArgs false

abbrev adV (src : Int) (l : List En) : List V := [.sc (.int .u32 src), .lst 3 (l.map enEl)]
set_option maxRecDepth 100000 in
set_option maxHeartbeats 4000000 in
theorem t_adv (t : Tb) (hl : t.l.length ≤ 1000000) (src : Int) : Spec Try.prog 32 [.ptr 0 0, .ca (.val (.sc (.int .u32 src)))] [tbL t] (.ca (.val (.agg (adV src t.l)))) [tbL t] := by
  refine spec_of Try.func32 rfl Try.ntmps32 Try.results32 ⟨by decide, by simp⟩ fun C hC => ?_
  (repeat' ((fail_if_success (refine stop_reg 3 ?_)); (first | refine aw_seq ?_ | refine aw_block ?_ | refine aw_reg hC (by kernel_rfl) ?_ | refine aw_regd hC Try.checked.mixed (by kernel_rfl) ?_ | refine chk_and (by kernel_rfl) ?_ | refine aw_skip ?_ | refine aw_if ?_ | refine And.intro (by first | omega | with_reducible assumption) ?_ | refine aw_exit ?_ | refine aw_ret ?_ | (simp (decide := true) (disch := omega) only [go_sem, ↓reduceIte, ↓put_at]) | (refine ret_s [] ?_; simp (decide := true) (disch := omega) only [go_sem, ↓reduceIte, ↓put_at]))))
  refine own_c (5, 0) 1 (5, 2) 159 3 ?_
  simp (decide := true) (disch := omega) only [go_sem, ↓reduceIte, ↓put_at]
  refine loop_s (α := {j : Nat // j ≤ t.l.length}) (fun j => [(.s 13, .av (.ref (1000, 3) 0)), (.r (1000, 3), .tree (.rw 32 3 (t.l.map enEl))), (.o (1000, 0), .num 3), (.c (1000, 0) 0, .av (.val (vi t.most))), (.c (1000, 0) 1, .av (.val (vi t.ver))), (.c (1000, 0) 2, .av (.ref (1000, 3) 0)), (.s 14, .av (.val (vi t.l.length))), (.s 15, .av (.val (vi j.1))), (.o (4, 0), .num 2), (.c (4, 0) 0, .av (.val (vu 0))), (.c (4, 0) 1, .av (.val (.sc (.slice none 0 0)))), (.s 4, .av (.ptr (4, 0) 0 0)), (.o (5, 0), .num 2), (.c (5, 0) 0, .av (.val (vu src))), (.k (5, 2), .row 159 3 (t.l.take j.1).length), (.c (5, 0) 1, .av (.own (5, 2) 0 159 3 ((t.l.take j.1).map enEl))), (.s 5, .av (.ptr (5, 0) 0 0))]) (fun j => t.l.length - j.1) ⟨0, Nat.zero_le _⟩ ?_ (fun j => ?_)
  · simp (decide := true) (disch := omega) only [go_sem, ↓reduceIte, ↓put_at]
  · obtain ⟨j, hj⟩ := j
    dsimp only at hj ⊢
    by_cases hlt : j < t.l.length
    · have hge : (t.l.map enEl).getD j [] = enEl (t.l[j]) := by simp [hlt]
      have htk : (t.l.take j).length ≤ 1000000 := by rw [List.length_take]; omega
      have hsn : (t.l.take (j + 1)) = t.l.take j ++ [t.l[j]] := (List.take_append_getElem hlt).symm
      (repeat' ((first | refine aw_seq ?_ | refine aw_block ?_ | refine aw_reg hC (by kernel_rfl) ?_ | refine aw_regd hC Try.checked.mixed (by kernel_rfl) ?_ | refine chk_and (by kernel_rfl) ?_ | refine aw_skip ?_ | refine aw_if ?_ | refine And.intro (by first | omega | with_reducible assumption) ?_ | refine aw_exit ?_ | refine aw_ret ?_ | (simp (decide := true) (disch := omega) only [go_sem, ↓reduceIte, ↓put_at]) | (refine ret_s [] ?_; simp (decide := true) (disch := omega) only [go_sem, ↓reduceIte, ↓put_at]))))
      refine next_s (α := {j : Nat // j ≤ t.l.length}) ⟨j + 1, hlt⟩ ⟨?_, ?_⟩
      · (try dsimp only)
        rw [hsn]
        simp (decide := true) (disch := omega) only [go_sem, ↓reduceIte, ↓put_at]
        (try rw [List.map_append])
        (try rfl)
      · (try dsimp only)
        omega
    · obtain rfl : j = t.l.length := by omega
      rw [List.take_length]
      (repeat' ((first | refine aw_seq ?_ | refine aw_block ?_ | refine aw_reg hC (by kernel_rfl) ?_ | refine aw_regd hC Try.checked.mixed (by kernel_rfl) ?_ | refine chk_and (by kernel_rfl) ?_ | refine aw_skip ?_ | refine aw_if ?_ | refine And.intro (by first | omega | with_reducible assumption) ?_ | refine aw_exit ?_ | refine aw_ret ?_ | (simp (decide := true) (disch := omega) only [go_sem, ↓reduceIte, ↓put_at]) | (refine ret_s [] ?_; simp (decide := true) (disch := omega) only [go_sem, ↓reduceIte, ↓put_at]))))
abbrev iEl (z : Int) : List V := [vi z]
def upsN (l : List En) : List Int := (l.filter (·.up)).map (·.id)
theorem upsN_snoc (l : List En) (e : En) : upsN (l ++ [e]) = if e.up then upsN l ++ [e.id] else upsN l := by
  unfold upsN
  rw [List.filter_append, List.map_append]
  cases h : e.up <;> simp [List.filter, h]
theorem upsN_len (l : List En) : (upsN l).length ≤ l.length := by unfold upsN; rw [List.length_map]; exact List.length_filter_le _ _
set_option maxRecDepth 100000 in
set_option maxHeartbeats 4000000 in
theorem a_up (l : List En) (hl : l.length ≤ 1000000) (src : Int) : Spec Try.prog 111 [.ca (.val (.agg (adV src l)))] [] (.ca (.val (.lst 1 ((upsN l).map iEl)))) [] := by
  refine spec_of Try.func111 rfl Try.ntmps111 Try.results111 ⟨by decide, by simp⟩ fun C hC => ?_
  (repeat' ((fail_if_success (refine stop_reg 3 ?_)); (first | refine aw_seq ?_ | refine aw_block ?_ | refine aw_reg hC (by kernel_rfl) ?_ | refine aw_regd hC Try.checked.mixed (by kernel_rfl) ?_ | refine chk_and (by kernel_rfl) ?_ | refine aw_skip ?_ | refine aw_if ?_ | refine And.intro (by first | omega | with_reducible assumption) ?_ | refine aw_exit ?_ | refine aw_ret ?_ | (simp (decide := true) (disch := omega) only [go_sem, ↓reduceIte, ↓put_at]) | (refine ret_s [] ?_; simp (decide := true) (disch := omega) only [go_sem, ↓reduceIte, ↓put_at]))))
  refine own_s 3 (3, 1) 3 1 ?_
  simp (decide := true) (disch := omega) only [go_sem, ↓reduceIte, ↓put_at]
  refine loop_s (α := {j : Nat // j ≤ l.length}) (fun j => [(.s 7, .av (.val (.lst 3 (l.map enEl)))), (.s 8, .av (.val (vi l.length))), (.s 9, .av (.val (vi j.1))), (.s 2, .av (.val (.sc (.slice none 0 0)))), (.k (3, 1), .row 3 1 (upsN (l.take j.1)).length), (.s 3, .av (.own (3, 1) 0 3 1 ((upsN (l.take j.1)).map iEl)))]) (fun j => l.length - j.1) ⟨0, Nat.zero_le _⟩ ?_ (fun j => ?_)
  · simp only [List.take_zero, show upsN [] = [] from rfl]
    simp (decide := true) (disch := omega) only [go_sem, ↓reduceIte, ↓put_at]
  · obtain ⟨j, hj⟩ := j
    dsimp only at hj ⊢
    by_cases hlt : j < l.length
    · have hge : (l.map enEl).getD j [] = enEl (l[j]) := by simp [hlt]
      have hsn := upsN_snoc (l.take j) (l[j])
      rw [List.take_append_getElem hlt] at hsn
      have hle := upsN_len (l.take j)
      rw [List.length_take] at hle
      cases hup : (l[j]).up with
      | false =>
        rw [hup] at hsn
        (repeat' ((first | refine aw_seq ?_ | refine aw_block ?_ | refine aw_reg hC (by kernel_rfl) ?_ | refine aw_regd hC Try.checked.mixed (by kernel_rfl) ?_ | refine chk_and (by kernel_rfl) ?_ | refine aw_skip ?_ | refine aw_if ?_ | refine And.intro (by first | omega | with_reducible assumption) ?_ | refine aw_exit ?_ | refine aw_ret ?_ | (simp (decide := true) (disch := omega) only [go_sem, ↓reduceIte, ↓put_at]) | (refine ret_s [] ?_; simp (decide := true) (disch := omega) only [go_sem, ↓reduceIte, ↓put_at]))))
        simp only [hup]
        (repeat' ((first | refine aw_seq ?_ | refine aw_block ?_ | refine aw_reg hC (by kernel_rfl) ?_ | refine aw_regd hC Try.checked.mixed (by kernel_rfl) ?_ | refine chk_and (by kernel_rfl) ?_ | refine aw_skip ?_ | refine aw_if ?_ | refine And.intro (by first | omega | with_reducible assumption) ?_ | refine aw_exit ?_ | refine aw_ret ?_ | (simp (decide := true) (disch := omega) only [go_sem, ↓reduceIte, ↓put_at]) | (refine ret_s [] ?_; simp (decide := true) (disch := omega) only [go_sem, ↓reduceIte, ↓put_at]))))
        refine next_s (α := {j : Nat // j ≤ l.length}) ⟨j + 1, hlt⟩ ⟨?_, ?_⟩
        · (try dsimp only)
          rw [hsn]
          simp (decide := true) (disch := omega) only [go_sem, ↓reduceIte, ↓put_at]
        · (try dsimp only)
          omega
      | true =>
        rw [hup] at hsn
        (repeat' ((first | refine aw_seq ?_ | refine aw_block ?_ | refine aw_reg hC (by kernel_rfl) ?_ | refine aw_regd hC Try.checked.mixed (by kernel_rfl) ?_ | refine chk_and (by kernel_rfl) ?_ | refine aw_skip ?_ | refine aw_if ?_ | refine And.intro (by first | omega | with_reducible assumption) ?_ | refine aw_exit ?_ | refine aw_ret ?_ | (simp (decide := true) (disch := omega) only [go_sem, ↓reduceIte, ↓put_at]) | (refine ret_s [] ?_; simp (decide := true) (disch := omega) only [go_sem, ↓reduceIte, ↓put_at]))))
        simp only [hup]
        (repeat' ((first | refine aw_seq ?_ | refine aw_block ?_ | refine aw_reg hC (by kernel_rfl) ?_ | refine aw_regd hC Try.checked.mixed (by kernel_rfl) ?_ | refine chk_and (by kernel_rfl) ?_ | refine aw_skip ?_ | refine aw_if ?_ | refine And.intro (by first | omega | with_reducible assumption) ?_ | refine aw_exit ?_ | refine aw_ret ?_ | (simp (decide := true) (disch := omega) only [go_sem, ↓reduceIte, ↓put_at]) | (refine ret_s [] ?_; simp (decide := true) (disch := omega) only [go_sem, ↓reduceIte, ↓put_at]))))
        refine next_s (α := {j : Nat // j ≤ l.length}) ⟨j + 1, hlt⟩ ⟨?_, ?_⟩
        · (try dsimp only)
          rw [hsn, if_pos rfl]
          simp (decide := true) (disch := omega) only [go_sem, ↓reduceIte, ↓put_at]
          rw [List.map_append]; rfl
        · (try dsimp only)
          omega
    · obtain rfl : j = l.length := by omega
      rw [List.take_length]
      (repeat' ((first | refine aw_seq ?_ | refine aw_block ?_ | refine aw_reg hC (by kernel_rfl) ?_ | refine aw_regd hC Try.checked.mixed (by kernel_rfl) ?_ | refine chk_and (by kernel_rfl) ?_ | refine aw_skip ?_ | refine aw_if ?_ | refine And.intro (by first | omega | with_reducible assumption) ?_ | refine aw_exit ?_ | refine aw_ret ?_ | (simp (decide := true) (disch := omega) only [go_sem, ↓reduceIte, ↓put_at]) | (refine ret_s [] ?_; simp (decide := true) (disch := omega) only [go_sem, ↓reduceIte, ↓put_at]))))
set_option maxRecDepth 100000 in
theorem t_up (t : Tb) (hl : t.l.length ≤ 1000000) : Spec Try.prog 61 [.ptr 0 0] [tbL t] (.ca (.val (.lst 1 ((upsN t.l).map iEl)))) [tbL t] := by
  have c1 := t_adv t hl 0
  have c2 := a_up t.l hl 0
  refine spec_of Try.func61 rfl Try.ntmps61 Try.results61 ⟨by decide, by simp⟩ fun C hC => ?_
  (repeat' ((first | refine aw_seq ?_ | refine aw_block ?_ | refine aw_reg hC (by kernel_rfl) ?_ | refine aw_regd hC Try.checked.mixed (by kernel_rfl) ?_ | refine chk_and (by kernel_rfl) ?_ | refine aw_skip ?_ | refine aw_if ?_ | refine And.intro (by first | omega | with_reducible assumption) ?_ | refine aw_exit ?_ | refine aw_ret ?_ | (simp (decide := true) (disch := omega) only [go_sem, ↓reduceIte, ↓put_at]) | refine call_u Try.call32 (c1) [(1000, 0)] (by simp (decide := true) (disch := omega) only [go_sem, ↓reduceIte, ↓put_at]; first | done | assumption | omega) ?_ | refine call_u Try.call111 (c2) [] (by simp (decide := true) (disch := omega) only [go_sem, ↓reduceIte, ↓put_at]; first | done | assumption | omega) ?_ | refine condK_eq (fun h => ?_) (fun h => ?_) | refine condK_dec (fun h => ?_) (fun h => ?_) | refine condK_if (fun h => ?_) (fun h => ?_) | (refine ret_s [] ?_; simp (decide := true) (disch := omega) only [go_sem, ↓reduceIte, ↓put_at]))))
end Go.Proofs.Ytdgkehoodlncmaa
