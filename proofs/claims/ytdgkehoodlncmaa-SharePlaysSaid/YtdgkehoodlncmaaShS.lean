
/- The document's share, walked. -/
import Derived.Test.YtdgkehoodlncmaaSh6
import Derived.Test.YtdgkehoodlncmaaShR
namespace Go.Proofs.Ytdgkehoodlncmaa
open Go.RowKit
set_option linter.unusedVariables false
set_option linter.unusedSimpArgs false

set_option maxRecDepth 100000 in
set_option maxHeartbeats 4000000 in
theorem r18_carry (l : List Ld) (hl : l.length ≤ 15) (p n : Int) (hb : ∀ x ∈ l, 0 ≤ x.b ∧ x.b ≤ 1099511627776) : Spec Try.prog 78 [.ca (.val (.lst 3 (l.map ldEl))), .ca (.val (vi p)), .ca (.val (vi n))] [] (.ca (.val (.tup [.lst 3 ((l.map (carE p n)).map ldEl), vb (l.any fun x => decide (x.p = p))]))) [] := by
  refine spec_of Try.func78 rfl Try.ntmps78 Try.results78 ⟨by decide, by simp⟩ fun C hC => ?_
  (repeat' ((fail_if_success (refine stop_reg 4 ?_)); (first | refine aw_seq ?_ | refine aw_block ?_ | refine aw_reg hC (by kernel_rfl) ?_ | refine aw_regd hC Try.checked.mixed (by kernel_rfl) ?_ | refine chk_and (by kernel_rfl) ?_ | refine aw_skip ?_ | refine aw_if ?_ | refine And.intro (by first | omega | with_reducible assumption) ?_ | refine aw_exit ?_ | refine aw_ret ?_ | (simp (decide := true) (disch := omega) only [go_sem, ↓reduceIte, ↓put_at]) | (refine ret_s [] ?_; simp (decide := true) (disch := omega) only [go_sem, ↓reduceIte, ↓put_at]))))
  refine loop_s (α := {j : Nat // j ≤ l.length}) (fun j => [(.s 1, .av (.val (vi p))), (.s 2, .av (.val (vi n))), (.k (12, 0), .row 153 3 ((l.take j.1).map (carE p n)).length), (.s 8, .av (.own (12, 0) 0 153 3 (((l.take j.1).map (carE p n)).map ldEl))), (.s 9, .av (.val (vb ((l.take j.1).any fun x => decide (x.p = p))))), (.s 13, .av (.val (.lst 3 (l.map ldEl)))), (.s 14, .av (.val (vi l.length))), (.s 15, .av (.val (vi j.1)))]) (fun j => l.length - j.1) ⟨0, Nat.zero_le _⟩ ?_ (fun j => ?_)
  · simp (decide := true) (disch := omega) only [go_sem, ↓reduceIte, ↓put_at]
    (try exact ⟨by (show _ = _; kernel_rfl), by simp⟩)
  · obtain ⟨j, hj⟩ := j
    dsimp only at hj ⊢
    by_cases hlt : j < l.length
    · have hge : (l.map ldEl).getD j [] = ldEl l[j] := by simp [hlt]
      obtain ⟨b1, b2⟩ := hb _ (List.getElem_mem hlt)
      have hnx : (l.take (j + 1)).map (carE p n) = (l.take j).map (carE p n) ++ [carE p n l[j]] := by rw [← List.take_append_getElem hlt, List.map_append]; rfl
      have hna : ((l.take (j + 1)).any fun x => decide (x.p = p)) = (((l.take j).any fun x => decide (x.p = p)) || decide (l[j].p = p)) := by rw [← List.take_append_getElem hlt, List.any_append]; simp
      have hln : ((l.take j).map (carE p n)).length ≤ 15 := by rw [List.length_map, List.length_take]; omega
      have hl2 : (l.take (j + 1)).length = ((l.take j).map (carE p n)).length + 1 := by rw [List.length_map, List.length_take, List.length_take]; omega
      generalize ((l.take j).any fun x => decide (x.p = p)) = bb at *
      generalize (l.take j).map (carE p n) = L at *
      by_cases he : l[j].p = p
      · rw [show carE p n l[j] = ⟨l[j].p, l[j].w, l[j].b + max 0 (min n 1073741824)⟩ by unfold carE carN; rw [if_pos he]] at hnx
        rw [decide_eq_true he, Bool.or_true] at hna
        (repeat' ((first | refine aw_seq ?_ | refine aw_block ?_ | refine aw_reg hC (by kernel_rfl) ?_ | refine aw_regd hC Try.checked.mixed (by kernel_rfl) ?_ | refine chk_and (by kernel_rfl) ?_ | refine aw_skip ?_ | refine aw_if ?_ | refine And.intro (by first | omega | with_reducible assumption) ?_ | refine aw_exit ?_ | refine aw_ret ?_ | (simp (decide := true) (disch := omega) only [go_sem, ↓reduceIte, ↓put_at]) | (refine ret_s [] ?_; simp (decide := true) (disch := omega) only [go_sem, ↓reduceIte, ↓put_at]))))
        refine next_s (α := {j : Nat // j ≤ l.length}) ⟨j + 1, hlt⟩ ⟨?_, ?_⟩
        · (try dsimp only)
          rw [hnx, hna]
          simp (decide := true) (disch := omega) only [go_sem, ↓reduceIte, ↓put_at]
          exact ⟨by rw [hl2], by rw [List.map_append]; rfl⟩
        · (try dsimp only)
          omega
      · rw [show carE p n l[j] = l[j] by unfold carE; rw [if_neg he]] at hnx
        rw [decide_eq_false he, Bool.or_false] at hna
        (repeat' ((first | refine aw_seq ?_ | refine aw_block ?_ | refine aw_reg hC (by kernel_rfl) ?_ | refine aw_regd hC Try.checked.mixed (by kernel_rfl) ?_ | refine chk_and (by kernel_rfl) ?_ | refine aw_skip ?_ | refine aw_if ?_ | refine And.intro (by first | omega | with_reducible assumption) ?_ | refine aw_exit ?_ | refine aw_ret ?_ | (simp (decide := true) (disch := omega) only [go_sem, ↓reduceIte, ↓put_at]) | (refine ret_s [] ?_; simp (decide := true) (disch := omega) only [go_sem, ↓reduceIte, ↓put_at]))))
        refine next_s (α := {j : Nat // j ≤ l.length}) ⟨j + 1, hlt⟩ ⟨?_, ?_⟩
        · (try dsimp only)
          rw [hnx, hna]
          simp (decide := true) (disch := omega) only [go_sem, ↓reduceIte, ↓put_at]
          exact ⟨by rw [hl2], by rw [List.map_append]; rfl⟩
        · (try dsimp only)
          omega
    · obtain rfl : j = l.length := by omega
      rw [List.take_length]
      generalize (l.any fun x => decide (x.p = p)) = bb at *
      generalize l.map (carE p n) = L at *
      (repeat' ((first | refine aw_seq ?_ | refine aw_block ?_ | refine aw_reg hC (by kernel_rfl) ?_ | refine aw_regd hC Try.checked.mixed (by kernel_rfl) ?_ | refine chk_and (by kernel_rfl) ?_ | refine aw_skip ?_ | refine aw_if ?_ | refine And.intro (by first | omega | with_reducible assumption) ?_ | refine aw_exit ?_ | refine aw_ret ?_ | (simp (decide := true) (disch := omega) only [go_sem, ↓reduceIte, ↓put_at]) | (refine ret_s [] ?_; simp (decide := true) (disch := omega) only [go_sem, ↓reduceIte, ↓put_at]))))
set_option maxRecDepth 100000 in
set_option maxHeartbeats 4000000 in
theorem r18_pick {B : Int} (l : List Ld) (ok : ShOk B l) (hB : B ≤ 1099511627776) (may : List Int) (hm : may.length ≤ 1000000) : Spec Try.prog 77 [.ca (.val (.lst 3 (l.map ldEl))), .ca (.val (.lst 1 (may.map iRow)))] [] (.ca (.val (.tup [vi (pickF l may).1, vb (pickF l may).2]))) [] := by
  have hl := ok.few
  refine spec_of Try.func77 rfl Try.ntmps77 Try.results77 ⟨by decide, by simp⟩ fun C hC => ?_
  (repeat' ((fail_if_success (refine stop_reg 3 ?_)); (first | refine aw_seq ?_ | refine aw_block ?_ | refine aw_reg hC (by kernel_rfl) ?_ | refine aw_regd hC Try.checked.mixed (by kernel_rfl) ?_ | refine chk_and (by kernel_rfl) ?_ | refine aw_skip ?_ | refine aw_if ?_ | refine And.intro (by first | omega | with_reducible assumption) ?_ | refine aw_exit ?_ | refine aw_ret ?_ | (simp (decide := true) (disch := omega) only [go_sem, ↓reduceIte, ↓put_at]) | (refine ret_s [] ?_; simp (decide := true) (disch := omega) only [go_sem, ↓reduceIte, ↓put_at]))))
  refine loop_s (α := {x : Nat × Int // x.1 ≤ l.length ∧ pkA l may x.1 x.2 ∧ -1 ≤ x.2 ∧ x.2 < 15}) (fun x => [(.s 0, .av (.val (.lst 3 (l.map ldEl)))), (.s 1, .av (.val (.lst 1 (may.map iRow)))), (.s 6, .av (.val (vi x.1.2))), (.s 12, .av (.val (.lst 3 (l.map ldEl)))), (.s 13, .av (.val (vi l.length))), (.s 14, .av (.val (vi x.1.1)))]) (fun x => l.length - x.1.1) ⟨(0, -1), Nat.zero_le _, pk_zero l may, by simp, by simp⟩ ?_ (fun x => ?_)
  · simp (decide := true) (disch := omega) only [go_sem, ↓reduceIte, ↓put_at]
  · obtain ⟨⟨j, b⟩, hj, hp, hb1, hb2⟩ := x
    dsimp only at hj hp hb1 hb2 ⊢
    by_cases hlt : j < l.length
    · have hge : (l.map ldEl).getD j [] = ldEl l[j] := by simp [hlt]
      have ko := ok.ok _ (List.getElem_mem hlt)
      obtain ⟨k1, k2, k3, k4⟩ := ko
      (repeat' ((fail_if_success (refine stop_reg 7 ?_)); (first | refine aw_seq ?_ | refine aw_block ?_ | refine aw_reg hC (by kernel_rfl) ?_ | refine aw_regd hC Try.checked.mixed (by kernel_rfl) ?_ | refine chk_and (by kernel_rfl) ?_ | refine aw_skip ?_ | refine aw_if ?_ | refine And.intro (by first | omega | with_reducible assumption) ?_ | refine aw_exit ?_ | refine aw_ret ?_ | (simp (decide := true) (disch := omega) only [go_sem, ↓reduceIte, ↓put_at]) | (refine ret_s [] ?_; simp (decide := true) (disch := omega) only [go_sem, ↓reduceIte, ↓put_at]))))
      refine loop_s (α := {i : Nat // i ≤ may.length}) (fun i => [(.s 0, .av (.val (.lst 3 (l.map ldEl)))), (.s 1, .av (.val (.lst 1 (may.map iRow)))), (.s 6, .av (.val (vi b))), (.s 12, .av (.val (.lst 3 (l.map ldEl)))), (.s 13, .av (.val (vi l.length))), (.s 14, .av (.val (vi j))), (.s 7, .av (.val (vi j))), (.o (8, 0), .num 3), (.c (8, 0) 0, .av (.val (vi l[j].p))), (.c (8, 0) 1, .av (.val (vi l[j].w))), (.c (8, 0) 2, .av (.val (vi l[j].b))), (.s 8, .av (.ptr (8, 0) 0 0)), (.s 9, .av (.val (vb (decide (l[j].p ∈ may.take i.1))))), (.s 19, .av (.val (.lst 1 (may.map iRow)))), (.s 20, .av (.val (vi may.length))), (.s 21, .av (.val (vi i.1)))]) (fun i => may.length - i.1) ⟨0, Nat.zero_le _⟩ ?_ (fun i => ?_)
      · simp (decide := true) (disch := omega) only [go_sem, ↓reduceIte, ↓put_at]
        (try rfl)
      · obtain ⟨i, hi⟩ := i
        dsimp only at hi ⊢
        by_cases hlt2 : i < may.length
        · have hge2 : (may.map iRow).getD i [] = iRow may[i] := by simp [hlt2]
          have hmm : decide (l[j].p ∈ may.take (i + 1)) = (decide (l[j].p ∈ may.take i) || decide (may[i] = l[j].p)) := by
            rw [← List.take_append_getElem hlt2, Bool.eq_iff_iff]
            simp only [List.mem_append, List.mem_singleton, decide_eq_true_eq, Bool.or_eq_true]
            exact or_congr Iff.rfl ⟨Eq.symm, Eq.symm⟩
          generalize decide (l[j].p ∈ may.take i) = b0 at *
          cases b0 with
          | true =>
            rw [Bool.true_or] at hmm
            (repeat' ((first | refine aw_seq ?_ | refine aw_block ?_ | refine aw_reg hC (by kernel_rfl) ?_ | refine aw_regd hC Try.checked.mixed (by kernel_rfl) ?_ | refine chk_and (by kernel_rfl) ?_ | refine aw_skip ?_ | refine aw_if ?_ | refine And.intro (by first | omega | with_reducible assumption) ?_ | refine aw_exit ?_ | refine aw_ret ?_ | (simp (decide := true) (disch := omega) only [go_sem, ↓reduceIte, ↓put_at]) | (refine ret_s [] ?_; simp (decide := true) (disch := omega) only [go_sem, ↓reduceIte, ↓put_at]))))
            refine next_s (α := {i : Nat // i ≤ may.length}) ⟨i + 1, hlt2⟩ ⟨?_, ?_⟩
            · (try dsimp only)
              rw [hmm]
              simp (decide := true) (disch := omega) only [go_sem, ↓reduceIte, ↓put_at]
            · (try dsimp only)
              omega
          | false =>
            rw [Bool.false_or] at hmm
            (repeat' ((first | refine aw_seq ?_ | refine aw_block ?_ | refine aw_reg hC (by kernel_rfl) ?_ | refine aw_regd hC Try.checked.mixed (by kernel_rfl) ?_ | refine chk_and (by kernel_rfl) ?_ | refine aw_skip ?_ | refine aw_if ?_ | refine And.intro (by first | omega | with_reducible assumption) ?_ | refine aw_exit ?_ | refine aw_ret ?_ | (simp (decide := true) (disch := omega) only [go_sem, ↓reduceIte, ↓put_at]) | (refine ret_s [] ?_; simp (decide := true) (disch := omega) only [go_sem, ↓reduceIte, ↓put_at]))))
            refine next_s (α := {i : Nat // i ≤ may.length}) ⟨i + 1, hlt2⟩ ⟨?_, ?_⟩
            · (try dsimp only)
              rw [hmm]
              simp (decide := true) (disch := omega) only [go_sem, ↓reduceIte, ↓put_at]
              (try rfl)
            · (try dsimp only)
              omega
        · obtain rfl : i = may.length := by omega
          rw [List.take_length]
          by_cases hin : l[j].p ∈ may
          · rw [decide_eq_true hin]
            by_cases hb0 : b < 0
            · have hq := pk_first hlt hp hin hb0
              (repeat' ((first | refine aw_seq ?_ | refine aw_block ?_ | refine aw_reg hC (by kernel_rfl) ?_ | refine aw_regd hC Try.checked.mixed (by kernel_rfl) ?_ | refine chk_and (by kernel_rfl) ?_ | refine aw_skip ?_ | refine aw_if ?_ | refine And.intro (by first | omega | with_reducible assumption) ?_ | refine aw_exit ?_ | refine aw_ret ?_ | (simp (decide := true) (disch := omega) only [go_sem, ↓reduceIte, ↓put_at]) | (refine ret_s [] ?_; simp (decide := true) (disch := omega) only [go_sem, ↓reduceIte, ↓put_at]))))
              refine next_s (α := {x : Nat × Int // x.1 ≤ l.length ∧ pkA l may x.1 x.2 ∧ -1 ≤ x.2 ∧ x.2 < 15}) ⟨(j + 1, (j : Int)), hlt, hq, by dsimp only; omega, by dsimp only; omega⟩ ⟨?_, ?_⟩
              · (try dsimp only)
                simp (decide := true) (disch := omega) only [go_sem, ↓reduceIte, ↓put_at]
              · (try dsimp only)
                omega
            · obtain ⟨h0, hy, hn⟩ := pk_next ok.up hlt hp hin (by omega)
              have hge3 : (l.map ldEl).getD b.toNat [] = ldEl l[b.toNat] := by simp [h0]
              have ko2 := ok.ok _ (List.getElem_mem h0)
              obtain ⟨m1, m2, m3, m4⟩ := ko2
              have q1 := mul_bd k3 (show l[j].b ≤ 1099511627776 by omega) (show (0 : Int) ≤ l[b.toNat].w by omega) m2
              have q2 := mul_bd m3 (show l[b.toNat].b ≤ 1099511627776 by omega) (show (0 : Int) ≤ l[j].w by omega) k2
              by_cases hc : l[j].b * l[b.toNat].w < l[b.toNat].b * l[j].w
              · have hq := hy hc
                clear hy hn
                (repeat' ((first | refine aw_seq ?_ | refine aw_block ?_ | refine aw_reg hC (by kernel_rfl) ?_ | refine aw_regd hC Try.checked.mixed (by kernel_rfl) ?_ | refine chk_and (by kernel_rfl) ?_ | refine aw_skip ?_ | refine aw_if ?_ | refine And.intro (by first | omega | with_reducible assumption) ?_ | refine aw_exit ?_ | refine aw_ret ?_ | (simp (decide := true) (disch := omega) only [go_sem, ↓reduceIte, ↓put_at]) | (refine ret_s [] ?_; simp (decide := true) (disch := omega) only [go_sem, ↓reduceIte, ↓put_at]))))
                refine next_s (α := {x : Nat × Int // x.1 ≤ l.length ∧ pkA l may x.1 x.2 ∧ -1 ≤ x.2 ∧ x.2 < 15}) ⟨(j + 1, (j : Int)), hlt, hq, by dsimp only; omega, by dsimp only; omega⟩ ⟨?_, ?_⟩
                · (try dsimp only)
                  simp (decide := true) (disch := omega) only [go_sem, ↓reduceIte, ↓put_at]
                · (try dsimp only)
                  omega
              · have hq := hn hc
                clear hy hn
                (repeat' ((first | refine aw_seq ?_ | refine aw_block ?_ | refine aw_reg hC (by kernel_rfl) ?_ | refine aw_regd hC Try.checked.mixed (by kernel_rfl) ?_ | refine chk_and (by kernel_rfl) ?_ | refine aw_skip ?_ | refine aw_if ?_ | refine And.intro (by first | omega | with_reducible assumption) ?_ | refine aw_exit ?_ | refine aw_ret ?_ | (simp (decide := true) (disch := omega) only [go_sem, ↓reduceIte, ↓put_at]) | (refine ret_s [] ?_; simp (decide := true) (disch := omega) only [go_sem, ↓reduceIte, ↓put_at]))))
                refine next_s (α := {x : Nat × Int // x.1 ≤ l.length ∧ pkA l may x.1 x.2 ∧ -1 ≤ x.2 ∧ x.2 < 15}) ⟨(j + 1, b), hlt, hq, hb1, hb2⟩ ⟨?_, ?_⟩
                · (try dsimp only)
                  simp (decide := true) (disch := omega) only [go_sem, ↓reduceIte, ↓put_at]
                · (try dsimp only)
                  omega
          · rw [decide_eq_false hin]
            have hq := pk_skip hlt hp hin
            (repeat' ((first | refine aw_seq ?_ | refine aw_block ?_ | refine aw_reg hC (by kernel_rfl) ?_ | refine aw_regd hC Try.checked.mixed (by kernel_rfl) ?_ | refine chk_and (by kernel_rfl) ?_ | refine aw_skip ?_ | refine aw_if ?_ | refine And.intro (by first | omega | with_reducible assumption) ?_ | refine aw_exit ?_ | refine aw_ret ?_ | (simp (decide := true) (disch := omega) only [go_sem, ↓reduceIte, ↓put_at]) | (refine ret_s [] ?_; simp (decide := true) (disch := omega) only [go_sem, ↓reduceIte, ↓put_at]))))
            refine next_s (α := {x : Nat × Int // x.1 ≤ l.length ∧ pkA l may x.1 x.2 ∧ -1 ≤ x.2 ∧ x.2 < 15}) ⟨(j + 1, b), hlt, hq, hb1, hb2⟩ ⟨?_, ?_⟩
            · (try dsimp only)
              simp (decide := true) (disch := omega) only [go_sem, ↓reduceIte, ↓put_at]
            · (try dsimp only)
              omega
    · obtain rfl : j = l.length := by omega
      rcases pk_end hp with ⟨hb0, he⟩ | ⟨h0, hb0, he⟩
      · rw [he]
        (repeat' ((first | refine aw_seq ?_ | refine aw_block ?_ | refine aw_reg hC (by kernel_rfl) ?_ | refine aw_regd hC Try.checked.mixed (by kernel_rfl) ?_ | refine chk_and (by kernel_rfl) ?_ | refine aw_skip ?_ | refine aw_if ?_ | refine And.intro (by first | omega | with_reducible assumption) ?_ | refine aw_exit ?_ | refine aw_ret ?_ | (simp (decide := true) (disch := omega) only [go_sem, ↓reduceIte, ↓put_at]) | (refine ret_s [] ?_; simp (decide := true) (disch := omega) only [go_sem, ↓reduceIte, ↓put_at]))))
      · have hge3 : (l.map ldEl).getD b.toNat [] = ldEl l[b.toNat] := by simp [h0]
        rw [he]
        (repeat' ((first | refine aw_seq ?_ | refine aw_block ?_ | refine aw_reg hC (by kernel_rfl) ?_ | refine aw_regd hC Try.checked.mixed (by kernel_rfl) ?_ | refine chk_and (by kernel_rfl) ?_ | refine aw_skip ?_ | refine aw_if ?_ | refine And.intro (by first | omega | with_reducible assumption) ?_ | refine aw_exit ?_ | refine aw_ret ?_ | (simp (decide := true) (disch := omega) only [go_sem, ↓reduceIte, ↓put_at]) | (refine ret_s [] ?_; simp (decide := true) (disch := omega) only [go_sem, ↓reduceIte, ↓put_at]))))
set_option maxRecDepth 100000 in
set_option maxHeartbeats 4000000 in
theorem r18_set (l : List Ld) (hl : l.length ≤ 15) (ws : List Wt) (hw : ws.length ≤ 1000000) : Spec Try.prog 75 [.ca (.val (.lst 3 (l.map ldEl))), .ca (.val (.lst 2 (ws.map wtEl)))] [] (.ca (.val (.tup [.lst 3 ((setF l ws).1.map ldEl), vb (setF l ws).2]))) [] := by
  refine spec_of Try.func75 rfl Try.ntmps75 Try.results75 ⟨by decide, by simp⟩ fun C hC => ?_
  refine mark_s (15, 1) [15] ⟨by rw [hC]; decide, fun n => ?_⟩
  (repeat' ((fail_if_success (refine stop_reg 3 ?_)); (first | refine aw_seq ?_ | refine aw_block ?_ | refine aw_reg hC (by kernel_rfl) ?_ | refine aw_regd hC Try.checked.mixed (by kernel_rfl) ?_ | refine chk_and (by kernel_rfl) ?_ | refine aw_skip ?_ | refine aw_if ?_ | refine And.intro (by first | omega | with_reducible assumption) ?_ | refine aw_exit ?_ | refine aw_ret ?_ | (simp (decide := true) (disch := omega) only [go_sem, ↓reduceIte, ↓put_at]) | (refine ret_s [] ?_; simp (decide := true) (disch := omega) only [go_sem, ↓reduceIte, ↓put_at]))))
  refine loop_s (α := {j : Nat // j ≤ ws.length}) (fun j => [(.s 0, .av (.val (.lst 3 (l.map ldEl)))), (.r (15, 1), .tree (.rw 153 3 ((loadsF (ws.take j.1)).map ldEl))), (.s 6, .av (.ref (15, 1) 0)), (.s 16, .av (.val (.lst 2 (ws.map wtEl)))), (.s 17, .av (.val (vi ws.length))), (.s 18, .av (.val (vi j.1)))]) (fun j => ws.length - j.1) ⟨0, Nat.zero_le _⟩ ?_ (fun j => ?_)
  · simp (decide := true) (disch := omega) only [go_sem, ↓reduceIte, ↓put_at]
    (try rfl)
  · obtain ⟨j, hj⟩ := j
    dsimp only at hj ⊢
    by_cases hlt : j < ws.length
    · have hge : (ws.map wtEl).getD j [] = wtEl ws[j] := by simp [hlt]
      have hnx : loadsF (ws.take (j + 1)) = addW (loadsF (ws.take j)) ws[j] := by
        rw [← List.take_append_getElem hlt]
        unfold loadsF
        rw [List.foldl_append]; rfl
      have ok := loadsF_ok (ws.take j)
      have hfw := ok.few
      have hat := atL_count ok.up ws[j].p
      have hhas := hasL_any (loadsF (ws.take j)) ws[j].p
      unfold addW at hnx
      rw [hat, hhas] at hnx
      generalize loadsF (ws.take j) = L at *
      (repeat' ((fail_if_success (refine stop_reg 8 ?_)); (first | refine aw_seq ?_ | refine aw_block ?_ | refine aw_reg hC (by kernel_rfl) ?_ | refine aw_regd hC Try.checked.mixed (by kernel_rfl) ?_ | refine chk_and (by kernel_rfl) ?_ | refine aw_skip ?_ | refine aw_if ?_ | refine And.intro (by first | omega | with_reducible assumption) ?_ | refine aw_exit ?_ | refine aw_ret ?_ | (simp (decide := true) (disch := omega) only [go_sem, ↓reduceIte, ↓put_at]) | (refine ret_s [] ?_; simp (decide := true) (disch := omega) only [go_sem, ↓reduceIte, ↓put_at]))))
      refine loop_s (α := {i : Nat // i ≤ L.length}) (fun i => [(.s 0, .av (.val (.lst 3 (l.map ldEl)))), (.r (15, 1), .tree (.rw 153 3 (L.map ldEl))), (.s 6, .av (.ref (15, 1) 0)), (.s 16, .av (.val (.lst 2 (ws.map wtEl)))), (.s 17, .av (.val (vi ws.length))), (.s 18, .av (.val (vi j))), (.o (8, 0), .num 2), (.c (8, 0) 0, .av (.val (vi ws[j].p))), (.c (8, 0) 1, .av (.val (vi ws[j].w))), (.s 8, .av (.ptr (8, 0) 0 0)), (.s 9, .av (.val (vi ((L.take i.1).filter fun y => decide (y.p < ws[j].p)).length))), (.s 10, .av (.val (vb ((L.take i.1).any fun y => decide (y.p = ws[j].p))))), (.s 22, .av (.ref (15, 1) 0)), (.s 23, .av (.val (vi L.length))), (.s 24, .av (.val (vi i.1)))]) (fun i => L.length - i.1) ⟨0, Nat.zero_le _⟩ ?_ (fun i => ?_)
      · simp (decide := true) (disch := omega) only [go_sem, ↓reduceIte, ↓put_at]
        exact ⟨rfl, rfl⟩
      · obtain ⟨i, hi⟩ := i
        dsimp only at hi ⊢
        by_cases hlt2 : i < L.length
        · have hge2 : (L.map ldEl).getD i [] = ldEl L[i] := by simp [hlt2]
          have hmm : ((L.take (i + 1)).any fun y => decide (y.p = ws[j].p)) = (((L.take i).any fun y => decide (y.p = ws[j].p)) || decide (L[i].p = ws[j].p)) := by
            rw [← List.take_append_getElem hlt2, List.any_append]; simp
          have hff : ((L.take (i + 1)).filter fun y => decide (y.p < ws[j].p)).length = ((L.take i).filter fun y => decide (y.p < ws[j].p)).length + (if L[i].p < ws[j].p then 1 else 0) := by
            rw [← List.take_append_getElem hlt2, List.filter_append, List.length_append]
            split <;> simp [*]
          have hfl := List.length_filter_le (fun y : Ld => decide (y.p < ws[j].p)) (L.take i)
          rw [List.length_take] at hfl
          generalize ((L.take i).any fun y => decide (y.p = ws[j].p)) = b0 at *
          generalize ((L.take i).filter fun y => decide (y.p < ws[j].p)).length = c0 at *
          by_cases hp : L[i].p < ws[j].p
          · rw [if_pos hp] at hff
            cases b0 with
            | true =>
              rw [Bool.true_or] at hmm
              (repeat' ((first | refine aw_seq ?_ | refine aw_block ?_ | refine aw_reg hC (by kernel_rfl) ?_ | refine aw_regd hC Try.checked.mixed (by kernel_rfl) ?_ | refine chk_and (by kernel_rfl) ?_ | refine aw_skip ?_ | refine aw_if ?_ | refine And.intro (by first | omega | with_reducible assumption) ?_ | refine aw_exit ?_ | refine aw_ret ?_ | (simp (decide := true) (disch := omega) only [go_sem, ↓reduceIte, ↓put_at]) | (refine ret_s [] ?_; simp (decide := true) (disch := omega) only [go_sem, ↓reduceIte, ↓put_at]))))
              refine next_s (α := {i : Nat // i ≤ L.length}) ⟨i + 1, hlt2⟩ ⟨?_, ?_⟩
              · (try dsimp only)
                rw [hmm, hff]
                simp (decide := true) (disch := omega) only [go_sem, ↓reduceIte, ↓put_at]
                (try rfl)
              · (try dsimp only)
                omega
            | false =>
              rw [Bool.false_or] at hmm
              (repeat' ((first | refine aw_seq ?_ | refine aw_block ?_ | refine aw_reg hC (by kernel_rfl) ?_ | refine aw_regd hC Try.checked.mixed (by kernel_rfl) ?_ | refine chk_and (by kernel_rfl) ?_ | refine aw_skip ?_ | refine aw_if ?_ | refine And.intro (by first | omega | with_reducible assumption) ?_ | refine aw_exit ?_ | refine aw_ret ?_ | (simp (decide := true) (disch := omega) only [go_sem, ↓reduceIte, ↓put_at]) | (refine ret_s [] ?_; simp (decide := true) (disch := omega) only [go_sem, ↓reduceIte, ↓put_at]))))
              refine next_s (α := {i : Nat // i ≤ L.length}) ⟨i + 1, hlt2⟩ ⟨?_, ?_⟩
              · (try dsimp only)
                rw [hmm, hff]
                simp (decide := true) (disch := omega) only [go_sem, ↓reduceIte, ↓put_at]
                (try rfl)
              · (try dsimp only)
                omega
          · replace hff := hff.trans (by rw [if_neg hp, Nat.add_zero])
            cases b0 with
            | true =>
              rw [Bool.true_or] at hmm
              (repeat' ((first | refine aw_seq ?_ | refine aw_block ?_ | refine aw_reg hC (by kernel_rfl) ?_ | refine aw_regd hC Try.checked.mixed (by kernel_rfl) ?_ | refine chk_and (by kernel_rfl) ?_ | refine aw_skip ?_ | refine aw_if ?_ | refine And.intro (by first | omega | with_reducible assumption) ?_ | refine aw_exit ?_ | refine aw_ret ?_ | (simp (decide := true) (disch := omega) only [go_sem, ↓reduceIte, ↓put_at]) | (refine ret_s [] ?_; simp (decide := true) (disch := omega) only [go_sem, ↓reduceIte, ↓put_at]))))
              refine next_s (α := {i : Nat // i ≤ L.length}) ⟨i + 1, hlt2⟩ ⟨?_, ?_⟩
              · (try dsimp only)
                rw [hmm, hff]
                simp (decide := true) (disch := omega) only [go_sem, ↓reduceIte, ↓put_at]
                (try rfl)
              · (try dsimp only)
                omega
            | false =>
              rw [Bool.false_or] at hmm
              (repeat' ((first | refine aw_seq ?_ | refine aw_block ?_ | refine aw_reg hC (by kernel_rfl) ?_ | refine aw_regd hC Try.checked.mixed (by kernel_rfl) ?_ | refine chk_and (by kernel_rfl) ?_ | refine aw_skip ?_ | refine aw_if ?_ | refine And.intro (by first | omega | with_reducible assumption) ?_ | refine aw_exit ?_ | refine aw_ret ?_ | (simp (decide := true) (disch := omega) only [go_sem, ↓reduceIte, ↓put_at]) | (refine ret_s [] ?_; simp (decide := true) (disch := omega) only [go_sem, ↓reduceIte, ↓put_at]))))
              refine next_s (α := {i : Nat // i ≤ L.length}) ⟨i + 1, hlt2⟩ ⟨?_, ?_⟩
              · (try dsimp only)
                rw [hmm, hff]
                simp (decide := true) (disch := omega) only [go_sem, ↓reduceIte, ↓put_at]
                (try rfl)
              · (try dsimp only)
                omega
        · obtain rfl : i = L.length := by omega
          rw [List.take_length]
          have hfl := List.length_filter_le (fun y : Ld => decide (y.p < ws[j].p)) L
          generalize (L.any fun y => decide (y.p = ws[j].p)) = b0 at *
          generalize (L.filter fun y => decide (y.p < ws[j].p)).length = c0 at *
          cases b0 with
          | true =>
            rw [if_neg (by simp)] at hnx
            (repeat' ((first | refine aw_seq ?_ | refine aw_block ?_ | refine aw_reg hC (by kernel_rfl) ?_ | refine aw_regd hC Try.checked.mixed (by kernel_rfl) ?_ | refine chk_and (by kernel_rfl) ?_ | refine aw_skip ?_ | refine aw_if ?_ | refine And.intro (by first | omega | with_reducible assumption) ?_ | refine aw_exit ?_ | refine aw_ret ?_ | (simp (decide := true) (disch := omega) only [go_sem, ↓reduceIte, ↓put_at]) | (refine ret_s [] ?_; simp (decide := true) (disch := omega) only [go_sem, ↓reduceIte, ↓put_at]))))
            refine next_s (α := {j : Nat // j ≤ ws.length}) ⟨j + 1, hlt⟩ ⟨?_, ?_⟩
            · (try dsimp only)
              rw [hnx]
              simp (decide := true) (disch := omega) only [go_sem, ↓reduceIte, ↓put_at]
            · (try dsimp only)
              omega
          | false =>
            by_cases h15 : L.length < 15
            · rw [if_pos ⟨rfl, h15⟩] at hnx
              unfold cw at hnx
              have hDe : List.take (L.length - c0) (List.drop (0 + c0) (L.map ldEl)) = (L.drop c0).map ldEl := by rw [Nat.zero_add, ← List.map_drop, List.take_of_length_le (by rw [List.length_map, List.length_drop]; exact Nat.le_refl _)]
              have hDl : ((L.drop c0).map ldEl).length = L.length - c0 := by rw [List.length_map, List.length_drop]
              have hDs := ld_len (L.drop c0)
              have hDo := ld_one (L.drop c0)
              rw [← hDe] at hDl hDs hDo
              (repeat' ((first | refine aw_seq ?_ | refine aw_block ?_ | refine aw_reg hC (by kernel_rfl) ?_ | refine aw_regd hC Try.checked.mixed (by kernel_rfl) ?_ | refine chk_and (by kernel_rfl) ?_ | refine aw_skip ?_ | refine aw_if ?_ | refine And.intro (by first | omega | with_reducible assumption) ?_ | refine aw_exit ?_ | refine aw_ret ?_ | (simp (decide := true) (disch := omega) only [go_sem, ↓reduceIte, ↓put_at]) | (refine ret_s [] ?_; simp (decide := true) (disch := omega) only [go_sem, ↓reduceIte, ↓put_at]))))
              refine ⟨⟨by rw [hDl]; omega, by rw [hDl]; omega, hDs, hDo, by omega⟩, ⟨⟨by rw [hDl]; omega, by rw [hDl]; omega, hDs, hDo⟩, by omega⟩, ?_⟩
              rw [hDe]
              (repeat' ((first | refine aw_seq ?_ | refine aw_block ?_ | refine aw_reg hC (by kernel_rfl) ?_ | refine aw_regd hC Try.checked.mixed (by kernel_rfl) ?_ | refine chk_and (by kernel_rfl) ?_ | refine aw_skip ?_ | refine aw_if ?_ | refine And.intro (by first | omega | with_reducible assumption) ?_ | refine aw_exit ?_ | refine aw_ret ?_ | (simp (decide := true) (disch := omega) only [go_sem, ↓reduceIte, ↓put_at]) | (refine ret_s [] ?_; simp (decide := true) (disch := omega) only [go_sem, ↓reduceIte, ↓put_at]))))
              refine next_s (α := {j : Nat // j ≤ ws.length}) ⟨j + 1, hlt⟩ ⟨?_, ?_⟩
              · (try dsimp only)
                rw [hnx]
                simp (decide := true) (disch := omega) only [go_sem, ↓reduceIte, ↓put_at]
                rw [List.map_append, List.map_take]
                rfl
              · (try dsimp only)
                omega
            · rw [if_neg (fun hc => h15 hc.2)] at hnx
              (repeat' ((first | refine aw_seq ?_ | refine aw_block ?_ | refine aw_reg hC (by kernel_rfl) ?_ | refine aw_regd hC Try.checked.mixed (by kernel_rfl) ?_ | refine chk_and (by kernel_rfl) ?_ | refine aw_skip ?_ | refine aw_if ?_ | refine And.intro (by first | omega | with_reducible assumption) ?_ | refine aw_exit ?_ | refine aw_ret ?_ | (simp (decide := true) (disch := omega) only [go_sem, ↓reduceIte, ↓put_at]) | (refine ret_s [] ?_; simp (decide := true) (disch := omega) only [go_sem, ↓reduceIte, ↓put_at]))))
              refine next_s (α := {j : Nat // j ≤ ws.length}) ⟨j + 1, hlt⟩ ⟨?_, ?_⟩
              · (try dsimp only)
                rw [hnx]
                simp (decide := true) (disch := omega) only [go_sem, ↓reduceIte, ↓put_at]
              · (try dsimp only)
                omega
    · obtain rfl : j = ws.length := by omega
      rw [List.take_length]
      have ok := loadsF_ok ws
      have hfw := ok.few
      have e1 := setF_len l ws
      have e2 := setF_all l ws
      generalize loadsF ws = N at *
      by_cases hln : N.length = l.length
      · (repeat' ((fail_if_success (refine stop_reg 20 ?_)); (first | refine aw_seq ?_ | refine aw_block ?_ | refine aw_reg hC (by kernel_rfl) ?_ | refine aw_regd hC Try.checked.mixed (by kernel_rfl) ?_ | refine chk_and (by kernel_rfl) ?_ | refine aw_skip ?_ | refine aw_if ?_ | refine And.intro (by first | omega | with_reducible assumption) ?_ | refine aw_exit ?_ | refine aw_ret ?_ | (simp (decide := true) (disch := omega) only [go_sem, ↓reduceIte, ↓put_at]) | (refine ret_s [] ?_; simp (decide := true) (disch := omega) only [go_sem, ↓reduceIte, ↓put_at]))))
        refine loop_s (α := {x : Nat × Bool // x.1 ≤ l.length ∧ (x.2 = true ↔ ∀ k (h1 : k < N.length) (h2 : k < l.length), k < x.1 → sameW N[k] l[k] = true)}) (fun x => [(.s 0, .av (.val (.lst 3 (l.map ldEl)))), (.r (15, 1), .tree (.rw 153 3 (N.map ldEl))), (.s 6, .av (.ref (15, 1) 0)), (.s 13, .av (.val (vb x.1.2))), (.s 74, .av (.val (vi l.length))), (.s 75, .av (.val (vi x.1.1)))]) (fun x => l.length - x.1.1) ⟨(0, true), Nat.zero_le _, by simp⟩ ?_ (fun x => ?_)
        · simp (decide := true) (disch := omega) only [go_sem, ↓reduceIte, ↓put_at]
        · obtain ⟨⟨j, sm⟩, hj, hs⟩ := x
          dsimp only at hj hs ⊢
          by_cases hlt2 : j < l.length
          · have hlt3 : j < N.length := by omega
            have hge : (l.map ldEl).getD j [] = ldEl l[j] := by simp [hlt2]
            have hge2 : (N.map ldEl).getD j [] = ldEl N[j] := by simp [hlt3]
            have hnx : ∀ b : Bool, (b = true ↔ (sm = true ∧ sameW N[j] l[j] = true)) → (b = true ↔ ∀ k (h1 : k < N.length) (h2 : k < l.length), k < j + 1 → sameW N[k] l[k] = true) := fun b hb => by
              rw [hb, hs]
              constructor
              · intro h k h1 h2 h3
                by_cases e : k = j
                · subst e; exact h.2
                · exact h.1 k h1 h2 (by omega)
              · intro h
                exact ⟨fun k h1 h2 h3 => h k h1 h2 (by omega), h j hlt3 hlt2 (by omega)⟩
            cases sm with
            | false =>
              have hq := hnx false (by simp)
              clear hnx e1 e2
              (repeat' ((first | refine aw_seq ?_ | refine aw_block ?_ | refine aw_reg hC (by kernel_rfl) ?_ | refine aw_regd hC Try.checked.mixed (by kernel_rfl) ?_ | refine chk_and (by kernel_rfl) ?_ | refine aw_skip ?_ | refine aw_if ?_ | refine And.intro (by first | omega | with_reducible assumption) ?_ | refine aw_exit ?_ | refine aw_ret ?_ | (simp (decide := true) (disch := omega) only [go_sem, ↓reduceIte, ↓put_at]) | (refine ret_s [] ?_; simp (decide := true) (disch := omega) only [go_sem, ↓reduceIte, ↓put_at]))))
              refine next_s (α := {x : Nat × Bool // x.1 ≤ l.length ∧ (x.2 = true ↔ ∀ k (h1 : k < N.length) (h2 : k < l.length), k < x.1 → sameW N[k] l[k] = true)}) ⟨(j + 1, false), hlt2, hq⟩ ⟨?_, ?_⟩
              · simp (decide := true) (disch := omega) only [go_sem, ↓reduceIte, ↓put_at]
              · (try dsimp only)
                omega
            | true =>
              by_cases hp : l[j].p = N[j].p
              · have hq := hnx (l[j].w == N[j].w) (by simp only [sameW, hp, true_and, decide_eq_true_eq, beq_iff_eq]; exact ⟨Eq.symm, Eq.symm⟩)
                clear hnx e1 e2
                (repeat' ((first | refine aw_seq ?_ | refine aw_block ?_ | refine aw_reg hC (by kernel_rfl) ?_ | refine aw_regd hC Try.checked.mixed (by kernel_rfl) ?_ | refine chk_and (by kernel_rfl) ?_ | refine aw_skip ?_ | refine aw_if ?_ | refine And.intro (by first | omega | with_reducible assumption) ?_ | refine aw_exit ?_ | refine aw_ret ?_ | (simp (decide := true) (disch := omega) only [go_sem, ↓reduceIte, ↓put_at]) | (refine ret_s [] ?_; simp (decide := true) (disch := omega) only [go_sem, ↓reduceIte, ↓put_at]))))
                refine next_s (α := {x : Nat × Bool // x.1 ≤ l.length ∧ (x.2 = true ↔ ∀ k (h1 : k < N.length) (h2 : k < l.length), k < x.1 → sameW N[k] l[k] = true)}) ⟨(j + 1, (l[j].w == N[j].w)), hlt2, hq⟩ ⟨?_, ?_⟩
                · simp (decide := true) (disch := omega) only [go_sem, ↓reduceIte, ↓put_at]
                · (try dsimp only)
                  omega
              · have hq := hnx false (by simp [sameW, Ne.symm hp])
                clear hnx e1 e2
                (repeat' ((first | refine aw_seq ?_ | refine aw_block ?_ | refine aw_reg hC (by kernel_rfl) ?_ | refine aw_regd hC Try.checked.mixed (by kernel_rfl) ?_ | refine chk_and (by kernel_rfl) ?_ | refine aw_skip ?_ | refine aw_if ?_ | refine And.intro (by first | omega | with_reducible assumption) ?_ | refine aw_exit ?_ | refine aw_ret ?_ | (simp (decide := true) (disch := omega) only [go_sem, ↓reduceIte, ↓put_at]) | (refine ret_s [] ?_; simp (decide := true) (disch := omega) only [go_sem, ↓reduceIte, ↓put_at]))))
                refine next_s (α := {x : Nat × Bool // x.1 ≤ l.length ∧ (x.2 = true ↔ ∀ k (h1 : k < N.length) (h2 : k < l.length), k < x.1 → sameW N[k] l[k] = true)}) ⟨(j + 1, false), hlt2, hq⟩ ⟨?_, ?_⟩
                · simp (decide := true) (disch := omega) only [go_sem, ↓reduceIte, ↓put_at]
                · (try dsimp only)
                  omega
          · obtain rfl : j = l.length := by omega
            have e3 := e2 hln
            cases sm with
            | true =>
              rw [if_pos fun k h1 h2 => (hs.1 rfl) k h1 h2 h2] at e3
              rw [e3]
              clear e1 e2
              (repeat' ((first | refine aw_seq ?_ | refine aw_block ?_ | refine aw_reg hC (by kernel_rfl) ?_ | refine aw_regd hC Try.checked.mixed (by kernel_rfl) ?_ | refine chk_and (by kernel_rfl) ?_ | refine aw_skip ?_ | refine aw_if ?_ | refine And.intro (by first | omega | with_reducible assumption) ?_ | refine aw_exit ?_ | refine aw_ret ?_ | (simp (decide := true) (disch := omega) only [go_sem, ↓reduceIte, ↓put_at]) | (refine ret_s [] ?_; simp (decide := true) (disch := omega) only [go_sem, ↓reduceIte, ↓put_at]))))
            | false =>
              rw [if_neg fun hc => by have := hs.2 fun k h1 h2 _ => hc k h1 h2; simp at this] at e3
              rw [e3]
              clear e1 e2
              refine frz_s 6 (15, 1) (15, 2) 153 3 (N.map ldEl) ?_
              (repeat' ((first | refine aw_seq ?_ | refine aw_block ?_ | refine aw_reg hC (by kernel_rfl) ?_ | refine aw_regd hC Try.checked.mixed (by kernel_rfl) ?_ | refine chk_and (by kernel_rfl) ?_ | refine aw_skip ?_ | refine aw_if ?_ | refine And.intro (by first | omega | with_reducible assumption) ?_ | refine aw_exit ?_ | refine aw_ret ?_ | (simp (decide := true) (disch := omega) only [go_sem, ↓reduceIte, ↓put_at]) | (refine ret_s [] ?_; simp (decide := true) (disch := omega) only [go_sem, ↓reduceIte, ↓put_at]))))
      · rw [e1 hln]
        refine frz_s 6 (15, 1) (15, 2) 153 3 (N.map ldEl) ?_
        (repeat' ((first | refine aw_seq ?_ | refine aw_block ?_ | refine aw_reg hC (by kernel_rfl) ?_ | refine aw_regd hC Try.checked.mixed (by kernel_rfl) ?_ | refine chk_and (by kernel_rfl) ?_ | refine aw_skip ?_ | refine aw_if ?_ | refine And.intro (by first | omega | with_reducible assumption) ?_ | refine aw_exit ?_ | refine aw_ret ?_ | (simp (decide := true) (disch := omega) only [go_sem, ↓reduceIte, ↓put_at]) | (refine ret_s [] ?_; simp (decide := true) (disch := omega) only [go_sem, ↓reduceIte, ↓put_at]))))
end Go.Proofs.Ytdgkehoodlncmaa
