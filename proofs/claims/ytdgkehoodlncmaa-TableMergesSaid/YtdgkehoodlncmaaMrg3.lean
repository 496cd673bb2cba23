
/- The document's tables, walked: taken away, put in. -/
import Derived.Test.YtdgkehoodlncmaaMrg1
namespace Go.Proofs.Ytdgkehoodlncmaa
open Go.RowKit
set_option linter.unusedVariables false
set_option linter.unusedSimpArgs false

set_option maxRecDepth 100000 in
set_option maxHeartbeats 4000000 in
theorem r_drop (x : Tb) (hl : x.l.length ≤ 1000) (hv : -1000000 ≤ x.ver ∧ x.ver ≤ 1000000) (id : Int) : Spec Try.prog 81 [.ca (.val (.agg (tbV x))), .ca (.val (vi id))] [] (.ca (.val (.tup [.agg (tbV (rDrop x id).1), vb (rDrop x id).2]))) [] := by
  obtain ⟨hv1, hv2⟩ := hv
  refine spec_of Try.func81 rfl Try.ntmps81 Try.results81 ⟨by decide, by simp⟩ fun C hC => ?_
  (repeat' ((fail_if_success (refine stop_reg 3 ?_)); (first | refine aw_seq ?_ | refine aw_block ?_ | refine aw_reg hC (by kernel_rfl) ?_ | refine aw_regd hC Try.checked.mixed (by kernel_rfl) ?_ | refine chk_and (by kernel_rfl) ?_ | refine aw_skip ?_ | refine aw_if ?_ | refine And.intro (by first | omega | with_reducible assumption) ?_ | refine aw_exit ?_ | refine aw_ret ?_ | (simp (decide := true) (disch := omega) only [go_sem, ↓reduceIte, ↓put_at]) | (refine ret_s [] ?_; simp (decide := true) (disch := omega) only [go_sem, ↓reduceIte, ↓put_at]))))
  refine loop_s (α := {j : Nat // j ≤ x.l.length}) (fun j => [(.o (2, 0), .num 3), (.c (2, 0) 0, .av (.val (vi x.most))), (.c (2, 0) 1, .av (.val (vi x.ver))), (.c (2, 0) 2, .av (.val (.lst 3 (x.l.map enEl)))), (.s 2, .av (.ptr (2, 0) 0 0)), (.s 1, .av (.val (vi id))), (.o (4, 0), .num 3), (.c (4, 0) 0, .av (.val (vi 0))), (.c (4, 0) 1, .av (.val (vi 0))), (.c (4, 0) 2, .av (.val (.sc (.slice none 0 0)))), (.s 4, .av (.ptr (4, 0) 0 0)), (.s 5, .av (.val (vb false))), (.k (9, 0), .row 26 3 ((x.l.take j.1).filter fun e => decide (e.id ≠ id)).length), (.s 6, .av (.own (9, 0) 0 26 3 (((x.l.take j.1).filter fun e => decide (e.id ≠ id)).map enEl))), (.s 11, .av (.val (.lst 3 (x.l.map enEl)))), (.s 12, .av (.val (vi x.l.length))), (.s 13, .av (.val (vi j.1)))]) (fun j => x.l.length - j.1) ⟨0, Nat.zero_le _⟩ ?_ (fun j => ?_)
  · simp (decide := true) (disch := omega) only [go_sem, ↓reduceIte, ↓put_at]
    exact ⟨by (show _ = _; kernel_rfl), by simp⟩
  · obtain ⟨j, hj⟩ := j
    dsimp only at hj ⊢
    by_cases hlt : j < x.l.length
    · have hge : (x.l.map enEl).getD j [] = enEl x.l[j] := by simp [hlt]
      have hnx : (x.l.take (j + 1)).filter (fun e => decide (e.id ≠ id)) = (x.l.take j).filter (fun e => decide (e.id ≠ id)) ++ [x.l[j]].filter (fun e => decide (e.id ≠ id)) := by rw [← List.take_append_getElem hlt, List.filter_append]
      have hfl := List.length_filter_le (fun e : En => decide (e.id ≠ id)) (x.l.take j)
      rw [List.length_take] at hfl
      by_cases he : x.l[j].id = id
      · rw [show [x.l[j]].filter (fun e => decide (e.id ≠ id)) = [] by simp [he], List.append_nil] at hnx
        generalize (x.l.take j).filter (fun e => decide (e.id ≠ id)) = L at *
        (repeat' ((first | refine aw_seq ?_ | refine aw_block ?_ | refine aw_reg hC (by kernel_rfl) ?_ | refine aw_regd hC Try.checked.mixed (by kernel_rfl) ?_ | refine chk_and (by kernel_rfl) ?_ | refine aw_skip ?_ | refine aw_if ?_ | refine And.intro (by first | omega | with_reducible assumption) ?_ | refine aw_exit ?_ | refine aw_ret ?_ | (simp (decide := true) (disch := omega) only [go_sem, ↓reduceIte, ↓put_at]) | (refine ret_s [] ?_; simp (decide := true) (disch := omega) only [go_sem, ↓reduceIte, ↓put_at]))))
        refine next_s (α := {j : Nat // j ≤ x.l.length}) ⟨j + 1, hlt⟩ ⟨?_, ?_⟩
        · (try dsimp only)
          rw [hnx]
          simp (decide := true) (disch := omega) only [go_sem, ↓reduceIte, ↓put_at]
        · (try dsimp only)
          omega
      · rw [show [x.l[j]].filter (fun e => decide (e.id ≠ id)) = [x.l[j]] by simp [he]] at hnx
        generalize (x.l.take j).filter (fun e => decide (e.id ≠ id)) = L at *
        (repeat' ((first | refine aw_seq ?_ | refine aw_block ?_ | refine aw_reg hC (by kernel_rfl) ?_ | refine aw_regd hC Try.checked.mixed (by kernel_rfl) ?_ | refine chk_and (by kernel_rfl) ?_ | refine aw_skip ?_ | refine aw_if ?_ | refine And.intro (by first | omega | with_reducible assumption) ?_ | refine aw_exit ?_ | refine aw_ret ?_ | (simp (decide := true) (disch := omega) only [go_sem, ↓reduceIte, ↓put_at]) | (refine ret_s [] ?_; simp (decide := true) (disch := omega) only [go_sem, ↓reduceIte, ↓put_at]))))
        refine next_s (α := {j : Nat // j ≤ x.l.length}) ⟨j + 1, hlt⟩ ⟨?_, ?_⟩
        · (try dsimp only)
          rw [hnx]
          simp (decide := true) (disch := omega) only [go_sem, ↓reduceIte, ↓put_at]
          (try rw [List.map_append])
          (try rfl)
        · (try dsimp only)
          omega
    · obtain rfl : j = x.l.length := by omega
      rw [List.take_length]
      have hfl := List.length_filter_le (fun e : En => decide (e.id ≠ id)) x.l
      unfold rDrop
      by_cases hq : (x.l.filter fun e => decide (e.id ≠ id)).length = x.l.length
      · rw [if_pos hq]
        generalize x.l.filter (fun e => decide (e.id ≠ id)) = L at *
        (repeat' ((first | refine aw_seq ?_ | refine aw_block ?_ | refine aw_reg hC (by kernel_rfl) ?_ | refine aw_regd hC Try.checked.mixed (by kernel_rfl) ?_ | refine chk_and (by kernel_rfl) ?_ | refine aw_skip ?_ | refine aw_if ?_ | refine And.intro (by first | omega | with_reducible assumption) ?_ | refine aw_exit ?_ | refine aw_ret ?_ | (simp (decide := true) (disch := omega) only [go_sem, ↓reduceIte, ↓put_at]) | (refine ret_s [] ?_; simp (decide := true) (disch := omega) only [go_sem, ↓reduceIte, ↓put_at]))))
      · rw [if_neg hq]
        generalize x.l.filter (fun e => decide (e.id ≠ id)) = L at *
        (repeat' ((first | refine aw_seq ?_ | refine aw_block ?_ | refine aw_reg hC (by kernel_rfl) ?_ | refine aw_regd hC Try.checked.mixed (by kernel_rfl) ?_ | refine chk_and (by kernel_rfl) ?_ | refine aw_skip ?_ | refine aw_if ?_ | refine And.intro (by first | omega | with_reducible assumption) ?_ | refine aw_exit ?_ | refine aw_ret ?_ | (simp (decide := true) (disch := omega) only [go_sem, ↓reduceIte, ↓put_at]) | (refine ret_s [] ?_; simp (decide := true) (disch := omega) only [go_sem, ↓reduceIte, ↓put_at]))))
set_option maxRecDepth 100000 in
set_option maxHeartbeats 4000000 in
theorem r_set (x : Tb) (hl : x.l.length ≤ 15) (hv : -1000000 ≤ x.ver ∧ x.ver ≤ 1000000) (e : En) : Spec Try.prog 80 [.ca (.val (.agg (tbV x))), .ca (.val (.agg (enEl e)))] [] (.ca (.val (.tup [.agg (tbV (rSet x e).1), vb (rSet x e).2.1, vi (rSet x e).2.2]))) [] := by
  obtain ⟨hv1, hv2⟩ := hv
  by_cases hok : okE e
  · have hok2 := hok
    obtain ⟨k1, k2, k3, k4⟩ := hok2
    have c1 := r_get x (by omega) e.id
    cases hg : rGet x.l e.id with
    | none =>
      rw [hg] at c1
      by_cases hfull : x.most ≤ x.l.length
      · have hT : rSet x e = (x, false, 8) := by unfold rSet; rw [if_pos hok, if_pos ⟨by rw [hg]; rfl, hfull⟩]
        rw [hT]
        refine spec_of Try.func80 rfl Try.ntmps80 Try.results80 ⟨by decide, by simp⟩ fun C hC => ?_
        (repeat' ((first | refine aw_seq ?_ | refine aw_block ?_ | refine aw_reg hC (by kernel_rfl) ?_ | refine aw_regd hC Try.checked.mixed (by kernel_rfl) ?_ | refine chk_and (by kernel_rfl) ?_ | refine aw_skip ?_ | refine aw_if ?_ | refine And.intro (by first | omega | with_reducible assumption) ?_ | refine aw_exit ?_ | refine aw_ret ?_ | (simp (decide := true) (disch := omega) only [go_sem, ↓reduceIte, ↓put_at]) | refine call_u Try.call124 (c1) [] (by simp (decide := true) (disch := omega) only [go_sem, ↓reduceIte, ↓put_at]; first | done | assumption | omega) ?_ | (refine ret_s [] ?_; simp (decide := true) (disch := omega) only [go_sem, ↓reduceIte, ↓put_at]))))
      · have hT : rSet x e = (⟨x.most, x.ver + 1, rRow x.l e 15⟩, true, 0) := by unfold rSet; rw [if_pos hok, if_neg (fun hc => hfull hc.2), if_neg (by rw [hg]; simp)]
        rw [hT]
        refine spec_of Try.func80 rfl Try.ntmps80 Try.results80 ⟨by decide, by simp⟩ fun C hC => ?_
        (repeat' ((fail_if_success (refine stop_reg 10 ?_)); (first | refine aw_seq ?_ | refine aw_block ?_ | refine aw_reg hC (by kernel_rfl) ?_ | refine aw_regd hC Try.checked.mixed (by kernel_rfl) ?_ | refine chk_and (by kernel_rfl) ?_ | refine aw_skip ?_ | refine aw_if ?_ | refine And.intro (by first | omega | with_reducible assumption) ?_ | refine aw_exit ?_ | refine aw_ret ?_ | (simp (decide := true) (disch := omega) only [go_sem, ↓reduceIte, ↓put_at]) | refine call_u Try.call124 (c1) [] (by simp (decide := true) (disch := omega) only [go_sem, ↓reduceIte, ↓put_at]; first | done | assumption | omega) ?_ | (refine ret_s [] ?_; simp (decide := true) (disch := omega) only [go_sem, ↓reduceIte, ↓put_at]))))
        refine loop_s (α := {k : Nat // k ≤ 15}) (fun k => [(.o (2, 0), .num 3), (.c (2, 0) 0, .av (.val (vi x.most))), (.c (2, 0) 1, .av (.val (vi x.ver))), (.c (2, 0) 2, .av (.val (.lst 3 (x.l.map enEl)))), (.s 2, .av (.ptr (2, 0) 0 0)), (.o (3, 0), .num 3), (.c (3, 0) 0, .av (.val (vi e.id))), (.c (3, 0) 1, .av (.val (vb e.up))), (.c (3, 0) 2, .av (.val (vi e.rate))), (.s 3, .av (.ptr (3, 0) 0 0)), (.o (4, 0), .num 3), (.c (4, 0) 0, .av (.val (vi 0))), (.c (4, 0) 1, .av (.val (vi 0))), (.c (4, 0) 2, .av (.val (.sc (.slice none 0 0)))), (.s 4, .av (.ptr (4, 0) 0 0)), (.k (57, 0), .row 26 3 (rRow x.l e k.1).length), (.s 9, .av (.own (57, 0) 0 26 3 ((rRow x.l e k.1).map enEl))), (.s 10, .av (.val (vi ((k.1 : Int) + 1))))]) (fun k => 15 - k.1) ⟨0, Nat.zero_le _⟩ ?_ (fun k => ?_)
        · simp (decide := true) (disch := omega) only [go_sem, ↓reduceIte, ↓put_at]
          exact ⟨by (show _ = _; kernel_rfl), rfl⟩
        · obtain ⟨k, hk⟩ := k
          dsimp only at hk ⊢
          by_cases hlt : k < 15
          · have hnx : rRow x.l e (k + 1) = rRow x.l e k ++ (if (k : Int) + 1 = e.id then [e] else (rGet x.l ((k : Int) + 1)).toList) := rfl
            have hrl := rRow_len x.l e k
            generalize rRow x.l e k = L at *
            have c2 := r_get x (by omega) ((k : Int) + 1)
            by_cases hid : (k : Int) + 1 = e.id
            · rw [if_pos hid] at hnx
              generalize (rGet x.l ((k : Int) + 1)).getD ⟨0, false, 0⟩ = w2 at *
              generalize (rGet x.l ((k : Int) + 1)).isSome = b2 at *
              (repeat' ((first | refine aw_seq ?_ | refine aw_block ?_ | refine aw_reg hC (by kernel_rfl) ?_ | refine aw_regd hC Try.checked.mixed (by kernel_rfl) ?_ | refine chk_and (by kernel_rfl) ?_ | refine aw_skip ?_ | refine aw_if ?_ | refine And.intro (by first | omega | with_reducible assumption) ?_ | refine aw_exit ?_ | refine aw_ret ?_ | (simp (decide := true) (disch := omega) only [go_sem, ↓reduceIte, ↓put_at]) | refine call_u Try.call124 (c2) [] (by simp (decide := true) (disch := omega) only [go_sem, ↓reduceIte, ↓put_at]; first | done | assumption | omega) ?_ | (refine ret_s [] ?_; simp (decide := true) (disch := omega) only [go_sem, ↓reduceIte, ↓put_at]))))
              refine next_s (α := {k : Nat // k ≤ 15}) ⟨k + 1, hlt⟩ ⟨?_, ?_⟩
              · (try dsimp only)
                rw [hnx]
                simp (decide := true) (disch := omega) only [go_sem, ↓reduceIte, ↓put_at]
                (try rw [List.map_append])
                (try rfl)
              · (try dsimp only)
                omega
            · rw [if_neg hid] at hnx
              cases hg2 : rGet x.l ((k : Int) + 1) with
              | none =>
                rw [hg2] at hnx c2
                rw [Option.toList_none, List.append_nil] at hnx
                (repeat' ((first | refine aw_seq ?_ | refine aw_block ?_ | refine aw_reg hC (by kernel_rfl) ?_ | refine aw_regd hC Try.checked.mixed (by kernel_rfl) ?_ | refine chk_and (by kernel_rfl) ?_ | refine aw_skip ?_ | refine aw_if ?_ | refine And.intro (by first | omega | with_reducible assumption) ?_ | refine aw_exit ?_ | refine aw_ret ?_ | (simp (decide := true) (disch := omega) only [go_sem, ↓reduceIte, ↓put_at]) | refine call_u Try.call124 (c2) [] (by simp (decide := true) (disch := omega) only [go_sem, ↓reduceIte, ↓put_at]; first | done | assumption | omega) ?_ | (refine ret_s [] ?_; simp (decide := true) (disch := omega) only [go_sem, ↓reduceIte, ↓put_at]))))
                refine next_s (α := {k : Nat // k ≤ 15}) ⟨k + 1, hlt⟩ ⟨?_, ?_⟩
                · (try dsimp only)
                  rw [hnx]
                  simp (decide := true) (disch := omega) only [go_sem, ↓reduceIte, ↓put_at]
                · (try dsimp only)
                  omega
              | some w2 =>
                rw [hg2] at hnx c2
                rw [Option.toList_some] at hnx
                (repeat' ((first | refine aw_seq ?_ | refine aw_block ?_ | refine aw_reg hC (by kernel_rfl) ?_ | refine aw_regd hC Try.checked.mixed (by kernel_rfl) ?_ | refine chk_and (by kernel_rfl) ?_ | refine aw_skip ?_ | refine aw_if ?_ | refine And.intro (by first | omega | with_reducible assumption) ?_ | refine aw_exit ?_ | refine aw_ret ?_ | (simp (decide := true) (disch := omega) only [go_sem, ↓reduceIte, ↓put_at]) | refine call_u Try.call124 (c2) [] (by simp (decide := true) (disch := omega) only [go_sem, ↓reduceIte, ↓put_at]; first | done | assumption | omega) ?_ | (refine ret_s [] ?_; simp (decide := true) (disch := omega) only [go_sem, ↓reduceIte, ↓put_at]))))
                refine next_s (α := {k : Nat // k ≤ 15}) ⟨k + 1, hlt⟩ ⟨?_, ?_⟩
                · (try dsimp only)
                  rw [hnx]
                  simp (decide := true) (disch := omega) only [go_sem, ↓reduceIte, ↓put_at]
                  (try rw [List.map_append])
                  (try rfl)
                · (try dsimp only)
                  omega
          · obtain rfl : k = 15 := by omega
            (repeat' ((first | refine aw_seq ?_ | refine aw_block ?_ | refine aw_reg hC (by kernel_rfl) ?_ | refine aw_regd hC Try.checked.mixed (by kernel_rfl) ?_ | refine chk_and (by kernel_rfl) ?_ | refine aw_skip ?_ | refine aw_if ?_ | refine And.intro (by first | omega | with_reducible assumption) ?_ | refine aw_exit ?_ | refine aw_ret ?_ | (simp (decide := true) (disch := omega) only [go_sem, ↓reduceIte, ↓put_at]) | (refine ret_s [] ?_; simp (decide := true) (disch := omega) only [go_sem, ↓reduceIte, ↓put_at]))))
    | some w =>
      rw [hg] at c1
      dsimp only [Option.getD_some, Option.isSome_some] at c1
      by_cases hwe : w = e
      · subst hwe
        have hT : rSet x w = (x, false, 0) := by unfold rSet; rw [if_pos hok, if_neg (fun hc => by rw [hg] at hc; simp at hc), if_pos hg]
        rw [hT]
        refine spec_of Try.func80 rfl Try.ntmps80 Try.results80 ⟨by decide, by simp⟩ fun C hC => ?_
        (repeat' ((first | refine aw_seq ?_ | refine aw_block ?_ | refine aw_reg hC (by kernel_rfl) ?_ | refine aw_regd hC Try.checked.mixed (by kernel_rfl) ?_ | refine chk_and (by kernel_rfl) ?_ | refine aw_skip ?_ | refine aw_if ?_ | refine And.intro (by first | omega | with_reducible assumption) ?_ | refine aw_exit ?_ | refine aw_ret ?_ | (simp (decide := true) (disch := omega) only [go_sem, ↓reduceIte, ↓put_at]) | refine call_u Try.call124 (c1) [] (by simp (decide := true) (disch := omega) only [go_sem, ↓reduceIte, ↓put_at]; first | done | assumption | omega) ?_ | (refine ret_s [] ?_; simp (decide := true) (disch := omega) only [go_sem, ↓reduceIte, ↓put_at]))))
        refine gcmpA_s _ _ _ (.inl rfl) (by simp (decide := true) (disch := omega) only [go_sem, ↓reduceIte, ↓put_at]) (by simp (decide := true) (disch := omega) only [go_sem, ↓reduceIte, ↓put_at]) (by simp (decide := true) (disch := omega) only [go_sem, ↓reduceIte, ↓put_at]) (by kernel_rfl) (eqr16_ w.id w.id w.up w.up w.rate w.rate) ?_
        rw [decide_eq_true (show w.id = w.id ∧ w.up = w.up ∧ w.rate = w.rate from ⟨rfl, rfl, rfl⟩)]
        (repeat' ((first | refine aw_seq ?_ | refine aw_block ?_ | refine aw_reg hC (by kernel_rfl) ?_ | refine aw_regd hC Try.checked.mixed (by kernel_rfl) ?_ | refine chk_and (by kernel_rfl) ?_ | refine aw_skip ?_ | refine aw_if ?_ | refine And.intro (by first | omega | with_reducible assumption) ?_ | refine aw_exit ?_ | refine aw_ret ?_ | (simp (decide := true) (disch := omega) only [go_sem, ↓reduceIte, ↓put_at]) | (refine ret_s [] ?_; simp (decide := true) (disch := omega) only [go_sem, ↓reduceIte, ↓put_at]))))
      · have hT : rSet x e = (⟨x.most, x.ver + 1, rRow x.l e 15⟩, true, 0) := by unfold rSet; rw [if_pos hok, if_neg (fun hc => by rw [hg] at hc; simp at hc), if_neg (fun hc => hwe (by rw [hg] at hc; exact Option.some.inj hc))]
        rw [hT]
        have hne : ¬ (w.id = e.id ∧ w.up = e.up ∧ w.rate = e.rate) := fun h => hwe (by cases w; cases e; simp_all)
        refine spec_of Try.func80 rfl Try.ntmps80 Try.results80 ⟨by decide, by simp⟩ fun C hC => ?_
        (repeat' ((first | refine aw_seq ?_ | refine aw_block ?_ | refine aw_reg hC (by kernel_rfl) ?_ | refine aw_regd hC Try.checked.mixed (by kernel_rfl) ?_ | refine chk_and (by kernel_rfl) ?_ | refine aw_skip ?_ | refine aw_if ?_ | refine And.intro (by first | omega | with_reducible assumption) ?_ | refine aw_exit ?_ | refine aw_ret ?_ | (simp (decide := true) (disch := omega) only [go_sem, ↓reduceIte, ↓put_at]) | refine call_u Try.call124 (c1) [] (by simp (decide := true) (disch := omega) only [go_sem, ↓reduceIte, ↓put_at]; first | done | assumption | omega) ?_ | (refine ret_s [] ?_; simp (decide := true) (disch := omega) only [go_sem, ↓reduceIte, ↓put_at]))))
        refine gcmpA_s _ _ _ (.inl rfl) (by simp (decide := true) (disch := omega) only [go_sem, ↓reduceIte, ↓put_at]) (by simp (decide := true) (disch := omega) only [go_sem, ↓reduceIte, ↓put_at]) (by simp (decide := true) (disch := omega) only [go_sem, ↓reduceIte, ↓put_at]) (by kernel_rfl) (eqr16_ w.id e.id w.up e.up w.rate e.rate) ?_
        rw [decide_eq_false hne]
        (repeat' ((fail_if_success (refine stop_reg 10 ?_)); (first | refine aw_seq ?_ | refine aw_block ?_ | refine aw_reg hC (by kernel_rfl) ?_ | refine aw_regd hC Try.checked.mixed (by kernel_rfl) ?_ | refine chk_and (by kernel_rfl) ?_ | refine aw_skip ?_ | refine aw_if ?_ | refine And.intro (by first | omega | with_reducible assumption) ?_ | refine aw_exit ?_ | refine aw_ret ?_ | (simp (decide := true) (disch := omega) only [go_sem, ↓reduceIte, ↓put_at]) | (refine ret_s [] ?_; simp (decide := true) (disch := omega) only [go_sem, ↓reduceIte, ↓put_at]))))
        refine loop_s (α := {k : Nat // k ≤ 15}) (fun k => [(.o (2, 0), .num 3), (.c (2, 0) 0, .av (.val (vi x.most))), (.c (2, 0) 1, .av (.val (vi x.ver))), (.c (2, 0) 2, .av (.val (.lst 3 (x.l.map enEl)))), (.s 2, .av (.ptr (2, 0) 0 0)), (.o (3, 0), .num 3), (.c (3, 0) 0, .av (.val (vi e.id))), (.c (3, 0) 1, .av (.val (vb e.up))), (.c (3, 0) 2, .av (.val (vi e.rate))), (.s 3, .av (.ptr (3, 0) 0 0)), (.o (4, 0), .num 3), (.c (4, 0) 0, .av (.val (vi 0))), (.c (4, 0) 1, .av (.val (vi 0))), (.c (4, 0) 2, .av (.val (.sc (.slice none 0 0)))), (.s 4, .av (.ptr (4, 0) 0 0)), (.k (57, 0), .row 26 3 (rRow x.l e k.1).length), (.s 9, .av (.own (57, 0) 0 26 3 ((rRow x.l e k.1).map enEl))), (.s 10, .av (.val (vi ((k.1 : Int) + 1))))]) (fun k => 15 - k.1) ⟨0, Nat.zero_le _⟩ ?_ (fun k => ?_)
        · simp (decide := true) (disch := omega) only [go_sem, ↓reduceIte, ↓put_at]
          exact ⟨by (show _ = _; kernel_rfl), rfl⟩
        · obtain ⟨k, hk⟩ := k
          dsimp only at hk ⊢
          by_cases hlt : k < 15
          · have hnx : rRow x.l e (k + 1) = rRow x.l e k ++ (if (k : Int) + 1 = e.id then [e] else (rGet x.l ((k : Int) + 1)).toList) := rfl
            have hrl := rRow_len x.l e k
            generalize rRow x.l e k = L at *
            have c2 := r_get x (by omega) ((k : Int) + 1)
            by_cases hid : (k : Int) + 1 = e.id
            · rw [if_pos hid] at hnx
              generalize (rGet x.l ((k : Int) + 1)).getD ⟨0, false, 0⟩ = w2 at *
              generalize (rGet x.l ((k : Int) + 1)).isSome = b2 at *
              (repeat' ((first | refine aw_seq ?_ | refine aw_block ?_ | refine aw_reg hC (by kernel_rfl) ?_ | refine aw_regd hC Try.checked.mixed (by kernel_rfl) ?_ | refine chk_and (by kernel_rfl) ?_ | refine aw_skip ?_ | refine aw_if ?_ | refine And.intro (by first | omega | with_reducible assumption) ?_ | refine aw_exit ?_ | refine aw_ret ?_ | (simp (decide := true) (disch := omega) only [go_sem, ↓reduceIte, ↓put_at]) | refine call_u Try.call124 (c2) [] (by simp (decide := true) (disch := omega) only [go_sem, ↓reduceIte, ↓put_at]; first | done | assumption | omega) ?_ | (refine ret_s [] ?_; simp (decide := true) (disch := omega) only [go_sem, ↓reduceIte, ↓put_at]))))
              refine next_s (α := {k : Nat // k ≤ 15}) ⟨k + 1, hlt⟩ ⟨?_, ?_⟩
              · (try dsimp only)
                rw [hnx]
                simp (decide := true) (disch := omega) only [go_sem, ↓reduceIte, ↓put_at]
                (try rw [List.map_append])
                (try rfl)
              · (try dsimp only)
                omega
            · rw [if_neg hid] at hnx
              cases hg2 : rGet x.l ((k : Int) + 1) with
              | none =>
                rw [hg2] at hnx c2
                rw [Option.toList_none, List.append_nil] at hnx
                (repeat' ((first | refine aw_seq ?_ | refine aw_block ?_ | refine aw_reg hC (by kernel_rfl) ?_ | refine aw_regd hC Try.checked.mixed (by kernel_rfl) ?_ | refine chk_and (by kernel_rfl) ?_ | refine aw_skip ?_ | refine aw_if ?_ | refine And.intro (by first | omega | with_reducible assumption) ?_ | refine aw_exit ?_ | refine aw_ret ?_ | (simp (decide := true) (disch := omega) only [go_sem, ↓reduceIte, ↓put_at]) | refine call_u Try.call124 (c2) [] (by simp (decide := true) (disch := omega) only [go_sem, ↓reduceIte, ↓put_at]; first | done | assumption | omega) ?_ | (refine ret_s [] ?_; simp (decide := true) (disch := omega) only [go_sem, ↓reduceIte, ↓put_at]))))
                refine next_s (α := {k : Nat // k ≤ 15}) ⟨k + 1, hlt⟩ ⟨?_, ?_⟩
                · (try dsimp only)
                  rw [hnx]
                  simp (decide := true) (disch := omega) only [go_sem, ↓reduceIte, ↓put_at]
                · (try dsimp only)
                  omega
              | some w2 =>
                rw [hg2] at hnx c2
                rw [Option.toList_some] at hnx
                (repeat' ((first | refine aw_seq ?_ | refine aw_block ?_ | refine aw_reg hC (by kernel_rfl) ?_ | refine aw_regd hC Try.checked.mixed (by kernel_rfl) ?_ | refine chk_and (by kernel_rfl) ?_ | refine aw_skip ?_ | refine aw_if ?_ | refine And.intro (by first | omega | with_reducible assumption) ?_ | refine aw_exit ?_ | refine aw_ret ?_ | (simp (decide := true) (disch := omega) only [go_sem, ↓reduceIte, ↓put_at]) | refine call_u Try.call124 (c2) [] (by simp (decide := true) (disch := omega) only [go_sem, ↓reduceIte, ↓put_at]; first | done | assumption | omega) ?_ | (refine ret_s [] ?_; simp (decide := true) (disch := omega) only [go_sem, ↓reduceIte, ↓put_at]))))
                refine next_s (α := {k : Nat // k ≤ 15}) ⟨k + 1, hlt⟩ ⟨?_, ?_⟩
                · (try dsimp only)
                  rw [hnx]
                  simp (decide := true) (disch := omega) only [go_sem, ↓reduceIte, ↓put_at]
                  (try rw [List.map_append])
                  (try rfl)
                · (try dsimp only)
                  omega
          · obtain rfl : k = 15 := by omega
            (repeat' ((first | refine aw_seq ?_ | refine aw_block ?_ | refine aw_reg hC (by kernel_rfl) ?_ | refine aw_regd hC Try.checked.mixed (by kernel_rfl) ?_ | refine chk_and (by kernel_rfl) ?_ | refine aw_skip ?_ | refine aw_if ?_ | refine And.intro (by first | omega | with_reducible assumption) ?_ | refine aw_exit ?_ | refine aw_ret ?_ | (simp (decide := true) (disch := omega) only [go_sem, ↓reduceIte, ↓put_at]) | (refine ret_s [] ?_; simp (decide := true) (disch := omega) only [go_sem, ↓reduceIte, ↓put_at]))))
  · have hT : rSet x e = (x, false, 6) := by unfold rSet; rw [if_neg hok]
    rw [hT]
    have hok3 : ¬ (1 ≤ e.id ∧ e.id ≤ 15 ∧ 0 ≤ e.rate ∧ e.rate ≤ 65535) := hok
    by_cases h1 : e.id < 1
    · refine spec_of Try.func80 rfl Try.ntmps80 Try.results80 ⟨by decide, by simp⟩ fun C hC => ?_
      (repeat' ((first | refine aw_seq ?_ | refine aw_block ?_ | refine aw_reg hC (by kernel_rfl) ?_ | refine aw_regd hC Try.checked.mixed (by kernel_rfl) ?_ | refine chk_and (by kernel_rfl) ?_ | refine aw_skip ?_ | refine aw_if ?_ | refine And.intro (by first | omega | with_reducible assumption) ?_ | refine aw_exit ?_ | refine aw_ret ?_ | (simp (decide := true) (disch := omega) only [go_sem, ↓reduceIte, ↓put_at]) | (refine ret_s [] ?_; simp (decide := true) (disch := omega) only [go_sem, ↓reduceIte, ↓put_at]))))
    · by_cases h2 : 15 < e.id
      · refine spec_of Try.func80 rfl Try.ntmps80 Try.results80 ⟨by decide, by simp⟩ fun C hC => ?_
        (repeat' ((first | refine aw_seq ?_ | refine aw_block ?_ | refine aw_reg hC (by kernel_rfl) ?_ | refine aw_regd hC Try.checked.mixed (by kernel_rfl) ?_ | refine chk_and (by kernel_rfl) ?_ | refine aw_skip ?_ | refine aw_if ?_ | refine And.intro (by first | omega | with_reducible assumption) ?_ | refine aw_exit ?_ | refine aw_ret ?_ | (simp (decide := true) (disch := omega) only [go_sem, ↓reduceIte, ↓put_at]) | (refine ret_s [] ?_; simp (decide := true) (disch := omega) only [go_sem, ↓reduceIte, ↓put_at]))))
      · by_cases h3 : e.rate < 0
        · refine spec_of Try.func80 rfl Try.ntmps80 Try.results80 ⟨by decide, by simp⟩ fun C hC => ?_
          (repeat' ((first | refine aw_seq ?_ | refine aw_block ?_ | refine aw_reg hC (by kernel_rfl) ?_ | refine aw_regd hC Try.checked.mixed (by kernel_rfl) ?_ | refine chk_and (by kernel_rfl) ?_ | refine aw_skip ?_ | refine aw_if ?_ | refine And.intro (by first | omega | with_reducible assumption) ?_ | refine aw_exit ?_ | refine aw_ret ?_ | (simp (decide := true) (disch := omega) only [go_sem, ↓reduceIte, ↓put_at]) | (refine ret_s [] ?_; simp (decide := true) (disch := omega) only [go_sem, ↓reduceIte, ↓put_at]))))
        · have h4 : 65535 < e.rate := by omega
          refine spec_of Try.func80 rfl Try.ntmps80 Try.results80 ⟨by decide, by simp⟩ fun C hC => ?_
          (repeat' ((first | refine aw_seq ?_ | refine aw_block ?_ | refine aw_reg hC (by kernel_rfl) ?_ | refine aw_regd hC Try.checked.mixed (by kernel_rfl) ?_ | refine chk_and (by kernel_rfl) ?_ | refine aw_skip ?_ | refine aw_if ?_ | refine And.intro (by first | omega | with_reducible assumption) ?_ | refine aw_exit ?_ | refine aw_ret ?_ | (simp (decide := true) (disch := omega) only [go_sem, ↓reduceIte, ↓put_at]) | (refine ret_s [] ?_; simp (decide := true) (disch := omega) only [go_sem, ↓reduceIte, ↓put_at]))))
end Go.Proofs.Ytdgkehoodlncmaa
