
/- Layer 18: a clone, paths, a call of both; walked. -/
import Derived.Test.YtdgkehoodlncmaaShS
import Derived.Test.YtdgkehoodlncmaaRP
namespace Go.Proofs.Ytdgkehoodlncmaa
open Go.RowKit
set_option linter.unusedVariables false
set_option linter.unusedSimpArgs false

set_option maxRecDepth 100000 in
theorem s_clone (l : List Ld) (hl : l.length ≤ 1000) : Spec Try.prog 28 [.ptr 0 0] [shL l] (.ptr 1 0) [shL l, shL l] := by
  have c1 := sl_clone_ld (l.map ldEl) (by rw [List.length_map]; omega) (ld_len _) (ld_one _)
  refine spec_of Try.func28 rfl Try.ntmps28 Try.results28 ⟨by decide, by simp⟩ fun C hC => ?_
  (repeat' ((first | refine aw_seq ?_ | refine aw_block ?_ | refine aw_reg hC (by kernel_rfl) ?_ | refine aw_regd hC Try.checked.mixed (by kernel_rfl) ?_ | refine chk_and (by kernel_rfl) ?_ | refine aw_skip ?_ | refine aw_if ?_ | refine And.intro (by first | omega | with_reducible assumption) ?_ | refine aw_exit ?_ | refine aw_ret ?_ | (simp (decide := true) (disch := omega) only [go_sem, ↓reduceIte, ↓put_at]) | refine pcallT_u Try.call69 (c1) ((ld_flat l)) (by simp (decide := true) (disch := omega) only [go_sem, ↓reduceIte, ↓put_at]; first | done | assumption | omega) ?_ | (refine ret_s [] ?_; simp (decide := true) (disch := omega) only [go_sem, ↓reduceIte, ↓put_at]))))
  refine bldA_s (by simp (decide := true) (disch := omega) only [go_sem, ↓reduceIte, ↓put_at]; exact ⟨rfl, rfl, rfl⟩) (by simp (decide := true) (disch := omega) only [go_sem, ↓reduceIte, ↓put_at]) ?_
  refine boxA_s (by simp (decide := true) (disch := omega) only [go_sem, ↓reduceIte, ↓put_at]; exact ⟨rfl, rfl, rfl⟩) (by simp (decide := true) (disch := omega) only [go_sem, ↓reduceIte, ↓put_at]) ?_
  (repeat' ((first | refine aw_seq ?_ | refine aw_block ?_ | refine aw_reg hC (by kernel_rfl) ?_ | refine aw_regd hC Try.checked.mixed (by kernel_rfl) ?_ | refine chk_and (by kernel_rfl) ?_ | refine aw_skip ?_ | refine aw_if ?_ | refine And.intro (by first | omega | with_reducible assumption) ?_ | refine aw_exit ?_ | refine aw_ret ?_ | (simp (decide := true) (disch := omega) only [go_sem, ↓reduceIte, ↓put_at]) | (refine ret_s [(9, 0)] ?_; simp (decide := true) (disch := omega) only [go_sem, ↓reduceIte, ↓put_at]))))
set_option maxRecDepth 100000 in
set_option maxHeartbeats 4000000 in
theorem s_paths (l : List Ld) (hl : l.length ≤ 1000) : Spec Try.prog 79 [.ca (.val (.ep (shV l)))] [] (.ca (.val (.lst 1 ((l.map (·.p)).map iRow)))) [] := by
  refine spec_of Try.func79 rfl Try.ntmps79 Try.results79 ⟨by decide, by simp⟩ fun C hC => ?_
  (repeat' ((fail_if_success (refine stop_reg 2 ?_)); (first | refine aw_seq ?_ | refine aw_block ?_ | refine aw_reg hC (by kernel_rfl) ?_ | refine aw_regd hC Try.checked.mixed (by kernel_rfl) ?_ | refine chk_and (by kernel_rfl) ?_ | refine aw_skip ?_ | refine aw_if ?_ | refine And.intro (by first | omega | with_reducible assumption) ?_ | refine aw_exit ?_ | refine aw_ret ?_ | (simp (decide := true) (disch := omega) only [go_sem, ↓reduceIte, ↓put_at]) | (refine ret_s [] ?_; simp (decide := true) (disch := omega) only [go_sem, ↓reduceIte, ↓put_at]))))
  refine own_s 3 (3, 1) 3 1 ?_
  simp (decide := true) (disch := omega) only [go_sem, ↓reduceIte, ↓put_at]
  (repeat' ((fail_if_success (refine stop_reg 3 ?_)); (first | refine aw_seq ?_ | refine aw_block ?_ | refine aw_reg hC (by kernel_rfl) ?_ | refine aw_regd hC Try.checked.mixed (by kernel_rfl) ?_ | refine chk_and (by kernel_rfl) ?_ | refine aw_skip ?_ | refine aw_if ?_ | refine And.intro (by first | omega | with_reducible assumption) ?_ | refine aw_exit ?_ | refine aw_ret ?_ | (simp (decide := true) (disch := omega) only [go_sem, ↓reduceIte, ↓put_at]) | (refine ret_s [] ?_; simp (decide := true) (disch := omega) only [go_sem, ↓reduceIte, ↓put_at]))))
  refine loop_s (α := {j : Nat // j ≤ l.length}) (fun j => [(.k (3, 1), .row 3 1 (l.take j.1).length), (.s 3, .av (.own (3, 1) 0 3 1 (((l.take j.1).map (·.p)).map iRow))), (.s 9, .av (.val (.lst 3 (l.map ldEl)))), (.s 10, .av (.val (vi l.length))), (.s 11, .av (.val (vi j.1)))]) (fun j => l.length - j.1) ⟨0, Nat.zero_le _⟩ ?_ (fun j => ?_)
  · simp (decide := true) (disch := omega) only [go_sem, ↓reduceIte, ↓put_at]
    (try exact ⟨by (show _ = _; kernel_rfl), by simp⟩)
  · obtain ⟨j, hj⟩ := j
    dsimp only at hj ⊢
    by_cases hlt : j < l.length
    · have hge : (l.map ldEl).getD j [] = ldEl l[j] := by simp [hlt]
      have hnx : l.take (j + 1) = l.take j ++ [l[j]] := (List.take_append_getElem hlt).symm
      have hln : (l.take j).length ≤ 1000 := by rw [List.length_take]; omega
      generalize l.take j = L at *
      (repeat' ((first | refine aw_seq ?_ | refine aw_block ?_ | refine aw_reg hC (by kernel_rfl) ?_ | refine aw_regd hC Try.checked.mixed (by kernel_rfl) ?_ | refine chk_and (by kernel_rfl) ?_ | refine aw_skip ?_ | refine aw_if ?_ | refine And.intro (by first | omega | with_reducible assumption) ?_ | refine aw_exit ?_ | refine aw_ret ?_ | (simp (decide := true) (disch := omega) only [go_sem, ↓reduceIte, ↓put_at]) | (refine ret_s [] ?_; simp (decide := true) (disch := omega) only [go_sem, ↓reduceIte, ↓put_at]))))
      refine next_s (α := {j : Nat // j ≤ l.length}) ⟨j + 1, hlt⟩ ⟨?_, ?_⟩
      · (try dsimp only)
        rw [hnx]
        simp (decide := true) (disch := omega) only [go_sem, ↓reduceIte, ↓put_at]
        simp
      · (try dsimp only)
        omega
    · obtain rfl : j = l.length := by omega
      rw [List.take_length]
      generalize l.map (·.p) = L at *
      (repeat' ((first | refine aw_seq ?_ | refine aw_block ?_ | refine aw_reg hC (by kernel_rfl) ?_ | refine aw_regd hC Try.checked.mixed (by kernel_rfl) ?_ | refine chk_and (by kernel_rfl) ?_ | refine aw_skip ?_ | refine aw_if ?_ | refine And.intro (by first | omega | with_reducible assumption) ?_ | refine aw_exit ?_ | refine aw_ret ?_ | (simp (decide := true) (disch := omega) only [go_sem, ↓reduceIte, ↓put_at]) | (refine ret_s [] ?_; simp (decide := true) (disch := omega) only [go_sem, ↓reduceIte, ↓put_at]))))
set_option maxRecDepth 100000 in
set_option maxHeartbeats 4000000 in
theorem l18_weights (ws : List Wt) (hl : ws.length ≤ 1000) : Spec Try.prog 76 [.ca (.val (.lst 2 (ws.map wtEl)))] [] (.ca (.val (.lst 2 (ws.map wtEl)))) [] := by
  refine spec_of Try.func76 rfl Try.ntmps76 Try.results76 ⟨by decide, by simp⟩ fun C hC => ?_
  (repeat' ((fail_if_success (refine stop_reg 2 ?_)); (first | refine aw_seq ?_ | refine aw_block ?_ | refine aw_reg hC (by kernel_rfl) ?_ | refine aw_regd hC Try.checked.mixed (by kernel_rfl) ?_ | refine chk_and (by kernel_rfl) ?_ | refine aw_skip ?_ | refine aw_if ?_ | refine And.intro (by first | omega | with_reducible assumption) ?_ | refine aw_exit ?_ | refine aw_ret ?_ | (simp (decide := true) (disch := omega) only [go_sem, ↓reduceIte, ↓put_at]) | (refine ret_s [] ?_; simp (decide := true) (disch := omega) only [go_sem, ↓reduceIte, ↓put_at]))))
  refine own_s 3 (3, 1) 42 2 ?_
  simp (decide := true) (disch := omega) only [go_sem, ↓reduceIte, ↓put_at]
  (repeat' ((fail_if_success (refine stop_reg 3 ?_)); (first | refine aw_seq ?_ | refine aw_block ?_ | refine aw_reg hC (by kernel_rfl) ?_ | refine aw_regd hC Try.checked.mixed (by kernel_rfl) ?_ | refine chk_and (by kernel_rfl) ?_ | refine aw_skip ?_ | refine aw_if ?_ | refine And.intro (by first | omega | with_reducible assumption) ?_ | refine aw_exit ?_ | refine aw_ret ?_ | (simp (decide := true) (disch := omega) only [go_sem, ↓reduceIte, ↓put_at]) | (refine ret_s [] ?_; simp (decide := true) (disch := omega) only [go_sem, ↓reduceIte, ↓put_at]))))
  refine loop_s (α := {j : Nat // j ≤ ws.length}) (fun j => [(.k (3, 1), .row 42 2 (ws.take j.1).length), (.s 3, .av (.own (3, 1) 0 42 2 ((ws.take j.1).map wtEl))), (.s 6, .av (.val (.lst 2 (ws.map wtEl)))), (.s 7, .av (.val (vi ws.length))), (.s 8, .av (.val (vi j.1)))]) (fun j => ws.length - j.1) ⟨0, Nat.zero_le _⟩ ?_ (fun j => ?_)
  · simp (decide := true) (disch := omega) only [go_sem, ↓reduceIte, ↓put_at]
    (try exact ⟨by (show _ = _; kernel_rfl), by simp⟩)
  · obtain ⟨j, hj⟩ := j
    dsimp only at hj ⊢
    by_cases hlt : j < ws.length
    · have hge : (ws.map wtEl).getD j [] = wtEl ws[j] := by simp [hlt]
      have hnx : ws.take (j + 1) = ws.take j ++ [ws[j]] := (List.take_append_getElem hlt).symm
      have hln : (ws.take j).length ≤ 1000 := by rw [List.length_take]; omega
      generalize ws.take j = L at *
      (repeat' ((first | refine aw_seq ?_ | refine aw_block ?_ | refine aw_reg hC (by kernel_rfl) ?_ | refine aw_regd hC Try.checked.mixed (by kernel_rfl) ?_ | refine chk_and (by kernel_rfl) ?_ | refine aw_skip ?_ | refine aw_if ?_ | refine And.intro (by first | omega | with_reducible assumption) ?_ | refine aw_exit ?_ | refine aw_ret ?_ | (simp (decide := true) (disch := omega) only [go_sem, ↓reduceIte, ↓put_at]) | (refine ret_s [] ?_; simp (decide := true) (disch := omega) only [go_sem, ↓reduceIte, ↓put_at]))))
      refine next_s (α := {j : Nat // j ≤ ws.length}) ⟨j + 1, hlt⟩ ⟨?_, ?_⟩
      · (try dsimp only)
        rw [hnx]
        simp (decide := true) (disch := omega) only [go_sem, ↓reduceIte, ↓put_at]
        (try rw [List.map_append])
        (try rfl)
      · (try dsimp only)
        omega
    · obtain rfl : j = ws.length := by omega
      rw [List.take_length]
      (repeat' ((first | refine aw_seq ?_ | refine aw_block ?_ | refine aw_reg hC (by kernel_rfl) ?_ | refine aw_regd hC Try.checked.mixed (by kernel_rfl) ?_ | refine chk_and (by kernel_rfl) ?_ | refine aw_skip ?_ | refine aw_if ?_ | refine And.intro (by first | omega | with_reducible assumption) ?_ | refine aw_exit ?_ | refine aw_ret ?_ | (simp (decide := true) (disch := omega) only [go_sem, ↓reduceIte, ↓put_at]) | (refine ret_s [] ?_; simp (decide := true) (disch := omega) only [go_sem, ↓reduceIte, ↓put_at]))))
abbrev act18 (a : A18) : List V := [vi a.kind, vi a.path, vi a.bytes, .lst 2 (a.ws.map wtEl), .lst 1 (a.may.map iRow)]
set_option maxRecDepth 100000 in
set_option maxHeartbeats 8000000 in
theorem l18_do {B : Int} (l : List Ld) (ok : ShOk B l) (hB : B ≤ 1099511627776) (a : A18) (hw : a.ws.length ≤ maxLen) (hm : a.may.length ≤ maxLen) :
    Spec Try.prog 26 [.ptr 0 0, .ca (.val (.lst 3 (l.map ldEl))), .ca (.val (.agg (act18 a)))] [shL l] (.ca (.val (.tup [.lst 3 ((doS l a).map ldEl), vb true]))) [shL (doS l a)] := by
  have hf := ok.few
  have hb : ∀ x ∈ l, 0 ≤ x.b ∧ x.b ≤ 1099511627776 := fun x hx => by have := ok.ok x hx; omega
  unfold doS
  by_cases h0 : a.kind = 0
  · rw [if_pos h0]
    have hmin : ((min (a.ws.length : Int) 18).toNat) = min a.ws.length 18 := by omega
    have hln : (a.ws.take 18).length ≤ 18 := by rw [List.length_take]; omega
    have htk : a.ws.take (min a.ws.length 18) = a.ws.take 18 := by rw [Nat.min_comm, ← List.take_take, List.take_length]
    have c1 := r18_set l hf (a.ws.take 18) (by omega)
    have c2 := l18_weights (a.ws.take 18) (by omega)
    have c3 := s_set l (by omega) (a.ws.take 18) (by omega)
    generalize setF l (a.ws.take 18) = R at *
    obtain ⟨R1, R2⟩ := R
    dsimp only at c1 c3 ⊢
    refine spec_of Try.func26 rfl Try.ntmps26 Try.results26 ⟨by decide, by simp⟩ fun C hC => ?_
    (repeat' ((fail_if_success (refine stop_reg 4 ?_)); (first | refine aw_seq ?_ | refine aw_block ?_ | refine aw_reg hC (by kernel_rfl) ?_ | refine aw_regd hC Try.checked.mixed (by kernel_rfl) ?_ | refine chk_and (by kernel_rfl) ?_ | refine aw_skip ?_ | refine aw_if ?_ | refine And.intro (by first | omega | with_reducible assumption) ?_ | refine aw_exit ?_ | refine aw_ret ?_ | (simp (decide := true) (disch := omega) only [go_sem, ↓reduceIte, ↓put_at]) | (refine ret_s [] ?_; simp (decide := true) (disch := omega) only [go_sem, ↓reduceIte, ↓put_at]))))
    refine ⟨⟨by omega, by omega, fun q h => h.elim⟩, ?_⟩
    rw [hmin, ← List.map_take, htk]
    (repeat' ((first | refine aw_seq ?_ | refine aw_block ?_ | refine aw_reg hC (by kernel_rfl) ?_ | refine aw_regd hC Try.checked.mixed (by kernel_rfl) ?_ | refine chk_and (by kernel_rfl) ?_ | refine aw_skip ?_ | refine aw_if ?_ | refine And.intro (by first | omega | with_reducible assumption) ?_ | refine aw_exit ?_ | refine aw_ret ?_ | (simp (decide := true) (disch := omega) only [go_sem, ↓reduceIte, ↓put_at]) | refine call_u Try.call75 (c1) [] (by simp (decide := true) (disch := omega) only [go_sem, ↓reduceIte, ↓put_at]; first | done | assumption | omega) ?_ | refine call_u Try.call76 (c2) [] (by simp (decide := true) (disch := omega) only [go_sem, ↓reduceIte, ↓put_at]; first | done | assumption | omega) ?_ | refine call_u Try.call21 (c3) [(1000, 0)] (by simp (decide := true) (disch := omega) only [go_sem, ↓reduceIte, ↓put_at]; first | done | assumption | omega) ?_ | (refine ret_s [] ?_; simp (decide := true) (disch := omega) only [go_sem, ↓reduceIte, ↓put_at]))))
  · rw [if_neg h0]
    by_cases h1 : a.kind = 1
    · rw [if_pos h1]
      have c1 := r18_pick l ok hB (a.may.take 18) (by rw [List.length_take]; omega)
      have c2 := s_pick l ok hB (a.may.take 18) (by rw [List.length_take]; omega)
      have hmin2 : ((min (a.may.length : Int) 18).toNat) = min a.may.length 18 := by omega
      have htk2 : a.may.take (min a.may.length 18) = a.may.take 18 := by rw [Nat.min_comm, ← List.take_take, List.take_length]
      generalize pickF l (a.may.take 18) = R at *
      obtain ⟨R1, R2⟩ := R
      dsimp only at c1 c2
      refine spec_of Try.func26 rfl Try.ntmps26 Try.results26 ⟨by decide, by simp⟩ fun C hC => ?_
      (repeat' ((fail_if_success (refine stop_reg 8 ?_)); (first | refine aw_seq ?_ | refine aw_block ?_ | refine aw_reg hC (by kernel_rfl) ?_ | refine aw_regd hC Try.checked.mixed (by kernel_rfl) ?_ | refine chk_and (by kernel_rfl) ?_ | refine aw_skip ?_ | refine aw_if ?_ | refine And.intro (by first | omega | with_reducible assumption) ?_ | refine aw_exit ?_ | refine aw_ret ?_ | (simp (decide := true) (disch := omega) only [go_sem, ↓reduceIte, ↓put_at]) | (refine ret_s [] ?_; simp (decide := true) (disch := omega) only [go_sem, ↓reduceIte, ↓put_at]))))
      refine ⟨⟨by omega, by omega, fun q h => h.elim⟩, ?_⟩
      rw [hmin2, ← List.map_take, htk2]
      (repeat' ((first | refine aw_seq ?_ | refine aw_block ?_ | refine aw_reg hC (by kernel_rfl) ?_ | refine aw_regd hC Try.checked.mixed (by kernel_rfl) ?_ | refine chk_and (by kernel_rfl) ?_ | refine aw_skip ?_ | refine aw_if ?_ | refine And.intro (by first | omega | with_reducible assumption) ?_ | refine aw_exit ?_ | refine aw_ret ?_ | (simp (decide := true) (disch := omega) only [go_sem, ↓reduceIte, ↓put_at]) | refine call_u Try.call77 (c1) [] (by simp (decide := true) (disch := omega) only [go_sem, ↓reduceIte, ↓put_at]; first | done | assumption | omega) ?_ | refine pcall_u Try.call22 (c2) (by simp (decide := true) (disch := omega) only [go_sem, ↓reduceIte, ↓put_at]; first | done | assumption | omega) ?_ | (refine ret_s [] ?_; simp (decide := true) (disch := omega) only [go_sem, ↓reduceIte, ↓put_at]))))
    · rw [if_neg h1]
      have c1 := r18_carry l hf a.path a.bytes hb
      have c2 := s_carry l (by omega) a.path a.bytes hb
      rw [carryF_map ok] at c2 ⊢
      generalize (l.any fun x => decide (x.p = a.path)) = bb at *
      dsimp only at c2 ⊢
      refine spec_of Try.func26 rfl Try.ntmps26 Try.results26 ⟨by decide, by simp⟩ fun C hC => ?_
      (repeat' ((first | refine aw_seq ?_ | refine aw_block ?_ | refine aw_reg hC (by kernel_rfl) ?_ | refine aw_regd hC Try.checked.mixed (by kernel_rfl) ?_ | refine chk_and (by kernel_rfl) ?_ | refine aw_skip ?_ | refine aw_if ?_ | refine And.intro (by first | omega | with_reducible assumption) ?_ | refine aw_exit ?_ | refine aw_ret ?_ | (simp (decide := true) (disch := omega) only [go_sem, ↓reduceIte, ↓put_at]) | refine call_u Try.call78 (c1) [] (by simp (decide := true) (disch := omega) only [go_sem, ↓reduceIte, ↓put_at]; first | done | assumption | omega) ?_ | refine call_u Try.call23 (c2) [(1000, 0)] (by simp (decide := true) (disch := omega) only [go_sem, ↓reduceIte, ↓put_at]; first | done | assumption | omega) ?_ | (refine ret_s [] ?_; simp (decide := true) (disch := omega) only [go_sem, ↓reduceIte, ↓put_at]))))
set_option maxRecDepth 100000 in
set_option maxHeartbeats 8000000 in
theorem l18_is {B : Int} (l : List Ld) (ok : ShOk B l) (hB : B ≤ 1099511627776) : Spec Try.prog 27 [.ca (.val (.ep (shV l))), .ca (.val (.lst 3 (l.map ldEl)))] [] (.ca (.val (vb true))) [] := by
  have hf := ok.few
  have hb : ∀ x ∈ l, 0 ≤ x.b ∧ x.b ≤ 1099511627776 := fun x hx => by have := ok.ok x hx; omega
  have c1 := s_paths l (by omega)
  have c2 := s_total l hf hb
  obtain ⟨ps, hps⟩ : ∃ ps, ps = l.map (·.p) := ⟨_, rfl⟩
  have hpl : ps.length = l.length := by rw [hps, List.length_map]
  rw [← hps] at c1
  refine spec_of Try.func27 rfl Try.ntmps27 Try.results27 ⟨by decide, by simp⟩ fun C hC => ?_
  (repeat' ((fail_if_success (refine stop_reg 6 ?_)); (first | refine aw_seq ?_ | refine aw_block ?_ | refine aw_reg hC (by kernel_rfl) ?_ | refine aw_regd hC Try.checked.mixed (by kernel_rfl) ?_ | refine chk_and (by kernel_rfl) ?_ | refine aw_skip ?_ | refine aw_if ?_ | refine And.intro (by first | omega | with_reducible assumption) ?_ | refine aw_exit ?_ | refine aw_ret ?_ | (simp (decide := true) (disch := omega) only [go_sem, ↓reduceIte, ↓put_at]) | refine call_u Try.call79 (c1) [] (by simp (decide := true) (disch := omega) only [go_sem, ↓reduceIte, ↓put_at]; first | done | assumption | omega) ?_ | (refine ret_s [] ?_; simp (decide := true) (disch := omega) only [go_sem, ↓reduceIte, ↓put_at]))))
  refine loop_s (α := {j : Nat // j ≤ l.length}) (fun j => [(.s 0, .av (.val (.ep (shV l)))), (.s 5, .av (.val (.lst 1 (ps.map iRow)))), (.s 6, .av (.val (vi (totF (l.take j.1))))), (.s 16, .av (.val (.lst 3 (l.map ldEl)))), (.s 17, .av (.val (vi l.length))), (.s 18, .av (.val (vi j.1)))]) (fun j => l.length - j.1) ⟨0, Nat.zero_le _⟩ ?_ (fun j => ?_)
  · simp (decide := true) (disch := omega) only [go_sem, ↓reduceIte, ↓put_at]
    (try rfl)
  · obtain ⟨j, hj⟩ := j
    dsimp only at hj ⊢
    by_cases hlt : j < l.length
    · have hge : (l.map ldEl).getD j [] = ldEl l[j] := by simp [hlt]
      have hpj : ps[j] = l[j].p := by subst hps; simp
      have c3 := s_carried l (by omega) l[j].p
      rw [car_in ok hlt] at c3
      obtain ⟨b1, b2⟩ := hb _ (List.getElem_mem hlt)
      have hbd := tot_bd 1099511627776 (l.take j) fun x hx => hb x (List.mem_of_mem_take hx)
      rw [List.length_take] at hbd
      have hnx : totF (l.take (j + 1)) = totF (l.take j) + l[j].b := by rw [← List.take_append_getElem hlt, tot_snoc]
      have hk : ((min j l.length : Nat) : Int) * 1099511627776 ≤ 15 * 1099511627776 := by omega
      generalize totF (l.take j) = T at *
      (repeat' ((first | refine aw_seq ?_ | refine aw_block ?_ | refine aw_reg hC (by kernel_rfl) ?_ | refine aw_regd hC Try.checked.mixed (by kernel_rfl) ?_ | refine chk_and (by kernel_rfl) ?_ | refine aw_skip ?_ | refine aw_if ?_ | refine And.intro (by first | omega | with_reducible assumption) ?_ | refine aw_exit ?_ | refine aw_ret ?_ | (simp (decide := true) (disch := omega) only [go_sem, ↓reduceIte, ↓put_at]) | refine call_u Try.call25 (c3) [] (by simp (decide := true) (disch := omega) only [go_sem, ↓reduceIte, ↓put_at]; first | done | assumption | omega) ?_ | (refine ret_s [] ?_; simp (decide := true) (disch := omega) only [go_sem, ↓reduceIte, ↓put_at]))))
      refine next_s (α := {j : Nat // j ≤ l.length}) ⟨j + 1, hlt⟩ ⟨?_, ?_⟩
      · (try dsimp only)
        rw [hnx]
        simp (decide := true) (disch := omega) only [go_sem, ↓reduceIte, ↓put_at]
      · (try dsimp only)
        omega
    · obtain rfl : j = l.length := by omega
      rw [List.take_length]
      generalize totF l = T at *
      (repeat' ((first | refine aw_seq ?_ | refine aw_block ?_ | refine aw_reg hC (by kernel_rfl) ?_ | refine aw_regd hC Try.checked.mixed (by kernel_rfl) ?_ | refine chk_and (by kernel_rfl) ?_ | refine aw_skip ?_ | refine aw_if ?_ | refine And.intro (by first | omega | with_reducible assumption) ?_ | refine aw_exit ?_ | refine aw_ret ?_ | (simp (decide := true) (disch := omega) only [go_sem, ↓reduceIte, ↓put_at]) | refine call_u Try.call24 (c2) [] (by simp (decide := true) (disch := omega) only [go_sem, ↓reduceIte, ↓put_at]; first | done | assumption | omega) ?_ | (refine ret_s [] ?_; simp (decide := true) (disch := omega) only [go_sem, ↓reduceIte, ↓put_at]))))
end Go.Proofs.Ytdgkehoodlncmaa
