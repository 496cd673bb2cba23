
/- Layer 15: the gauges, walked. -/
import Derived.Test.YtdgkehoodlncmaaRM
import Derived.Test.YtdgkehoodlncmaaGaugeM
namespace Go.Proofs.Ytdgkehoodlncmaa
open Go.RowKit
set_option linter.unusedVariables false
set_option linter.unusedSimpArgs false

set_option maxRecDepth 100000 in
theorem g_clip (n lo hi : Int) : Spec Try.prog 92 [.ca (.val (vi n)), .ca (.val (vi lo)), .ca (.val (vi hi))] [] (.ca (.val (vi (clipZ n lo hi)))) [] := by
  unfold clipZ
  refine spec_of Try.func92 rfl Try.ntmps92 Try.results92 ⟨by decide, by simp⟩ fun C hC => ?_
  (repeat' ((first | refine aw_seq ?_ | refine aw_block ?_ | refine aw_reg hC (by kernel_rfl) ?_ | refine aw_regd hC Try.checked.mixed (by kernel_rfl) ?_ | refine chk_and (by kernel_rfl) ?_ | refine aw_skip ?_ | refine aw_if ?_ | refine And.intro (by first | omega | with_reducible assumption) ?_ | refine aw_exit ?_ | refine aw_ret ?_ | (simp (decide := true) (disch := omega) only [go_sem, ↓reduceIte, ↓put_at]) | refine condK_eq (fun h => ?_) (fun h => ?_) | refine condK_dec (fun h => ?_) (fun h => ?_) | refine condK_if (fun h => ?_) (fun h => ?_) | (refine ret_s [] ?_; simp (decide := true) (disch := omega) only [go_sem, ↓reduceIte, ↓put_at]))))
set_option maxRecDepth 100000 in
theorem g_tick (n : Int) : Spec Try.prog 91 [.ca (.val (vi n))] [] (.ca (.val (vi (tickZ n)))) [] := by
  have c := g_clip n 0 1099511627776
  unfold tickZ
  generalize clipZ n 0 1099511627776 = r at *
  refine spec_of Try.func91 rfl Try.ntmps91 Try.results91 ⟨by decide, by simp⟩ fun C hC => ?_
  (repeat' ((first | refine aw_seq ?_ | refine aw_block ?_ | refine aw_reg hC (by kernel_rfl) ?_ | refine aw_regd hC Try.checked.mixed (by kernel_rfl) ?_ | refine chk_and (by kernel_rfl) ?_ | refine aw_skip ?_ | refine aw_if ?_ | refine And.intro (by first | omega | with_reducible assumption) ?_ | refine aw_exit ?_ | refine aw_ret ?_ | (simp (decide := true) (disch := omega) only [go_sem, ↓reduceIte, ↓put_at]) | refine call_u Try.call92 (c) [] (by simp (decide := true) (disch := omega) only [go_sem, ↓reduceIte, ↓put_at]; first | done | assumption | omega) ?_ | refine condK_eq (fun h => ?_) (fun h => ?_) | refine condK_dec (fun h => ?_) (fun h => ?_) | refine condK_if (fun h => ?_) (fun h => ?_) | (refine ret_s [] ?_; simp (decide := true) (disch := omega) only [go_sem, ↓reduceIte, ↓put_at]))))
set_option maxRecDepth 100000 in
theorem g_far (a b : Int) (ha : -17592186044416 ≤ a ∧ a ≤ 17592186044416) (hb : -17592186044416 ≤ b ∧ b ≤ 17592186044416) : Spec Try.prog 93 [.ca (.val (vi a)), .ca (.val (vi b))] [] (.ca (.val (vi (farZ a b)))) [] := by
  unfold farZ
  obtain ⟨a1, a2⟩ := ha
  obtain ⟨b1, b2⟩ := hb
  refine spec_of Try.func93 rfl Try.ntmps93 Try.results93 ⟨by decide, by simp⟩ fun C hC => ?_
  (repeat' ((first | refine aw_seq ?_ | refine aw_block ?_ | refine aw_reg hC (by kernel_rfl) ?_ | refine aw_regd hC Try.checked.mixed (by kernel_rfl) ?_ | refine chk_and (by kernel_rfl) ?_ | refine aw_skip ?_ | refine aw_if ?_ | refine And.intro (by first | omega | with_reducible assumption) ?_ | refine aw_exit ?_ | refine aw_ret ?_ | (simp (decide := true) (disch := omega) only [go_sem, ↓reduceIte, ↓put_at]) | refine condK_eq (fun h => ?_) (fun h => ?_) | refine condK_dec (fun h => ?_) (fun h => ?_) | refine condK_if (fun h => ?_) (fun h => ?_) | (refine ret_s [] ?_; simp (decide := true) (disch := omega) only [go_sem, ↓reduceIte, ↓put_at]))))
abbrev jL (j : J15) : List V := [vi j.sc, vi j.tr, vb j.has]
set_option maxRecDepth 100000 in
set_option maxHeartbeats 2000000 in
theorem g_jnext (j : J15) (sent came : Int) : Spec Try.prog 36 [.ca (.val (.agg (jL j))), .ca (.val (vi sent)), .ca (.val (vi came))] [] (.ca (.val (.agg (jL (jNext j sent came))))) [] := by
  have c1 := g_tick came
  have c2 := g_tick sent
  have c3 := g_clip j.sc 0 17592186044416
  have c4 := g_clip j.tr (-1099511627776) 1099511627776
  have b1 := clipZ_ge came 0 1099511627776
  have b2 := clipZ_le came 0 1099511627776 (by decide)
  have b3 := clipZ_ge sent 0 1099511627776
  have b4 := clipZ_le sent 0 1099511627776 (by decide)
  have b5 := clipZ_ge j.sc 0 17592186044416
  have b6 := clipZ_le j.sc 0 17592186044416 (by decide)
  have b7 := clipZ_ge j.tr (-1099511627776) 1099511627776
  have b8 := clipZ_le j.tr (-1099511627776) 1099511627776 (by decide)
  change 0 ≤ tickZ came at b1
  change tickZ came ≤ _ at b2
  change 0 ≤ tickZ sent at b3
  change tickZ sent ≤ _ at b4
  have c5 := g_far (tickZ came - tickZ sent) (clipZ j.tr (-1099511627776) 1099511627776) (by omega) (by omega)
  have b9 : 0 ≤ farZ (tickZ came - tickZ sent) (clipZ j.tr (-1099511627776) 1099511627776) := by unfold farZ; omega
  have b10 : farZ (tickZ came - tickZ sent) (clipZ j.tr (-1099511627776) 1099511627776) ≤ 17592186044416 := by unfold farZ; omega
  unfold jNext
  (try dsimp only)
  generalize farZ (tickZ came - tickZ sent) (clipZ j.tr (-1099511627776) 1099511627776) = D at *
  generalize tickZ came = tc at *
  generalize tickZ sent = ts at *
  generalize clipZ j.sc 0 17592186044416 = S at *
  generalize clipZ j.tr (-1099511627776) 1099511627776 = R at *
  obtain ⟨sc, tr, has⟩ := j
  (try dsimp only at *)
  cases has with
  | false =>
    simp only [Bool.false_eq_true, if_false]
    refine spec_of Try.func36 rfl Try.ntmps36 Try.results36 ⟨by decide, by simp⟩ fun C hC => ?_
    (repeat' ((first | refine aw_seq ?_ | refine aw_block ?_ | refine aw_reg hC (by kernel_rfl) ?_ | refine aw_regd hC Try.checked.mixed (by kernel_rfl) ?_ | refine chk_and (by kernel_rfl) ?_ | refine aw_skip ?_ | refine aw_if ?_ | refine And.intro (by first | omega | with_reducible assumption) ?_ | refine aw_exit ?_ | refine aw_ret ?_ | (simp (decide := true) (disch := omega) only [go_sem, ↓reduceIte, ↓put_at]) | refine call_u Try.call91 (c1) [] (by simp (decide := true) (disch := omega) only [go_sem, ↓reduceIte, ↓put_at]; first | done | assumption | omega) ?_ | refine call_u Try.call91 (c2) [] (by simp (decide := true) (disch := omega) only [go_sem, ↓reduceIte, ↓put_at]; first | done | assumption | omega) ?_ | refine call_u Try.call92 (c3) [] (by simp (decide := true) (disch := omega) only [go_sem, ↓reduceIte, ↓put_at]; first | done | assumption | omega) ?_ | refine condK_eq (fun h => ?_) (fun h => ?_) | refine condK_dec (fun h => ?_) (fun h => ?_) | refine condK_if (fun h => ?_) (fun h => ?_) | (refine ret_s [] ?_; simp (decide := true) (disch := omega) only [go_sem, ↓reduceIte, ↓put_at]))))
  | true =>
    simp only [if_true]
    refine spec_of Try.func36 rfl Try.ntmps36 Try.results36 ⟨by decide, by simp⟩ fun C hC => ?_
    (repeat' ((first | refine aw_seq ?_ | refine aw_block ?_ | refine aw_reg hC (by kernel_rfl) ?_ | refine aw_regd hC Try.checked.mixed (by kernel_rfl) ?_ | refine chk_and (by kernel_rfl) ?_ | refine aw_skip ?_ | refine aw_if ?_ | refine And.intro (by first | omega | with_reducible assumption) ?_ | refine aw_exit ?_ | refine aw_ret ?_ | (simp (decide := true) (disch := omega) only [go_sem, ↓reduceIte, ↓put_at]) | refine call_u Try.call91 (c1) [] (by simp (decide := true) (disch := omega) only [go_sem, ↓reduceIte, ↓put_at]; first | done | assumption | omega) ?_ | refine call_u Try.call91 (c2) [] (by simp (decide := true) (disch := omega) only [go_sem, ↓reduceIte, ↓put_at]; first | done | assumption | omega) ?_ | refine call_u Try.call92 (c3) [] (by simp (decide := true) (disch := omega) only [go_sem, ↓reduceIte, ↓put_at]; first | done | assumption | omega) ?_ | refine call_u Try.call92 (c4) [] (by simp (decide := true) (disch := omega) only [go_sem, ↓reduceIte, ↓put_at]; first | done | assumption | omega) ?_ | refine call_u Try.call93 (c5) [] (by simp (decide := true) (disch := omega) only [go_sem, ↓reduceIte, ↓put_at]; first | done | assumption | omega) ?_ | refine condK_eq (fun h => ?_) (fun h => ?_) | refine condK_dec (fun h => ?_) (fun h => ?_) | refine condK_if (fun h => ?_) (fun h => ?_) | (refine ret_s [] ?_; simp (decide := true) (disch := omega) only [go_sem, ↓reduceIte, ↓put_at]))))
set_option maxRecDepth 100000 in
theorem g_jval (j : J15) : Spec Try.prog 37 [.ca (.val (.agg (jL j)))] [] (.ca (.val (vi (jVal j)))) [] := by
  have c3 := g_clip j.sc 0 17592186044416
  have b5 := clipZ_ge j.sc 0 17592186044416
  have b6 := clipZ_le j.sc 0 17592186044416 (by decide)
  unfold jVal
  generalize clipZ j.sc 0 17592186044416 = S at *
  obtain ⟨sc, tr, has⟩ := j
  (try dsimp only at *)
  refine spec_of Try.func37 rfl Try.ntmps37 Try.results37 ⟨by decide, by simp⟩ fun C hC => ?_
  (repeat' ((first | refine aw_seq ?_ | refine aw_block ?_ | refine aw_reg hC (by kernel_rfl) ?_ | refine aw_regd hC Try.checked.mixed (by kernel_rfl) ?_ | refine chk_and (by kernel_rfl) ?_ | refine aw_skip ?_ | refine aw_if ?_ | refine And.intro (by first | omega | with_reducible assumption) ?_ | refine aw_exit ?_ | refine aw_ret ?_ | (simp (decide := true) (disch := omega) only [go_sem, ↓reduceIte, ↓put_at]) | refine call_u Try.call92 (c3) [] (by simp (decide := true) (disch := omega) only [go_sem, ↓reduceIte, ↓put_at]; first | done | assumption | omega) ?_ | refine condK_eq (fun h => ?_) (fun h => ?_) | refine condK_dec (fun h => ?_) (fun h => ?_) | refine condK_if (fun h => ?_) (fun h => ?_) | (refine ret_s [] ?_; simp (decide := true) (disch := omega) only [go_sem, ↓reduceIte, ↓put_at]))))
abbrev tL (t : Tr15) : List V := [vi t.smooth, vi t.spread, vb t.has]
set_option maxRecDepth 100000 in
set_option maxHeartbeats 2000000 in
theorem g_tnext (t : Tr15) (n : Int) : Spec Try.prog 38 [.ca (.val (.agg (tL t))), .ca (.val (vi n))] [] (.ca (.val (.agg (tL (trNext t n))))) [] := by
  have c1 := g_clip n 0 1048576
  have c2 := g_clip t.smooth 0 16777216
  have c3 := g_clip t.spread 0 16777216
  have b1 := clipZ_ge n 0 1048576
  have b2 := clipZ_le n 0 1048576 (by decide)
  have b3 := clipZ_ge t.smooth 0 16777216
  have b4 := clipZ_le t.smooth 0 16777216 (by decide)
  have b5 := clipZ_ge t.spread 0 16777216
  have b6 := clipZ_le t.spread 0 16777216 (by decide)
  unfold trNext
  (try dsimp only)
  generalize clipZ n 0 1048576 = s at *
  generalize clipZ t.smooth 0 16777216 = S at *
  generalize clipZ t.spread 0 16777216 = R at *
  obtain ⟨sm, sp, has⟩ := t
  (try dsimp only at *)
  cases has with
  | false =>
    simp only [Bool.false_eq_true, if_false]
    refine spec_of Try.func38 rfl Try.ntmps38 Try.results38 ⟨by decide, by simp⟩ fun C hC => ?_
    (repeat' ((first | refine aw_seq ?_ | refine aw_block ?_ | refine aw_reg hC (by kernel_rfl) ?_ | refine aw_regd hC Try.checked.mixed (by kernel_rfl) ?_ | refine chk_and (by kernel_rfl) ?_ | refine aw_skip ?_ | refine aw_if ?_ | refine And.intro (by first | omega | with_reducible assumption) ?_ | refine aw_exit ?_ | refine aw_ret ?_ | (simp (decide := true) (disch := omega) only [go_sem, ↓reduceIte, ↓put_at]) | refine call_u Try.call92 (c1) [] (by simp (decide := true) (disch := omega) only [go_sem, ↓reduceIte, ↓put_at]; first | done | assumption | omega) ?_ | refine condK_eq (fun h => ?_) (fun h => ?_) | refine condK_dec (fun h => ?_) (fun h => ?_) | refine condK_if (fun h => ?_) (fun h => ?_) | (refine ret_s [] ?_; simp (decide := true) (disch := omega) only [go_sem, ↓reduceIte, ↓put_at]))))
  | true =>
    have c4 := g_far (s - S / 8) 0 (by omega) (by omega)
    have b9 : 0 ≤ farZ (s - S / 8) 0 := by unfold farZ; omega
    have b10 : farZ (s - S / 8) 0 ≤ 17592186044416 := by unfold farZ; omega
    generalize hD : farZ (s - S / 8) 0 = D at *
    simp only [if_true]
    refine spec_of Try.func38 rfl Try.ntmps38 Try.results38 ⟨by decide, by simp⟩ fun C hC => ?_
    (repeat' ((first | refine aw_seq ?_ | refine aw_block ?_ | refine aw_reg hC (by kernel_rfl) ?_ | refine aw_regd hC Try.checked.mixed (by kernel_rfl) ?_ | refine chk_and (by kernel_rfl) ?_ | refine aw_skip ?_ | refine aw_if ?_ | refine And.intro (by first | omega | with_reducible assumption) ?_ | refine aw_exit ?_ | refine aw_ret ?_ | (simp (decide := true) (disch := omega) only [go_sem, ↓reduceIte, ↓put_at]) | refine call_u Try.call92 (c1) [] (by simp (decide := true) (disch := omega) only [go_sem, ↓reduceIte, ↓put_at]; first | done | assumption | omega) ?_ | refine call_u Try.call92 (c2) [] (by simp (decide := true) (disch := omega) only [go_sem, ↓reduceIte, ↓put_at]; first | done | assumption | omega) ?_ | refine call_u Try.call92 (c3) [] (by simp (decide := true) (disch := omega) only [go_sem, ↓reduceIte, ↓put_at]; first | done | assumption | omega) ?_ | refine call_u Try.call93 (c4) [] (by simp (decide := true) (disch := omega) only [go_sem, ↓reduceIte, ↓put_at]; first | done | assumption | omega) ?_ | refine condK_eq (fun h => ?_) (fun h => ?_) | refine condK_dec (fun h => ?_) (fun h => ?_) | refine condK_if (fun h => ?_) (fun h => ?_) | (refine ret_s [] ?_; simp (decide := true) (disch := omega) only [go_sem, ↓reduceIte, ↓put_at]))))
set_option maxRecDepth 100000 in
set_option maxHeartbeats 2000000 in
theorem g_tout (t : Tr15) : Spec Try.prog 39 [.ca (.val (.agg (tL t)))] [] (.ca (.val (vi (trOut t)))) [] := by
  have c2 := g_clip t.smooth 0 16777216
  have c3 := g_clip t.spread 0 16777216
  have b3 := clipZ_ge t.smooth 0 16777216
  have b4 := clipZ_le t.smooth 0 16777216 (by decide)
  have b5 := clipZ_ge t.spread 0 16777216
  have b6 := clipZ_le t.spread 0 16777216 (by decide)
  unfold trOut
  (try dsimp only)
  generalize clipZ t.smooth 0 16777216 = S at *
  generalize clipZ t.spread 0 16777216 = R at *
  obtain ⟨sm, sp, has⟩ := t
  (try dsimp only at *)
  cases has with
  | false =>
    simp only [Bool.false_eq_true, if_false]
    refine spec_of Try.func39 rfl Try.ntmps39 Try.results39 ⟨by decide, by simp⟩ fun C hC => ?_
    (repeat' ((first | refine aw_seq ?_ | refine aw_block ?_ | refine aw_reg hC (by kernel_rfl) ?_ | refine aw_regd hC Try.checked.mixed (by kernel_rfl) ?_ | refine chk_and (by kernel_rfl) ?_ | refine aw_skip ?_ | refine aw_if ?_ | refine And.intro (by first | omega | with_reducible assumption) ?_ | refine aw_exit ?_ | refine aw_ret ?_ | (simp (decide := true) (disch := omega) only [go_sem, ↓reduceIte, ↓put_at]) | refine condK_eq (fun h => ?_) (fun h => ?_) | refine condK_dec (fun h => ?_) (fun h => ?_) | refine condK_if (fun h => ?_) (fun h => ?_) | (refine ret_s [] ?_; simp (decide := true) (disch := omega) only [go_sem, ↓reduceIte, ↓put_at]))))
  | true =>
    simp only [if_true]
    refine spec_of Try.func39 rfl Try.ntmps39 Try.results39 ⟨by decide, by simp⟩ fun C hC => ?_
    (repeat' ((first | refine aw_seq ?_ | refine aw_block ?_ | refine aw_reg hC (by kernel_rfl) ?_ | refine aw_regd hC Try.checked.mixed (by kernel_rfl) ?_ | refine chk_and (by kernel_rfl) ?_ | refine aw_skip ?_ | refine aw_if ?_ | refine And.intro (by first | omega | with_reducible assumption) ?_ | refine aw_exit ?_ | refine aw_ret ?_ | (simp (decide := true) (disch := omega) only [go_sem, ↓reduceIte, ↓put_at]) | refine call_u Try.call92 (c2) [] (by simp (decide := true) (disch := omega) only [go_sem, ↓reduceIte, ↓put_at]; first | done | assumption | omega) ?_ | refine call_u Try.call92 (c3) [] (by simp (decide := true) (disch := omega) only [go_sem, ↓reduceIte, ↓put_at]; first | done | assumption | omega) ?_ | refine condK_eq (fun h => ?_) (fun h => ?_) | refine condK_dec (fun h => ?_) (fun h => ?_) | refine condK_if (fun h => ?_) (fun h => ?_) | (refine ret_s [] ?_; simp (decide := true) (disch := omega) only [go_sem, ↓reduceIte, ↓put_at]))))
abbrev rL15 (r : R15) : List V := [vi r.sc, vi r.since, vi r.bytes]
set_option maxRecDepth 100000 in
set_option maxHeartbeats 2000000 in
theorem g_round (r : R15) (h1 : 0 ≤ r.sc ∧ r.sc ≤ 35184372088832) (h2 : 0 ≤ r.since ∧ r.since ≤ 1099511700000) (h3 : 0 ≤ r.bytes ∧ r.bytes ≤ 17593259786240) : Spec Try.prog 94 [.ca (.val (.agg (rL15 r)))] [] (.ca (.val (.agg (rL15 (rdNext r))))) [] := by
  unfold rdNext
  obtain ⟨sc, si, by'⟩ := r
  (try dsimp only at *)
  obtain ⟨a1, a2⟩ := h1
  obtain ⟨b1, b2⟩ := h2
  obtain ⟨d1, d2⟩ := h3
  refine spec_of Try.func94 rfl Try.ntmps94 Try.results94 ⟨by decide, by simp⟩ fun C hC => ?_
  (repeat' ((first | refine aw_seq ?_ | refine aw_block ?_ | refine aw_reg hC (by kernel_rfl) ?_ | refine aw_regd hC Try.checked.mixed (by kernel_rfl) ?_ | refine chk_and (by kernel_rfl) ?_ | refine aw_skip ?_ | refine aw_if ?_ | refine And.intro (by first | omega | with_reducible assumption) ?_ | refine aw_exit ?_ | refine aw_ret ?_ | (simp (decide := true) (disch := omega) only [go_sem, ↓reduceIte, ↓put_at]) | refine condK_eq (fun h => ?_) (fun h => ?_) | refine condK_dec (fun h => ?_) (fun h => ?_) | refine condK_if (fun h => ?_) (fun h => ?_) | (refine ret_s [] ?_; simp (decide := true) (disch := omega) only [go_sem, ↓reduceIte, ↓put_at]))))
set_option maxRecDepth 100000 in
theorem g_rval (j : R15) : Spec Try.prog 42 [.ca (.val (.agg (rL15 j)))] [] (.ca (.val (vi (rVal j)))) [] := by
  have c3 := g_clip j.sc 0 17592186044416
  have b5 := clipZ_ge j.sc 0 17592186044416
  have b6 := clipZ_le j.sc 0 17592186044416 (by decide)
  unfold rVal
  generalize clipZ j.sc 0 17592186044416 = S at *
  obtain ⟨sc, tr, has⟩ := j
  (try dsimp only at *)
  refine spec_of Try.func42 rfl Try.ntmps42 Try.results42 ⟨by decide, by simp⟩ fun C hC => ?_
  (repeat' ((first | refine aw_seq ?_ | refine aw_block ?_ | refine aw_reg hC (by kernel_rfl) ?_ | refine aw_regd hC Try.checked.mixed (by kernel_rfl) ?_ | refine chk_and (by kernel_rfl) ?_ | refine aw_skip ?_ | refine aw_if ?_ | refine And.intro (by first | omega | with_reducible assumption) ?_ | refine aw_exit ?_ | refine aw_ret ?_ | (simp (decide := true) (disch := omega) only [go_sem, ↓reduceIte, ↓put_at]) | refine call_u Try.call92 (c3) [] (by simp (decide := true) (disch := omega) only [go_sem, ↓reduceIte, ↓put_at]; first | done | assumption | omega) ?_ | refine condK_eq (fun h => ?_) (fun h => ?_) | refine condK_dec (fun h => ?_) (fun h => ?_) | refine condK_if (fun h => ?_) (fun h => ?_) | (refine ret_s [] ?_; simp (decide := true) (disch := omega) only [go_sem, ↓reduceIte, ↓put_at]))))
end Go.Proofs.Ytdgkehoodlncmaa
