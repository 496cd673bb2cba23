
/- MediaTracks, walked. -/
import Derived.Test.YtojcjbaimdjhoaaDoorMedia3
namespace Go.Proofs.YtojcjbaimdjhoaaDoor
open Go.RowKit
set_option linter.unusedVariables false
set_option linter.unusedSimpArgs false

set_option maxRecDepth 100000 in
theorem media_on (p q path n : Int) : Spec Tryd.prog 28 [.ca (.val (.agg [vi p, vh q])), .ca (.val (vi path)), .ca (.val (vh n))] [] (.ca (.val (.agg [vi path, vh n]))) [] := by
  refine spec_of Tryd.func28 rfl Tryd.ntmps28 Tryd.results28 ⟨by decide, by simp⟩ fun C hC => ?_
  (repeat (first | refine aw_seq ?_ | refine aw_block ?_ | refine aw_reg hC (by kernel_rfl) ?_ | refine aw_regd hC Tryd.checked.mixed (by kernel_rfl) ?_ | refine chk_and (by kernel_rfl) ?_ | refine aw_skip ?_ | refine aw_if ?_ | refine And.intro (by first | omega | with_reducible assumption) ?_ | refine aw_exit ?_ | refine aw_ret ?_ | (simp (decide := true) (disch := omega) only [go_sem, ↓reduceIte, ↓put_at])))
  (refine ret_s [] ?_; simp (decide := true) (disch := omega) only [go_sem, ↓reduceIte, ↓put_at])
theorem zer_els' (k : Nat) : (zer k).map byteEl = List.replicate k [V.sc (.int .u8 0)] := by
  unfold zer
  rw [List.map_replicate]
  rfl
set_option maxRecDepth 100000 in
set_option maxHeartbeats 4000000 in
theorem q_tracks6 (x : M6) (path n : Int) (ox : x.Ok) (lx : x.data.length ≤ maxLen) (hn : 0 ≤ n ∧ n < 65536) : Spec Tryd.prog 7 [.ca (.val (.agg (m6L x))), .ca (.val (vi path)), .ca (.val (vh n))] [] (.ca (.val (vb true))) [] := by
  have c1 := law_cut6 x lx
  generalize cut6 x = m at *
  have c2 := media_on m.path m.pseq path n
  obtain ⟨Z, hZ⟩ : ∃ Z, Z = zer 1472 := ⟨_, rfl⟩
  have hZl : Z.length = 1472 := by rw [hZ, zer_len]
  obtain ⟨Y, hY⟩ : ∃ Y, Y = zer 1501 := ⟨_, rfl⟩
  have hYl : Y.length = 1501 := by rw [hY, zer_len]
  have m1 : may6 ⟨0, 0, 0, 1, 0, 0, 1, Z⟩ = true := by unfold may6; dsimp only; rw [hZl]; simp
  have m2 : may6 ⟨0, 0, 0, 1, 0, 0, 1, Z ++ [120]⟩ = false := by unfold may6; dsimp only; rw [List.length_append, hZl]; simp
  have o1 : ∀ D, M6.Ok ⟨0, 0, 0, 1, 0, 0, 1, D⟩ := fun D => ⟨by simp, by simp, by simp, by simp⟩
  have c3 := media_check ⟨0, 0, 0, 1, 0, 0, 1, Z⟩ (by dsimp only; rw [hZl]; decide)
  rw [m1, if_pos rfl] at c3
  have c4 := media_pack ⟨0, 0, 0, 1, 0, 0, 1, Z⟩ (o1 _) (by dsimp only; rw [hZl]; decide)
  have c4l := pack6_len ⟨0, 0, 0, 1, 0, 0, 1, Z⟩ m1
  dsimp only at c4l
  rw [hZl] at c4l
  have c5 := media_check ⟨0, 0, 0, 1, 0, 0, 1, Z ++ [120]⟩ (by dsimp only; rw [List.length_append, hZl]; decide)
  rw [m2, if_neg (by decide)] at c5
  have c6 := media_pack ⟨0, 0, 0, 1, 0, 0, 1, Z ++ [120]⟩ (o1 _) (by dsimp only; rw [List.length_append, hZl]; decide)
  rw [(pack6_nil _).2 m2] at c6
  have c7 := media_parse Y (by rw [hYl]; decide)
  have hp : parse6 Y = (no6, 3) := by unfold parse6; rw [if_pos (by rw [hYl]; decide)]
  rw [hp] at c7
  generalize pack6 ⟨0, 0, 0, 1, 0, 0, 1, Z⟩ = S at *
  obtain ⟨sr, sq, tm, pa, ps, ix, ct, da⟩ := x
  obtain ⟨sr3, sq3, tm3, pa3, ps3, ix3, ct3, da3⟩ := m
  dsimp only at *
  refine spec_of Tryd.func7 rfl Tryd.ntmps7 Tryd.results7 ⟨by decide, by simp⟩ fun C hC => ?_
  (repeat (first | refine aw_seq ?_ | refine aw_block ?_ | refine aw_reg hC (by kernel_rfl) ?_ | refine aw_regd hC Tryd.checked.mixed (by kernel_rfl) ?_ | refine chk_and (by kernel_rfl) ?_ | refine aw_skip ?_ | refine aw_if ?_ | refine And.intro (by first | omega | with_reducible assumption) ?_ | refine aw_exit ?_ | refine aw_ret ?_ | (simp (decide := true) (disch := omega) only [go_sem, ↓reduceIte, ↓put_at])))
  (first | refine call_s Tryd.call23 (law_awake6) [] ?_ | refine gcall_s Tryd.call23 (law_awake6) [] ?_)
  (repeat (first | refine aw_seq ?_ | refine aw_block ?_ | refine aw_reg hC (by kernel_rfl) ?_ | refine aw_regd hC Tryd.checked.mixed (by kernel_rfl) ?_ | refine chk_and (by kernel_rfl) ?_ | refine aw_skip ?_ | refine aw_if ?_ | refine And.intro (by first | omega | with_reducible assumption) ?_ | refine aw_exit ?_ | refine aw_ret ?_ | (simp (decide := true) (disch := omega) only [go_sem, ↓reduceIte, ↓put_at])))
  (first | refine call_s Tryd.call24 (c1) [] ?_ | refine gcall_s Tryd.call24 (c1) [] ?_)
  (repeat (first | refine aw_seq ?_ | refine aw_block ?_ | refine aw_reg hC (by kernel_rfl) ?_ | refine aw_regd hC Tryd.checked.mixed (by kernel_rfl) ?_ | refine chk_and (by kernel_rfl) ?_ | refine aw_skip ?_ | refine aw_if ?_ | refine And.intro (by first | omega | with_reducible assumption) ?_ | refine aw_exit ?_ | refine aw_ret ?_ | (simp (decide := true) (disch := omega) only [go_sem, ↓reduceIte, ↓put_at])))
  (first | refine call_s Tryd.call28 (c2) [] ?_ | refine gcall_s Tryd.call28 (c2) [] ?_)
  (repeat (first | refine aw_seq ?_ | refine aw_block ?_ | refine aw_reg hC (by kernel_rfl) ?_ | refine aw_regd hC Tryd.checked.mixed (by kernel_rfl) ?_ | refine chk_and (by kernel_rfl) ?_ | refine aw_skip ?_ | refine aw_if ?_ | refine And.intro (by first | omega | with_reducible assumption) ?_ | refine aw_exit ?_ | refine aw_ret ?_ | (simp (decide := true) (disch := omega) only [go_sem, ↓reduceIte, ↓put_at])))
  refine cmpA_s _ _ _ (.inr rfl) (by simp (decide := true) (disch := omega) only [go_sem, ↓reduceIte, ↓put_at]) (by simp (decide := true) (disch := omega) only [go_sem, ↓reduceIte, ↓put_at]) (by kernel_rfl) (ne6_ sr3 sr3 sq3 sq3 tm3 tm3 pa3 pa3 ps3 ps3 ix3 ix3 ct3 ct3 da3 da3) ?_
  simp only [and_self, decide_true, Bool.not_true]
  (repeat (first | refine aw_seq ?_ | refine aw_block ?_ | refine aw_reg hC (by kernel_rfl) ?_ | refine aw_regd hC Tryd.checked.mixed (by kernel_rfl) ?_ | refine chk_and (by kernel_rfl) ?_ | refine aw_skip ?_ | refine aw_if ?_ | refine And.intro (by first | omega | with_reducible assumption) ?_ | refine aw_exit ?_ | refine aw_ret ?_ | (simp (decide := true) (disch := omega) only [go_sem, ↓reduceIte, ↓put_at])))
  refine mkS_s 1472 (.int .u8 0) (by simp (decide := true) (disch := omega) only [go_sem, ↓reduceIte, ↓put_at]) (by simp (decide := true) (disch := omega) only [go_sem, ↓reduceIte, ↓put_at]) (by omega) Tryd.underlying77 (by kernel_rfl) (by kernel_rfl) rfl ?_
  (repeat (first | refine aw_seq ?_ | refine aw_block ?_ | refine aw_reg hC (by kernel_rfl) ?_ | refine aw_regd hC Tryd.checked.mixed (by kernel_rfl) ?_ | refine chk_and (by kernel_rfl) ?_ | refine aw_skip ?_ | refine aw_if ?_ | refine And.intro (by first | omega | with_reducible assumption) ?_ | refine aw_exit ?_ | refine aw_ret ?_ | (simp (decide := true) (disch := omega) only [go_sem, ↓reduceIte, ↓put_at])))
  refine convBS_s (zer 1472) (by rw [zer_els']; simp (decide := true) (disch := omega) only [go_sem, ↓reduceIte, ↓put_at]) (by simp (decide := true) (disch := omega) only [go_sem, ↓reduceIte, ↓put_at]) (by simp (decide := true) (disch := omega) only [go_sem, ↓reduceIte, ↓put_at]) ?_
  rw [← hZ]
  (repeat (first | refine aw_seq ?_ | refine aw_block ?_ | refine aw_reg hC (by kernel_rfl) ?_ | refine aw_regd hC Tryd.checked.mixed (by kernel_rfl) ?_ | refine chk_and (by kernel_rfl) ?_ | refine aw_skip ?_ | refine aw_if ?_ | refine And.intro (by first | omega | with_reducible assumption) ?_ | refine aw_exit ?_ | refine aw_ret ?_ | (simp (decide := true) (disch := omega) only [go_sem, ↓reduceIte, ↓put_at])))
  refine mkS_s 1501 (.int .u8 0) (by simp (decide := true) (disch := omega) only [go_sem, ↓reduceIte, ↓put_at]) (by simp (decide := true) (disch := omega) only [go_sem, ↓reduceIte, ↓put_at]) (by omega) Tryd.underlying77 (by kernel_rfl) (by kernel_rfl) rfl ?_
  (repeat (first | refine aw_seq ?_ | refine aw_block ?_ | refine aw_reg hC (by kernel_rfl) ?_ | refine aw_regd hC Tryd.checked.mixed (by kernel_rfl) ?_ | refine chk_and (by kernel_rfl) ?_ | refine aw_skip ?_ | refine aw_if ?_ | refine And.intro (by first | omega | with_reducible assumption) ?_ | refine aw_exit ?_ | refine aw_ret ?_ | (simp (decide := true) (disch := omega) only [go_sem, ↓reduceIte, ↓put_at])))
  refine convBS_s (zer 1501) (by rw [zer_els']; simp (decide := true) (disch := omega) only [go_sem, ↓reduceIte, ↓put_at]) (by simp (decide := true) (disch := omega) only [go_sem, ↓reduceIte, ↓put_at]) (by simp (decide := true) (disch := omega) only [go_sem, ↓reduceIte, ↓put_at]) ?_
  rw [← hY]
  (repeat (first | refine aw_seq ?_ | refine aw_block ?_ | refine aw_reg hC (by kernel_rfl) ?_ | refine aw_regd hC Tryd.checked.mixed (by kernel_rfl) ?_ | refine chk_and (by kernel_rfl) ?_ | refine aw_skip ?_ | refine aw_if ?_ | refine And.intro (by first | omega | with_reducible assumption) ?_ | refine aw_exit ?_ | refine aw_ret ?_ | (simp (decide := true) (disch := omega) only [go_sem, ↓reduceIte, ↓put_at])))
  (first | refine call_s Tryd.call29 (c7) [] ?_ | refine gcall_s Tryd.call29 (c7) [] ?_)
  (repeat (first | refine aw_seq ?_ | refine aw_block ?_ | refine aw_reg hC (by kernel_rfl) ?_ | refine aw_regd hC Tryd.checked.mixed (by kernel_rfl) ?_ | refine chk_and (by kernel_rfl) ?_ | refine aw_skip ?_ | refine aw_if ?_ | refine And.intro (by first | omega | with_reducible assumption) ?_ | refine aw_exit ?_ | refine aw_ret ?_ | (simp (decide := true) (disch := omega) only [go_sem, ↓reduceIte, ↓put_at])))
  (first | refine call_s Tryd.call30 (c3) [] ?_ | refine gcall_s Tryd.call30 (c3) [] ?_)
  (repeat (first | refine aw_seq ?_ | refine aw_block ?_ | refine aw_reg hC (by kernel_rfl) ?_ | refine aw_regd hC Tryd.checked.mixed (by kernel_rfl) ?_ | refine chk_and (by kernel_rfl) ?_ | refine aw_skip ?_ | refine aw_if ?_ | refine And.intro (by first | omega | with_reducible assumption) ?_ | refine aw_exit ?_ | refine aw_ret ?_ | (simp (decide := true) (disch := omega) only [go_sem, ↓reduceIte, ↓put_at])))
  (first | refine call_s Tryd.call25 (c4) [] ?_ | refine gcall_s Tryd.call25 (c4) [] ?_)
  (repeat (first | refine aw_seq ?_ | refine aw_block ?_ | refine aw_reg hC (by kernel_rfl) ?_ | refine aw_regd hC Tryd.checked.mixed (by kernel_rfl) ?_ | refine chk_and (by kernel_rfl) ?_ | refine aw_skip ?_ | refine aw_if ?_ | refine And.intro (by first | omega | with_reducible assumption) ?_ | refine aw_exit ?_ | refine aw_ret ?_ | (simp (decide := true) (disch := omega) only [go_sem, ↓reduceIte, ↓put_at])))
  (first | refine call_s Tryd.call30 (c5) [] ?_ | refine gcall_s Tryd.call30 (c5) [] ?_)
  (repeat (first | refine aw_seq ?_ | refine aw_block ?_ | refine aw_reg hC (by kernel_rfl) ?_ | refine aw_regd hC Tryd.checked.mixed (by kernel_rfl) ?_ | refine chk_and (by kernel_rfl) ?_ | refine aw_skip ?_ | refine aw_if ?_ | refine And.intro (by first | omega | with_reducible assumption) ?_ | refine aw_exit ?_ | refine aw_ret ?_ | (simp (decide := true) (disch := omega) only [go_sem, ↓reduceIte, ↓put_at])))
  (first | refine call_s Tryd.call25 (c6) [] ?_ | refine gcall_s Tryd.call25 (c6) [] ?_)
  (repeat (first | refine aw_seq ?_ | refine aw_block ?_ | refine aw_reg hC (by kernel_rfl) ?_ | refine aw_regd hC Tryd.checked.mixed (by kernel_rfl) ?_ | refine chk_and (by kernel_rfl) ?_ | refine aw_skip ?_ | refine aw_if ?_ | refine And.intro (by first | omega | with_reducible assumption) ?_ | refine aw_exit ?_ | refine aw_ret ?_ | (simp (decide := true) (disch := omega) only [go_sem, ↓reduceIte, ↓put_at])))
  (refine ret_s [] ?_; simp (decide := true) (disch := omega) only [go_sem, ↓reduceIte, ↓put_at])
end Go.Proofs.YtojcjbaimdjhoaaDoor
