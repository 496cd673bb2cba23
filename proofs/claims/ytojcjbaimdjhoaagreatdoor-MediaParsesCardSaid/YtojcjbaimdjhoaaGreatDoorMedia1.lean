
/- Package media. -/
import Derived.Test.YtojcjbaimdjhoaaGreatDoorMediaM
import Derived.Test.YtojcjbaimdjhoaaGreatDoorExts6
namespace Go.Proofs.YtojcjbaimdjhoaaGreatDoor
open Go.RowKit
set_option linter.unusedVariables false
set_option linter.unusedSimpArgs false

abbrev m6L (m : M6) : List V := [vu m.src, vh m.seq, vu m.time, vi m.path, vh m.pseq, vi m.idx, vi m.cnt, vs m.data]
set_option maxRecDepth 100000 in
theorem media_may (p q : Int) : Spec Tryz.prog 30 [.ca (.val (.agg [vi p, vh q]))] [] (.ca (.val (vb (decide (1 ≤ p ∧ p ≤ 15))))) [] := by
  by_cases h1 : 1 ≤ p
  · by_cases h2 : p ≤ 15
    · rw [decide_eq_true ⟨h1, h2⟩]
      refine spec_of Tryz.func30 rfl Tryz.ntmps30 Tryz.results30 ⟨by decide, by simp⟩ fun C hC => ?_
      (repeat (first | refine aw_seq ?_ | refine aw_block ?_ | refine aw_reg hC (by kernel_rfl) ?_ | refine aw_regd hC Tryz.checked.mixed (by kernel_rfl) ?_ | refine chk_and (by kernel_rfl) ?_ | refine aw_skip ?_ | refine aw_if ?_ | refine And.intro (by first | omega | with_reducible assumption) ?_ | refine aw_exit ?_ | refine aw_ret ?_ | (simp (decide := true) (disch := omega) only [go_sem, ↓reduceIte, ↓put_at])))
      (refine ret_s [] ?_; simp (decide := true) (disch := omega) only [go_sem, ↓reduceIte, ↓put_at])
    · rw [decide_eq_false (fun h => h2 h.2)]
      refine spec_of Tryz.func30 rfl Tryz.ntmps30 Tryz.results30 ⟨by decide, by simp⟩ fun C hC => ?_
      (repeat (first | refine aw_seq ?_ | refine aw_block ?_ | refine aw_reg hC (by kernel_rfl) ?_ | refine aw_regd hC Tryz.checked.mixed (by kernel_rfl) ?_ | refine chk_and (by kernel_rfl) ?_ | refine aw_skip ?_ | refine aw_if ?_ | refine And.intro (by first | omega | with_reducible assumption) ?_ | refine aw_exit ?_ | refine aw_ret ?_ | (simp (decide := true) (disch := omega) only [go_sem, ↓reduceIte, ↓put_at])))
      (refine ret_s [] ?_; simp (decide := true) (disch := omega) only [go_sem, ↓reduceIte, ↓put_at])
  · rw [decide_eq_false (fun h => h1 h.1)]
    refine spec_of Tryz.func30 rfl Tryz.ntmps30 Tryz.results30 ⟨by decide, by simp⟩ fun C hC => ?_
    (repeat (first | refine aw_seq ?_ | refine aw_block ?_ | refine aw_reg hC (by kernel_rfl) ?_ | refine aw_regd hC Tryz.checked.mixed (by kernel_rfl) ?_ | refine chk_and (by kernel_rfl) ?_ | refine aw_skip ?_ | refine aw_if ?_ | refine And.intro (by first | omega | with_reducible assumption) ?_ | refine aw_exit ?_ | refine aw_ret ?_ | (simp (decide := true) (disch := omega) only [go_sem, ↓reduceIte, ↓put_at])))
    (refine ret_s [] ?_; simp (decide := true) (disch := omega) only [go_sem, ↓reduceIte, ↓put_at])
set_option maxRecDepth 100000 in
theorem media_fits (i c : Int) : Spec Tryz.prog 31 [.ca (.val (.agg [vi i, vi c]))] [] (.ca (.val (vb (decide ((1 ≤ c ∧ c ≤ 255) ∧ 0 ≤ i ∧ i < c))))) [] := by
  by_cases h1 : 1 ≤ c
  · by_cases h2 : c ≤ 255
    · by_cases h3 : 0 ≤ i
      · by_cases h4 : i < c
        · rw [decide_eq_true ⟨⟨h1, h2⟩, h3, h4⟩]
          refine spec_of Tryz.func31 rfl Tryz.ntmps31 Tryz.results31 ⟨by decide, by simp⟩ fun C hC => ?_
          (repeat (first | refine aw_seq ?_ | refine aw_block ?_ | refine aw_reg hC (by kernel_rfl) ?_ | refine aw_regd hC Tryz.checked.mixed (by kernel_rfl) ?_ | refine chk_and (by kernel_rfl) ?_ | refine aw_skip ?_ | refine aw_if ?_ | refine And.intro (by first | omega | with_reducible assumption) ?_ | refine aw_exit ?_ | refine aw_ret ?_ | (simp (decide := true) (disch := omega) only [go_sem, ↓reduceIte, ↓put_at])))
          (refine ret_s [] ?_; simp (decide := true) (disch := omega) only [go_sem, ↓reduceIte, ↓put_at])
        · rw [decide_eq_false (fun h => h4 h.2.2)]
          refine spec_of Tryz.func31 rfl Tryz.ntmps31 Tryz.results31 ⟨by decide, by simp⟩ fun C hC => ?_
          (repeat (first | refine aw_seq ?_ | refine aw_block ?_ | refine aw_reg hC (by kernel_rfl) ?_ | refine aw_regd hC Tryz.checked.mixed (by kernel_rfl) ?_ | refine chk_and (by kernel_rfl) ?_ | refine aw_skip ?_ | refine aw_if ?_ | refine And.intro (by first | omega | with_reducible assumption) ?_ | refine aw_exit ?_ | refine aw_ret ?_ | (simp (decide := true) (disch := omega) only [go_sem, ↓reduceIte, ↓put_at])))
          (refine ret_s [] ?_; simp (decide := true) (disch := omega) only [go_sem, ↓reduceIte, ↓put_at])
      · rw [decide_eq_false (fun h => h3 h.2.1)]
        refine spec_of Tryz.func31 rfl Tryz.ntmps31 Tryz.results31 ⟨by decide, by simp⟩ fun C hC => ?_
        (repeat (first | refine aw_seq ?_ | refine aw_block ?_ | refine aw_reg hC (by kernel_rfl) ?_ | refine aw_regd hC Tryz.checked.mixed (by kernel_rfl) ?_ | refine chk_and (by kernel_rfl) ?_ | refine aw_skip ?_ | refine aw_if ?_ | refine And.intro (by first | omega | with_reducible assumption) ?_ | refine aw_exit ?_ | refine aw_ret ?_ | (simp (decide := true) (disch := omega) only [go_sem, ↓reduceIte, ↓put_at])))
        (refine ret_s [] ?_; simp (decide := true) (disch := omega) only [go_sem, ↓reduceIte, ↓put_at])
    · rw [decide_eq_false (fun h => h2 h.1.2)]
      refine spec_of Tryz.func31 rfl Tryz.ntmps31 Tryz.results31 ⟨by decide, by simp⟩ fun C hC => ?_
      (repeat (first | refine aw_seq ?_ | refine aw_block ?_ | refine aw_reg hC (by kernel_rfl) ?_ | refine aw_regd hC Tryz.checked.mixed (by kernel_rfl) ?_ | refine chk_and (by kernel_rfl) ?_ | refine aw_skip ?_ | refine aw_if ?_ | refine And.intro (by first | omega | with_reducible assumption) ?_ | refine aw_exit ?_ | refine aw_ret ?_ | (simp (decide := true) (disch := omega) only [go_sem, ↓reduceIte, ↓put_at])))
      (refine ret_s [] ?_; simp (decide := true) (disch := omega) only [go_sem, ↓reduceIte, ↓put_at])
  · rw [decide_eq_false (fun h => h1 h.1.1)]
    refine spec_of Tryz.func31 rfl Tryz.ntmps31 Tryz.results31 ⟨by decide, by simp⟩ fun C hC => ?_
    (repeat (first | refine aw_seq ?_ | refine aw_block ?_ | refine aw_reg hC (by kernel_rfl) ?_ | refine aw_regd hC Tryz.checked.mixed (by kernel_rfl) ?_ | refine chk_and (by kernel_rfl) ?_ | refine aw_skip ?_ | refine aw_if ?_ | refine And.intro (by first | omega | with_reducible assumption) ?_ | refine aw_exit ?_ | refine aw_ret ?_ | (simp (decide := true) (disch := omega) only [go_sem, ↓reduceIte, ↓put_at])))
    (refine ret_s [] ?_; simp (decide := true) (disch := omega) only [go_sem, ↓reduceIte, ↓put_at])
set_option maxRecDepth 100000 in
theorem media_last (i c : Int) (h1 : -9223372036854775807 ≤ c) (h2 : c ≤ 9223372036854775807) : Spec Tryz.prog 11 [.ca (.val (.agg [vi i, vi c]))] [] (.ca (.val (vb (decide (i = c - 1))))) [] := by
  by_cases h : i = c - 1
  · rw [decide_eq_true h]
    refine spec_of Tryz.func11 rfl Tryz.ntmps11 Tryz.results11 ⟨by decide, by simp⟩ fun C hC => ?_
    (repeat (first | refine aw_seq ?_ | refine aw_block ?_ | refine aw_reg hC (by kernel_rfl) ?_ | refine aw_regd hC Tryz.checked.mixed (by kernel_rfl) ?_ | refine chk_and (by kernel_rfl) ?_ | refine aw_skip ?_ | refine aw_if ?_ | refine And.intro (by first | omega | with_reducible assumption) ?_ | refine aw_exit ?_ | refine aw_ret ?_ | (simp (decide := true) (disch := omega) only [go_sem, ↓reduceIte, ↓put_at])))
    (refine ret_s [] ?_; simp (decide := true) (disch := omega) only [go_sem, ↓reduceIte, ↓put_at])
  · rw [decide_eq_false h]
    refine spec_of Tryz.func11 rfl Tryz.ntmps11 Tryz.results11 ⟨by decide, by simp⟩ fun C hC => ?_
    (repeat (first | refine aw_seq ?_ | refine aw_block ?_ | refine aw_reg hC (by kernel_rfl) ?_ | refine aw_regd hC Tryz.checked.mixed (by kernel_rfl) ?_ | refine chk_and (by kernel_rfl) ?_ | refine aw_skip ?_ | refine aw_if ?_ | refine And.intro (by first | omega | with_reducible assumption) ?_ | refine aw_exit ?_ | refine aw_ret ?_ | (simp (decide := true) (disch := omega) only [go_sem, ↓reduceIte, ↓put_at])))
    (refine ret_s [] ?_; simp (decide := true) (disch := omega) only [go_sem, ↓reduceIte, ↓put_at])
set_option maxRecDepth 100000 in
theorem media_first (i c : Int) : Spec Tryz.prog 12 [.ca (.val (.agg [vi i, vi c]))] [] (.ca (.val (vb (decide (i = 0))))) [] := by
  by_cases h : i = 0
  · rw [decide_eq_true h]
    refine spec_of Tryz.func12 rfl Tryz.ntmps12 Tryz.results12 ⟨by decide, by simp⟩ fun C hC => ?_
    (repeat (first | refine aw_seq ?_ | refine aw_block ?_ | refine aw_reg hC (by kernel_rfl) ?_ | refine aw_regd hC Tryz.checked.mixed (by kernel_rfl) ?_ | refine chk_and (by kernel_rfl) ?_ | refine aw_skip ?_ | refine aw_if ?_ | refine And.intro (by first | omega | with_reducible assumption) ?_ | refine aw_exit ?_ | refine aw_ret ?_ | (simp (decide := true) (disch := omega) only [go_sem, ↓reduceIte, ↓put_at])))
    (refine ret_s [] ?_; simp (decide := true) (disch := omega) only [go_sem, ↓reduceIte, ↓put_at])
  · rw [decide_eq_false h]
    refine spec_of Tryz.func12 rfl Tryz.ntmps12 Tryz.results12 ⟨by decide, by simp⟩ fun C hC => ?_
    (repeat (first | refine aw_seq ?_ | refine aw_block ?_ | refine aw_reg hC (by kernel_rfl) ?_ | refine aw_regd hC Tryz.checked.mixed (by kernel_rfl) ?_ | refine chk_and (by kernel_rfl) ?_ | refine aw_skip ?_ | refine aw_if ?_ | refine And.intro (by first | omega | with_reducible assumption) ?_ | refine aw_exit ?_ | refine aw_ret ?_ | (simp (decide := true) (disch := omega) only [go_sem, ↓reduceIte, ↓put_at])))
    (refine ret_s [] ?_; simp (decide := true) (disch := omega) only [go_sem, ↓reduceIte, ↓put_at])
set_option maxRecDepth 100000 in
theorem media_check (m : M6) (hl : m.data.length ≤ maxLen) : Spec Tryz.prog 13 [.ca (.val (.agg (m6L m)))] [] (.ca (.val (vi (if may6 m = true then 0 else 6)))) [] := by
  obtain ⟨M, hM⟩ : ∃ M, M = may6 m := ⟨_, rfl⟩
  rw [← hM]
  unfold may6 at hM
  unfold maxLen at hl
  have c1 := media_may m.path m.pseq
  have c2 := media_fits m.idx m.cnt
  obtain ⟨sr, sq, tm, pa, ps, ix, ct, da⟩ := m
  dsimp only at *
  by_cases h1 : 1 ≤ pa ∧ pa ≤ 15
  · rw [decide_eq_true h1] at c1
    by_cases h2 : (1 ≤ ct ∧ ct ≤ 255) ∧ 0 ≤ ix ∧ ix < ct
    · rw [decide_eq_true h2] at c2
      by_cases h3 : da.length ≤ 1472
      · rw [decide_eq_true ⟨h1, h2.1, h2.2, h3⟩] at hM
        subst hM
        rw [if_pos rfl]
        refine spec_of Tryz.func13 rfl Tryz.ntmps13 Tryz.results13 ⟨by decide, by simp⟩ fun C hC => ?_
        (repeat (first | refine aw_seq ?_ | refine aw_block ?_ | refine aw_reg hC (by kernel_rfl) ?_ | refine aw_regd hC Tryz.checked.mixed (by kernel_rfl) ?_ | refine chk_and (by kernel_rfl) ?_ | refine aw_skip ?_ | refine aw_if ?_ | refine And.intro (by first | omega | with_reducible assumption) ?_ | refine aw_exit ?_ | refine aw_ret ?_ | (simp (decide := true) (disch := omega) only [go_sem, ↓reduceIte, ↓put_at])))
        refine call_s Tryz.call30 c1 [] ?_
        (repeat (first | refine aw_seq ?_ | refine aw_block ?_ | refine aw_reg hC (by kernel_rfl) ?_ | refine aw_regd hC Tryz.checked.mixed (by kernel_rfl) ?_ | refine chk_and (by kernel_rfl) ?_ | refine aw_skip ?_ | refine aw_if ?_ | refine And.intro (by first | omega | with_reducible assumption) ?_ | refine aw_exit ?_ | refine aw_ret ?_ | (simp (decide := true) (disch := omega) only [go_sem, ↓reduceIte, ↓put_at])))
        refine gcall_s Tryz.call31 c2 [] ?_
        (repeat (first | refine aw_seq ?_ | refine aw_block ?_ | refine aw_reg hC (by kernel_rfl) ?_ | refine aw_regd hC Tryz.checked.mixed (by kernel_rfl) ?_ | refine chk_and (by kernel_rfl) ?_ | refine aw_skip ?_ | refine aw_if ?_ | refine And.intro (by first | omega | with_reducible assumption) ?_ | refine aw_exit ?_ | refine aw_ret ?_ | (simp (decide := true) (disch := omega) only [go_sem, ↓reduceIte, ↓put_at])))
        (refine ret_s [] ?_; simp (decide := true) (disch := omega) only [go_sem, ↓reduceIte, ↓put_at])
      · rw [decide_eq_false (fun h => h3 h.2.2.2)] at hM
        subst hM
        rw [if_neg (by decide)]
        refine spec_of Tryz.func13 rfl Tryz.ntmps13 Tryz.results13 ⟨by decide, by simp⟩ fun C hC => ?_
        (repeat (first | refine aw_seq ?_ | refine aw_block ?_ | refine aw_reg hC (by kernel_rfl) ?_ | refine aw_regd hC Tryz.checked.mixed (by kernel_rfl) ?_ | refine chk_and (by kernel_rfl) ?_ | refine aw_skip ?_ | refine aw_if ?_ | refine And.intro (by first | omega | with_reducible assumption) ?_ | refine aw_exit ?_ | refine aw_ret ?_ | (simp (decide := true) (disch := omega) only [go_sem, ↓reduceIte, ↓put_at])))
        refine call_s Tryz.call30 c1 [] ?_
        (repeat (first | refine aw_seq ?_ | refine aw_block ?_ | refine aw_reg hC (by kernel_rfl) ?_ | refine aw_regd hC Tryz.checked.mixed (by kernel_rfl) ?_ | refine chk_and (by kernel_rfl) ?_ | refine aw_skip ?_ | refine aw_if ?_ | refine And.intro (by first | omega | with_reducible assumption) ?_ | refine aw_exit ?_ | refine aw_ret ?_ | (simp (decide := true) (disch := omega) only [go_sem, ↓reduceIte, ↓put_at])))
        refine gcall_s Tryz.call31 c2 [] ?_
        (repeat (first | refine aw_seq ?_ | refine aw_block ?_ | refine aw_reg hC (by kernel_rfl) ?_ | refine aw_regd hC Tryz.checked.mixed (by kernel_rfl) ?_ | refine chk_and (by kernel_rfl) ?_ | refine aw_skip ?_ | refine aw_if ?_ | refine And.intro (by first | omega | with_reducible assumption) ?_ | refine aw_exit ?_ | refine aw_ret ?_ | (simp (decide := true) (disch := omega) only [go_sem, ↓reduceIte, ↓put_at])))
        (refine ret_s [] ?_; simp (decide := true) (disch := omega) only [go_sem, ↓reduceIte, ↓put_at])
    · rw [decide_eq_false h2] at c2
      rw [decide_eq_false (fun h => h2 ⟨h.2.1, h.2.2.1⟩)] at hM
      subst hM
      rw [if_neg (by decide)]
      refine spec_of Tryz.func13 rfl Tryz.ntmps13 Tryz.results13 ⟨by decide, by simp⟩ fun C hC => ?_
      (repeat (first | refine aw_seq ?_ | refine aw_block ?_ | refine aw_reg hC (by kernel_rfl) ?_ | refine aw_regd hC Tryz.checked.mixed (by kernel_rfl) ?_ | refine chk_and (by kernel_rfl) ?_ | refine aw_skip ?_ | refine aw_if ?_ | refine And.intro (by first | omega | with_reducible assumption) ?_ | refine aw_exit ?_ | refine aw_ret ?_ | (simp (decide := true) (disch := omega) only [go_sem, ↓reduceIte, ↓put_at])))
      refine call_s Tryz.call30 c1 [] ?_
      (repeat (first | refine aw_seq ?_ | refine aw_block ?_ | refine aw_reg hC (by kernel_rfl) ?_ | refine aw_regd hC Tryz.checked.mixed (by kernel_rfl) ?_ | refine chk_and (by kernel_rfl) ?_ | refine aw_skip ?_ | refine aw_if ?_ | refine And.intro (by first | omega | with_reducible assumption) ?_ | refine aw_exit ?_ | refine aw_ret ?_ | (simp (decide := true) (disch := omega) only [go_sem, ↓reduceIte, ↓put_at])))
      refine gcall_s Tryz.call31 c2 [] ?_
      (repeat (first | refine aw_seq ?_ | refine aw_block ?_ | refine aw_reg hC (by kernel_rfl) ?_ | refine aw_regd hC Tryz.checked.mixed (by kernel_rfl) ?_ | refine chk_and (by kernel_rfl) ?_ | refine aw_skip ?_ | refine aw_if ?_ | refine And.intro (by first | omega | with_reducible assumption) ?_ | refine aw_exit ?_ | refine aw_ret ?_ | (simp (decide := true) (disch := omega) only [go_sem, ↓reduceIte, ↓put_at])))
      (refine ret_s [] ?_; simp (decide := true) (disch := omega) only [go_sem, ↓reduceIte, ↓put_at])
  · rw [decide_eq_false h1] at c1
    rw [decide_eq_false (fun h => h1 h.1)] at hM
    subst hM
    rw [if_neg (by decide)]
    refine spec_of Tryz.func13 rfl Tryz.ntmps13 Tryz.results13 ⟨by decide, by simp⟩ fun C hC => ?_
    (repeat (first | refine aw_seq ?_ | refine aw_block ?_ | refine aw_reg hC (by kernel_rfl) ?_ | refine aw_regd hC Tryz.checked.mixed (by kernel_rfl) ?_ | refine chk_and (by kernel_rfl) ?_ | refine aw_skip ?_ | refine aw_if ?_ | refine And.intro (by first | omega | with_reducible assumption) ?_ | refine aw_exit ?_ | refine aw_ret ?_ | (simp (decide := true) (disch := omega) only [go_sem, ↓reduceIte, ↓put_at])))
    refine call_s Tryz.call30 c1 [] ?_
    (repeat (first | refine aw_seq ?_ | refine aw_block ?_ | refine aw_reg hC (by kernel_rfl) ?_ | refine aw_regd hC Tryz.checked.mixed (by kernel_rfl) ?_ | refine chk_and (by kernel_rfl) ?_ | refine aw_skip ?_ | refine aw_if ?_ | refine And.intro (by first | omega | with_reducible assumption) ?_ | refine aw_exit ?_ | refine aw_ret ?_ | (simp (decide := true) (disch := omega) only [go_sem, ↓reduceIte, ↓put_at])))
    (refine ret_s [] ?_; simp (decide := true) (disch := omega) only [go_sem, ↓reduceIte, ↓put_at])
set_option maxRecDepth 100000 in
set_option maxHeartbeats 4000000 in
theorem media_pack (m : M6) (ho : m.Ok) (hl : m.data.length ≤ maxLen) : Spec Tryz.prog 10 [.ca (.val (.agg (m6L m)))] [] (.ca (.val (vs (pack6 m)))) [] := by
  have c0 := media_check m hl
  cases hm : may6 m with
  | false =>
    rw [(pack6_nil m).2 hm]
    rw [hm, if_neg (by decide)] at c0
    obtain ⟨sr, sq, tm, pa, ps, ix, ct, da⟩ := m
    refine spec_of Tryz.func10 rfl Tryz.ntmps10 Tryz.results10 ⟨by decide, by simp⟩ fun C hC => ?_
    (repeat (first | refine aw_seq ?_ | refine aw_block ?_ | refine aw_reg hC (by kernel_rfl) ?_ | refine aw_regd hC Tryz.checked.mixed (by kernel_rfl) ?_ | refine chk_and (by kernel_rfl) ?_ | refine aw_skip ?_ | refine aw_if ?_ | refine And.intro (by first | omega | with_reducible assumption) ?_ | refine aw_exit ?_ | refine aw_ret ?_ | (simp (decide := true) (disch := omega) only [go_sem, ↓reduceIte, ↓put_at])))
    refine call_s Tryz.call13 c0 [] ?_
    (repeat (first | refine aw_seq ?_ | refine aw_block ?_ | refine aw_reg hC (by kernel_rfl) ?_ | refine aw_regd hC Tryz.checked.mixed (by kernel_rfl) ?_ | refine chk_and (by kernel_rfl) ?_ | refine aw_skip ?_ | refine aw_if ?_ | refine And.intro (by first | omega | with_reducible assumption) ?_ | refine aw_exit ?_ | refine aw_ret ?_ | (simp (decide := true) (disch := omega) only [go_sem, ↓reduceIte, ↓put_at])))
    (refine ret_s [] ?_; simp (decide := true) (disch := omega) only [go_sem, ↓reduceIte, ↓put_at])
  | true =>
    have hp : pack6 m = sealB (head6 m) m.data := by unfold pack6; rw [if_pos hm]
    rw [hm, if_pos rfl] at c0
    obtain ⟨⟨m1, m2⟩, ⟨m3, m4⟩, ⟨m5, m6⟩, m7⟩ := (may6_iff m).1 hm
    have ho' := ho
    obtain ⟨o1, o2, o3, o4⟩ := ho
    have k1 := out_u8 [] [m.path] (by simp)
    have k2 := out_u16 (putZ m.path 1) [m.pseq] (by rw [putZ_length]; simp)
    have k3 := out_u8 [] [m.idx, m.cnt] (by simp)
    have z1 : putZ m.path 1 ++ puts' 2 [m.pseq] = putZ m.path 1 ++ putZ m.pseq 2 := by simp [puts']
    have z2 : [] ++ puts' 1 [m.path] = putZ m.path 1 := by simp [puts']
    have z3 : [] ++ puts' 1 [m.idx, m.cnt] = putZ m.idx 1 ++ putZ m.cnt 1 := by simp [puts']
    rw [z2] at k1
    rw [z1] at k2
    rw [z3] at k3
    have k4 := media_last m.idx m.cnt (by omega) (by omega)
    have k5 := out_bytes (putZ m.path 1 ++ putZ m.pseq 2) (by rw [List.length_append, putZ_length, putZ_length]; omega)
    have k6 := out_bytes (putZ m.idx 1 ++ putZ m.cnt 1) (by rw [List.length_append, putZ_length, putZ_length]; omega)
    have k7 := exts_into ⟨decide (m.idx = m.cnt - 1), 96, m.seq, m.time, m.src, [], false, 0, [], [], 0⟩ 1 (els6 m [0, 0, 0, 0]) (by simp) (by unfold els6 maxLen; simp) (by
      have e : formOk 1 = 1 := rfl
      have := ext6_len m [0, 0, 0, 0] rfl
      unfold bytes5 at this
      rw [List.length_append] at this
      rw [e]; omega)
    unfold into5 at k7
    rw [packx6 m [0, 0, 0, 0] rfl] at k7
    dsimp only at k7
    rw [if_pos rfl] at k7
    have k8 := rtp_pack (pk6 m [0, 0, 0, 0]) (okp6 m _ ho') (by
      have h1 := ext6_len m [0, 0, 0, 0] rfl
      have h2 : (pk6 m [0, 0, 0, 0]).ext = bytes5 1 (els6 m [0, 0, 0, 0]) := rfl
      rw [h2, h1]; decide) (by
      have h2 : (pk6 m [0, 0, 0, 0]).data = m.data := rfl
      rw [h2]; omega)
    have k9 : pack4 (pk6 m [0, 0, 0, 0]) = plain6 m [0, 0, 0, 0] := by
      unfold pack4
      rw [if_pos (mayp6 m _ rfl), body6 m _ rfl]
      rfl
    rw [k9] at k8
    have k10 := crc_seal (plain6 m [0, 0, 0, 0]) 24 (by rw [plain6_len m _ rfl]; omega)
    have k11 : sealOk (plain6 m [0, 0, 0, 0]) 24 = true := decide_eq_true (by rw [plain6_len m _ rfl]; omega)
    rw [seal6, k11] at k10
    rw [hp]
    generalize sealB (head6 m) m.data = S at *
    generalize plain6 m [0, 0, 0, 0] = Q at *
    unfold pk6 at k8
    unfold els6 at k7 k8
    generalize bytes5 1 _ = X at *
    clear hp k9 hm
    obtain ⟨sr, sq, tm, pa, ps, ix, ct, da⟩ := m
    dsimp only at *
    refine spec_of Tryz.func10 rfl Tryz.ntmps10 Tryz.results10 ⟨by decide, by simp⟩ fun C hC => ?_
    (repeat (first | refine aw_seq ?_ | refine aw_block ?_ | refine aw_reg hC (by kernel_rfl) ?_ | refine aw_regd hC Tryz.checked.mixed (by kernel_rfl) ?_ | refine chk_and (by kernel_rfl) ?_ | refine aw_skip ?_ | refine aw_if ?_ | refine And.intro (by first | omega | with_reducible assumption) ?_ | refine aw_exit ?_ | refine aw_ret ?_ | (simp (decide := true) (disch := omega) only [go_sem, ↓reduceIte, ↓put_at])))
    refine call_s Tryz.call13 c0 [] ?_
    (repeat (first | refine aw_seq ?_ | refine aw_block ?_ | refine aw_reg hC (by kernel_rfl) ?_ | refine aw_regd hC Tryz.checked.mixed (by kernel_rfl) ?_ | refine chk_and (by kernel_rfl) ?_ | refine aw_skip ?_ | refine aw_if ?_ | refine And.intro (by first | omega | with_reducible assumption) ?_ | refine aw_exit ?_ | refine aw_ret ?_ | (simp (decide := true) (disch := omega) only [go_sem, ↓reduceIte, ↓put_at])))
    refine call_s Tryz.call25 k1 [(3, 0)] ?_
    (repeat (first | refine aw_seq ?_ | refine aw_block ?_ | refine aw_reg hC (by kernel_rfl) ?_ | refine aw_regd hC Tryz.checked.mixed (by kernel_rfl) ?_ | refine chk_and (by kernel_rfl) ?_ | refine aw_skip ?_ | refine aw_if ?_ | refine And.intro (by first | omega | with_reducible assumption) ?_ | refine aw_exit ?_ | refine aw_ret ?_ | (simp (decide := true) (disch := omega) only [go_sem, ↓reduceIte, ↓put_at])))
    refine call_s Tryz.call26 k2 [(3, 0)] ?_
    (repeat (first | refine aw_seq ?_ | refine aw_block ?_ | refine aw_reg hC (by kernel_rfl) ?_ | refine aw_regd hC Tryz.checked.mixed (by kernel_rfl) ?_ | refine chk_and (by kernel_rfl) ?_ | refine aw_skip ?_ | refine aw_if ?_ | refine And.intro (by first | omega | with_reducible assumption) ?_ | refine aw_exit ?_ | refine aw_ret ?_ | (simp (decide := true) (disch := omega) only [go_sem, ↓reduceIte, ↓put_at])))
    refine call_s Tryz.call25 k3 [(4, 0)] ?_
    (repeat (first | refine aw_seq ?_ | refine aw_block ?_ | refine aw_reg hC (by kernel_rfl) ?_ | refine aw_regd hC Tryz.checked.mixed (by kernel_rfl) ?_ | refine chk_and (by kernel_rfl) ?_ | refine aw_skip ?_ | refine aw_if ?_ | refine And.intro (by first | omega | with_reducible assumption) ?_ | refine aw_exit ?_ | refine aw_ret ?_ | (simp (decide := true) (disch := omega) only [go_sem, ↓reduceIte, ↓put_at])))
    refine call_s Tryz.call11 k4 [] ?_
    (repeat (first | refine aw_seq ?_ | refine aw_block ?_ | refine aw_reg hC (by kernel_rfl) ?_ | refine aw_regd hC Tryz.checked.mixed (by kernel_rfl) ?_ | refine chk_and (by kernel_rfl) ?_ | refine aw_skip ?_ | refine aw_if ?_ | refine And.intro (by first | omega | with_reducible assumption) ?_ | refine aw_exit ?_ | refine aw_ret ?_ | (simp (decide := true) (disch := omega) only [go_sem, ↓reduceIte, ↓put_at])))
    refine call_s Tryz.call28 k5 [(3, 0)] ?_
    (repeat (first | refine aw_seq ?_ | refine aw_block ?_ | refine aw_reg hC (by kernel_rfl) ?_ | refine aw_regd hC Tryz.checked.mixed (by kernel_rfl) ?_ | refine chk_and (by kernel_rfl) ?_ | refine aw_skip ?_ | refine aw_if ?_ | refine And.intro (by first | omega | with_reducible assumption) ?_ | refine aw_exit ?_ | refine aw_ret ?_ | (simp (decide := true) (disch := omega) only [go_sem, ↓reduceIte, ↓put_at])))
    refine call_s Tryz.call28 k6 [(4, 0)] ?_
    (repeat (first | refine aw_seq ?_ | refine aw_block ?_ | refine aw_reg hC (by kernel_rfl) ?_ | refine aw_regd hC Tryz.checked.mixed (by kernel_rfl) ?_ | refine chk_and (by kernel_rfl) ?_ | refine aw_skip ?_ | refine aw_if ?_ | refine And.intro (by first | omega | with_reducible assumption) ?_ | refine aw_exit ?_ | refine aw_ret ?_ | (simp (decide := true) (disch := omega) only [go_sem, ↓reduceIte, ↓put_at])))
    refine call_s Tryz.call27 k7 [] ?_
    (repeat (first | refine aw_seq ?_ | refine aw_block ?_ | refine aw_reg hC (by kernel_rfl) ?_ | refine aw_regd hC Tryz.checked.mixed (by kernel_rfl) ?_ | refine chk_and (by kernel_rfl) ?_ | refine aw_skip ?_ | refine aw_if ?_ | refine And.intro (by first | omega | with_reducible assumption) ?_ | refine aw_exit ?_ | refine aw_ret ?_ | (simp (decide := true) (disch := omega) only [go_sem, ↓reduceIte, ↓put_at])))
    refine call_s Tryz.call29 k8 [] ?_
    (repeat (first | refine aw_seq ?_ | refine aw_block ?_ | refine aw_reg hC (by kernel_rfl) ?_ | refine aw_regd hC Tryz.checked.mixed (by kernel_rfl) ?_ | refine chk_and (by kernel_rfl) ?_ | refine aw_skip ?_ | refine aw_if ?_ | refine And.intro (by first | omega | with_reducible assumption) ?_ | refine aw_exit ?_ | refine aw_ret ?_ | (simp (decide := true) (disch := omega) only [go_sem, ↓reduceIte, ↓put_at])))
    refine call_s Tryz.call6 k10 [] ?_
    (repeat (first | refine aw_seq ?_ | refine aw_block ?_ | refine aw_reg hC (by kernel_rfl) ?_ | refine aw_regd hC Tryz.checked.mixed (by kernel_rfl) ?_ | refine chk_and (by kernel_rfl) ?_ | refine aw_skip ?_ | refine aw_if ?_ | refine And.intro (by first | omega | with_reducible assumption) ?_ | refine aw_exit ?_ | refine aw_ret ?_ | (simp (decide := true) (disch := omega) only [go_sem, ↓reduceIte, ↓put_at])))
    (refine ret_s [] ?_; simp (decide := true) (disch := omega) only [go_sem, ↓reduceIte, ↓put_at])
end Go.Proofs.YtojcjbaimdjhoaaGreatDoor
