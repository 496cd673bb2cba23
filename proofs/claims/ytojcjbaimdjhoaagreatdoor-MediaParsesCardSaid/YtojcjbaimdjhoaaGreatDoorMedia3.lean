
/- Layer 6: awake, Cut, Told, May; MediaApart, MediaTracks, walked. -/
import Derived.Test.YtojcjbaimdjhoaaGreatDoorMedia2
namespace Go.Proofs.YtojcjbaimdjhoaaGreatDoor
open Go.RowKit
set_option linter.unusedVariables false
set_option linter.unusedSimpArgs false

set_option maxRecDepth 100000 in
theorem eq6_ (a1 b1 : Int) (a2 b2 : Int) (a3 b3 : Int) (a4 b4 : Int) (a5 b5 : Int) (a6 b6 : Int) (a7 b7 : Int) (a8 b8 : List UInt8) (w : World) : (binOp .eql 33 (.agg [.int .u32 a1, .int .u16 a2, .int .u32 a3, .int .i64 a4, .int .u16 a5, .int .i64 a6, .int .i64 a7, str a8].toArray) (.agg [.int .u32 b1, .int .u16 b2, .int .u32 b3, .int .i64 b4, .int .u16 b5, .int .i64 b6, .int .i64 b7, str b8].toArray)).run Tryz.prog w = .ok (.bool (decide (a1 = b1 ∧ a2 = b2 ∧ a3 = b3 ∧ a4 = b4 ∧ a5 = b5 ∧ a6 = b6 ∧ a7 = b7 ∧ a8 = b8))) w := by
  by_cases h1 : a1 = b1
  · by_cases h2 : a2 = b2
    · by_cases h3 : a3 = b3
      · by_cases h4 : a4 = b4
        · by_cases h5 : a5 = b5
          · by_cases h6 : a6 = b6
            · by_cases h7 : a7 = b7
              · by_cases h8 : a8 = b8
                · subst h1 h2 h3 h4 h5 h6 h7 h8; simp [go_sem]
                · have e : (a8 == b8) = false := by simpa using h8
                  simp [go_sem, h1, h2, h3, h4, h5, h6, h7, h8, e]
              · simp [go_sem, h1, h2, h3, h4, h5, h6, h7]
            · simp [go_sem, h1, h2, h3, h4, h5, h6]
          · simp [go_sem, h1, h2, h3, h4, h5]
        · simp [go_sem, h1, h2, h3, h4]
      · simp [go_sem, h1, h2, h3]
    · simp [go_sem, h1, h2]
  · simp [go_sem, h1]
set_option maxRecDepth 100000 in
theorem ne6_ (a1 b1 : Int) (a2 b2 : Int) (a3 b3 : Int) (a4 b4 : Int) (a5 b5 : Int) (a6 b6 : Int) (a7 b7 : Int) (a8 b8 : List UInt8) (w : World) : (binOp .neq 33 (.agg [.int .u32 a1, .int .u16 a2, .int .u32 a3, .int .i64 a4, .int .u16 a5, .int .i64 a6, .int .i64 a7, str a8].toArray) (.agg [.int .u32 b1, .int .u16 b2, .int .u32 b3, .int .i64 b4, .int .u16 b5, .int .i64 b6, .int .i64 b7, str b8].toArray)).run Tryz.prog w = .ok (.bool (!decide (a1 = b1 ∧ a2 = b2 ∧ a3 = b3 ∧ a4 = b4 ∧ a5 = b5 ∧ a6 = b6 ∧ a7 = b7 ∧ a8 = b8))) w := by
  by_cases h1 : a1 = b1
  · by_cases h2 : a2 = b2
    · by_cases h3 : a3 = b3
      · by_cases h4 : a4 = b4
        · by_cases h5 : a5 = b5
          · by_cases h6 : a6 = b6
            · by_cases h7 : a7 = b7
              · by_cases h8 : a8 = b8
                · subst h1 h2 h3 h4 h5 h6 h7 h8; simp [go_sem]
                · have e : (a8 == b8) = false := by simpa using h8
                  simp [go_sem, h1, h2, h3, h4, h5, h6, h7, h8, e]
              · simp [go_sem, h1, h2, h3, h4, h5, h6, h7]
            · simp [go_sem, h1, h2, h3, h4, h5, h6]
          · simp [go_sem, h1, h2, h3, h4, h5]
        · simp [go_sem, h1, h2, h3, h4]
      · simp [go_sem, h1, h2, h3]
    · simp [go_sem, h1, h2]
  · simp [go_sem, h1]
abbrev r6L (m : M6) : List V := [vi m.src, vi m.seq, vi m.time, vi m.path, vi m.pseq, vi m.idx, vi m.cnt, vs m.data]
def cut6 (m : M6) : M6 := { m with data := m.data.take 80 }
set_option maxRecDepth 100000 in
theorem law_told6 (m : M6) (ho : m.Ok) : Spec Tryz.prog 9 [.ca (.val (.agg (m6L m)))] [] (.ca (.val (.agg (r6L m)))) [] := by
  obtain ⟨sr, sq, tm, pa, ps, ix, ct, da⟩ := m
  obtain ⟨o1, o2, o3, o4⟩ := ho
  dsimp only at *
  refine spec_of Tryz.func9 rfl Tryz.ntmps9 Tryz.results9 ⟨by decide, by simp⟩ fun C hC => ?_
  (repeat (first | refine aw_seq ?_ | refine aw_block ?_ | refine aw_reg hC (by kernel_rfl) ?_ | refine aw_regd hC Tryz.checked.mixed (by kernel_rfl) ?_ | refine chk_and (by kernel_rfl) ?_ | refine aw_skip ?_ | refine aw_if ?_ | refine And.intro (by first | omega | with_reducible assumption) ?_ | refine aw_exit ?_ | refine aw_ret ?_ | (simp (decide := true) (disch := omega) only [go_sem, ↓reduceIte, ↓put_at])))
  (refine ret_s [] ?_; simp (decide := true) (disch := omega) only [go_sem, ↓reduceIte, ↓put_at])
set_option maxRecDepth 100000 in
theorem ref_may6 (m : M6) (hl : m.data.length ≤ maxLen) : Spec Tryz.prog 44 [.ca (.val (.agg (r6L m)))] [] (.ca (.val (vb (may6 m)))) [] := by
  obtain ⟨M, hM⟩ : ∃ M, M = may6 m := ⟨_, rfl⟩
  rw [← hM]
  unfold may6 at hM
  unfold maxLen at hl
  obtain ⟨sr, sq, tm, pa, ps, ix, ct, da⟩ := m
  dsimp only at *
  by_cases h1 : 1 ≤ pa
  · by_cases h2 : pa ≤ 15
    · by_cases h3 : 1 ≤ ct
      · by_cases h4 : ct ≤ 255
        · by_cases h5 : 0 ≤ ix
          · by_cases h6 : ix < ct
            · by_cases h7 : da.length ≤ 1472
              · rw [decide_eq_true ⟨⟨h1, h2⟩, ⟨h3, h4⟩, ⟨h5, h6⟩, h7⟩] at hM
                subst hM
                refine spec_of Tryz.func44 rfl Tryz.ntmps44 Tryz.results44 ⟨by decide, by simp⟩ fun C hC => ?_
                (repeat (first | refine aw_seq ?_ | refine aw_block ?_ | refine aw_reg hC (by kernel_rfl) ?_ | refine aw_regd hC Tryz.checked.mixed (by kernel_rfl) ?_ | refine chk_and (by kernel_rfl) ?_ | refine aw_skip ?_ | refine aw_if ?_ | refine And.intro (by first | omega | with_reducible assumption) ?_ | refine aw_exit ?_ | refine aw_ret ?_ | (simp (decide := true) (disch := omega) only [go_sem, ↓reduceIte, ↓put_at])))
                (refine ret_s [] ?_; simp (decide := true) (disch := omega) only [go_sem, ↓reduceIte, ↓put_at])
              · rw [decide_eq_false (fun h => h7 h.2.2.2)] at hM
                subst hM
                refine spec_of Tryz.func44 rfl Tryz.ntmps44 Tryz.results44 ⟨by decide, by simp⟩ fun C hC => ?_
                (repeat (first | refine aw_seq ?_ | refine aw_block ?_ | refine aw_reg hC (by kernel_rfl) ?_ | refine aw_regd hC Tryz.checked.mixed (by kernel_rfl) ?_ | refine chk_and (by kernel_rfl) ?_ | refine aw_skip ?_ | refine aw_if ?_ | refine And.intro (by first | omega | with_reducible assumption) ?_ | refine aw_exit ?_ | refine aw_ret ?_ | (simp (decide := true) (disch := omega) only [go_sem, ↓reduceIte, ↓put_at])))
                (refine ret_s [] ?_; simp (decide := true) (disch := omega) only [go_sem, ↓reduceIte, ↓put_at])
            · rw [decide_eq_false (fun h => h6 h.2.2.1.2)] at hM
              subst hM
              refine spec_of Tryz.func44 rfl Tryz.ntmps44 Tryz.results44 ⟨by decide, by simp⟩ fun C hC => ?_
              (repeat (first | refine aw_seq ?_ | refine aw_block ?_ | refine aw_reg hC (by kernel_rfl) ?_ | refine aw_regd hC Tryz.checked.mixed (by kernel_rfl) ?_ | refine chk_and (by kernel_rfl) ?_ | refine aw_skip ?_ | refine aw_if ?_ | refine And.intro (by first | omega | with_reducible assumption) ?_ | refine aw_exit ?_ | refine aw_ret ?_ | (simp (decide := true) (disch := omega) only [go_sem, ↓reduceIte, ↓put_at])))
              (refine ret_s [] ?_; simp (decide := true) (disch := omega) only [go_sem, ↓reduceIte, ↓put_at])
          · rw [decide_eq_false (fun h => h5 h.2.2.1.1)] at hM
            subst hM
            refine spec_of Tryz.func44 rfl Tryz.ntmps44 Tryz.results44 ⟨by decide, by simp⟩ fun C hC => ?_
            (repeat (first | refine aw_seq ?_ | refine aw_block ?_ | refine aw_reg hC (by kernel_rfl) ?_ | refine aw_regd hC Tryz.checked.mixed (by kernel_rfl) ?_ | refine chk_and (by kernel_rfl) ?_ | refine aw_skip ?_ | refine aw_if ?_ | refine And.intro (by first | omega | with_reducible assumption) ?_ | refine aw_exit ?_ | refine aw_ret ?_ | (simp (decide := true) (disch := omega) only [go_sem, ↓reduceIte, ↓put_at])))
            (refine ret_s [] ?_; simp (decide := true) (disch := omega) only [go_sem, ↓reduceIte, ↓put_at])
        · rw [decide_eq_false (fun h => h4 h.2.1.2)] at hM
          subst hM
          refine spec_of Tryz.func44 rfl Tryz.ntmps44 Tryz.results44 ⟨by decide, by simp⟩ fun C hC => ?_
          (repeat (first | refine aw_seq ?_ | refine aw_block ?_ | refine aw_reg hC (by kernel_rfl) ?_ | refine aw_regd hC Tryz.checked.mixed (by kernel_rfl) ?_ | refine chk_and (by kernel_rfl) ?_ | refine aw_skip ?_ | refine aw_if ?_ | refine And.intro (by first | omega | with_reducible assumption) ?_ | refine aw_exit ?_ | refine aw_ret ?_ | (simp (decide := true) (disch := omega) only [go_sem, ↓reduceIte, ↓put_at])))
          (refine ret_s [] ?_; simp (decide := true) (disch := omega) only [go_sem, ↓reduceIte, ↓put_at])
      · rw [decide_eq_false (fun h => h3 h.2.1.1)] at hM
        subst hM
        refine spec_of Tryz.func44 rfl Tryz.ntmps44 Tryz.results44 ⟨by decide, by simp⟩ fun C hC => ?_
        (repeat (first | refine aw_seq ?_ | refine aw_block ?_ | refine aw_reg hC (by kernel_rfl) ?_ | refine aw_regd hC Tryz.checked.mixed (by kernel_rfl) ?_ | refine chk_and (by kernel_rfl) ?_ | refine aw_skip ?_ | refine aw_if ?_ | refine And.intro (by first | omega | with_reducible assumption) ?_ | refine aw_exit ?_ | refine aw_ret ?_ | (simp (decide := true) (disch := omega) only [go_sem, ↓reduceIte, ↓put_at])))
        (refine ret_s [] ?_; simp (decide := true) (disch := omega) only [go_sem, ↓reduceIte, ↓put_at])
    · rw [decide_eq_false (fun h => h2 h.1.2)] at hM
      subst hM
      refine spec_of Tryz.func44 rfl Tryz.ntmps44 Tryz.results44 ⟨by decide, by simp⟩ fun C hC => ?_
      (repeat (first | refine aw_seq ?_ | refine aw_block ?_ | refine aw_reg hC (by kernel_rfl) ?_ | refine aw_regd hC Tryz.checked.mixed (by kernel_rfl) ?_ | refine chk_and (by kernel_rfl) ?_ | refine aw_skip ?_ | refine aw_if ?_ | refine And.intro (by first | omega | with_reducible assumption) ?_ | refine aw_exit ?_ | refine aw_ret ?_ | (simp (decide := true) (disch := omega) only [go_sem, ↓reduceIte, ↓put_at])))
      (refine ret_s [] ?_; simp (decide := true) (disch := omega) only [go_sem, ↓reduceIte, ↓put_at])
  · rw [decide_eq_false (fun h => h1 h.1.1)] at hM
    subst hM
    refine spec_of Tryz.func44 rfl Tryz.ntmps44 Tryz.results44 ⟨by decide, by simp⟩ fun C hC => ?_
    (repeat (first | refine aw_seq ?_ | refine aw_block ?_ | refine aw_reg hC (by kernel_rfl) ?_ | refine aw_regd hC Tryz.checked.mixed (by kernel_rfl) ?_ | refine chk_and (by kernel_rfl) ?_ | refine aw_skip ?_ | refine aw_if ?_ | refine And.intro (by first | omega | with_reducible assumption) ?_ | refine aw_exit ?_ | refine aw_ret ?_ | (simp (decide := true) (disch := omega) only [go_sem, ↓reduceIte, ↓put_at])))
    (refine ret_s [] ?_; simp (decide := true) (disch := omega) only [go_sem, ↓reduceIte, ↓put_at])
theorem pack6_len (m : M6) (hm : may6 m = true) : (pack6 m).length = m.data.length + 28 := by
  unfold pack6
  rw [if_pos hm, sealB_len, head6_len]
  omega
set_option maxRecDepth 100000 in
set_option maxHeartbeats 4000000 in
theorem law_awake6 : Spec Tryz.prog 4 [] [] (.ca (.val (vb true))) [] := by
  have hm : may6 ⟨0, 0, 0, 3, 4, 1, 2, [104, 101, 108, 108, 111]⟩ = true := by decide
  have ho : M6.Ok ⟨0, 0, 0, 3, 4, 1, 2, [104, 101, 108, 108, 111]⟩ := ⟨by decide, by decide, by decide, by decide⟩
  have c1 := media_pack ⟨0, 0, 0, 3, 4, 1, 2, [104, 101, 108, 108, 111]⟩ ho (by decide)
  have hl := pack6_len ⟨0, 0, 0, 3, 4, 1, 2, [104, 101, 108, 108, 111]⟩ hm
  have hl : (pack6 ⟨0, 0, 0, 3, 4, 1, 2, [104, 101, 108, 108, 111]⟩).length = 33 := hl
  have hpp := parse_pack6 ⟨0, 0, 0, 3, 4, 1, 2, [104, 101, 108, 108, 111]⟩ ho hm
  have c2 := media_parse (pack6 ⟨0, 0, 0, 3, 4, 1, 2, [104, 101, 108, 108, 111]⟩) (by rw [hl]; decide)
  rw [hpp] at c2
  have c3 := media_check ⟨0, 0, 0, 3, 4, 1, 2, [104, 101, 108, 108, 111]⟩ (by decide)
  rw [hm, if_pos rfl] at c3
  have c4 := media_last 1 2 (by decide) (by decide)
  have c5 := media_first 1 2
  rw [decide_eq_true (by decide)] at c4
  rw [decide_eq_false (by decide)] at c5
  generalize pack6 ⟨0, 0, 0, 3, 4, 1, 2, [104, 101, 108, 108, 111]⟩ = S at *
  refine spec_of Tryz.func4 rfl Tryz.ntmps4 Tryz.results4 ⟨by decide, by simp⟩ fun C hC => ?_
  (repeat (first | refine aw_seq ?_ | refine aw_block ?_ | refine aw_reg hC (by kernel_rfl) ?_ | refine aw_regd hC Tryz.checked.mixed (by kernel_rfl) ?_ | refine chk_and (by kernel_rfl) ?_ | refine aw_skip ?_ | refine aw_if ?_ | refine And.intro (by first | omega | with_reducible assumption) ?_ | refine aw_exit ?_ | refine aw_ret ?_ | (simp (decide := true) (disch := omega) only [go_sem, ↓reduceIte, ↓put_at])))
  refine call_s Tryz.call10 c1 [] ?_
  (repeat (first | refine aw_seq ?_ | refine aw_block ?_ | refine aw_reg hC (by kernel_rfl) ?_ | refine aw_regd hC Tryz.checked.mixed (by kernel_rfl) ?_ | refine chk_and (by kernel_rfl) ?_ | refine aw_skip ?_ | refine aw_if ?_ | refine And.intro (by first | omega | with_reducible assumption) ?_ | refine aw_exit ?_ | refine aw_ret ?_ | (simp (decide := true) (disch := omega) only [go_sem, ↓reduceIte, ↓put_at])))
  refine call_s Tryz.call7 c2 [] ?_
  (repeat (first | refine aw_seq ?_ | refine aw_block ?_ | refine aw_reg hC (by kernel_rfl) ?_ | refine aw_regd hC Tryz.checked.mixed (by kernel_rfl) ?_ | refine chk_and (by kernel_rfl) ?_ | refine aw_skip ?_ | refine aw_if ?_ | refine And.intro (by first | omega | with_reducible assumption) ?_ | refine aw_exit ?_ | refine aw_ret ?_ | (simp (decide := true) (disch := omega) only [go_sem, ↓reduceIte, ↓put_at])))
  refine gcmpA_s _ _ _ (.inl rfl) (by simp (decide := true) (disch := omega) only [go_sem, ↓reduceIte, ↓put_at]) (by simp (decide := true) (disch := omega) only [go_sem, ↓reduceIte, ↓put_at]) (by simp (decide := true) (disch := omega) only [go_sem, ↓reduceIte, ↓put_at]) (by kernel_rfl) (eq6_ 0 0 0 0 0 0 3 3 4 4 1 1 2 2 [104, 101, 108, 108, 111] [104, 101, 108, 108, 111]) ?_
  simp only [and_self, decide_true]
  (repeat (first | refine aw_seq ?_ | refine aw_block ?_ | refine aw_reg hC (by kernel_rfl) ?_ | refine aw_regd hC Tryz.checked.mixed (by kernel_rfl) ?_ | refine chk_and (by kernel_rfl) ?_ | refine aw_skip ?_ | refine aw_if ?_ | refine And.intro (by first | omega | with_reducible assumption) ?_ | refine aw_exit ?_ | refine aw_ret ?_ | (simp (decide := true) (disch := omega) only [go_sem, ↓reduceIte, ↓put_at])))
  refine gcall_s Tryz.call11 c4 [] ?_
  (repeat (first | refine aw_seq ?_ | refine aw_block ?_ | refine aw_reg hC (by kernel_rfl) ?_ | refine aw_regd hC Tryz.checked.mixed (by kernel_rfl) ?_ | refine chk_and (by kernel_rfl) ?_ | refine aw_skip ?_ | refine aw_if ?_ | refine And.intro (by first | omega | with_reducible assumption) ?_ | refine aw_exit ?_ | refine aw_ret ?_ | (simp (decide := true) (disch := omega) only [go_sem, ↓reduceIte, ↓put_at])))
  refine gcall_s Tryz.call12 c5 [] ?_
  (repeat (first | refine aw_seq ?_ | refine aw_block ?_ | refine aw_reg hC (by kernel_rfl) ?_ | refine aw_regd hC Tryz.checked.mixed (by kernel_rfl) ?_ | refine chk_and (by kernel_rfl) ?_ | refine aw_skip ?_ | refine aw_if ?_ | refine And.intro (by first | omega | with_reducible assumption) ?_ | refine aw_exit ?_ | refine aw_ret ?_ | (simp (decide := true) (disch := omega) only [go_sem, ↓reduceIte, ↓put_at])))
  refine gcall_s Tryz.call13 c3 [] ?_
  (repeat (first | refine aw_seq ?_ | refine aw_block ?_ | refine aw_reg hC (by kernel_rfl) ?_ | refine aw_regd hC Tryz.checked.mixed (by kernel_rfl) ?_ | refine chk_and (by kernel_rfl) ?_ | refine aw_skip ?_ | refine aw_if ?_ | refine And.intro (by first | omega | with_reducible assumption) ?_ | refine aw_exit ?_ | refine aw_ret ?_ | (simp (decide := true) (disch := omega) only [go_sem, ↓reduceIte, ↓put_at])))
  (refine ret_s [] ?_; simp (decide := true) (disch := omega) only [go_sem, ↓reduceIte, ↓put_at])
theorem cut6_ok (m : M6) (h : m.Ok) : (cut6 m).Ok ∧ (cut6 m).data.length ≤ 80 := ⟨⟨h.src, h.seq, h.time, h.pseq⟩, by unfold cut6; dsimp only; rw [List.length_take]; omega⟩
theorem pack6_beq (m : M6) : (pack6 m == []) = !may6 m := by
  have h := pack6_nil m
  cases hm : may6 m with
  | false => rw [h.2 hm]; rfl
  | true =>
    have : pack6 m ≠ [] := fun e => by rw [h.1 e] at hm; cases hm
    simpa using this
end Go.Proofs.YtojcjbaimdjhoaaGreatDoor
