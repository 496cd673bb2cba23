
/- Layer 4: the references May and Pack, Told, Same, Cut. Layer 4: the reference Parse. Layer 4: Told, Same, Cut. -/
import Derived.Test.YtojcjbaimdjhoaaGreatDoorRtp4
namespace Go.Proofs.YtojcjbaimdjhoaaGreatDoor
open Go.RowKit
set_option linter.unusedVariables false
set_option linter.unusedSimpArgs false

abbrev r4L (p : P4) : List V := [vb p.marker, vi p.kind, vi p.seq, vi p.time, vi p.src, .lst 1 (p.others.map intEl), vb p.hasExt, vi p.profile, vs p.ext, vs p.data, vi p.pad]
set_option maxRecDepth 100000 in
set_option maxHeartbeats 4000000 in
theorem ref_may4 (p : P4) (hl : p.ext.length ≤ maxLen) (hl2 : p.others.length ≤ maxLen) : Spec Tryz.prog 85 [.ca (.val (.agg (r4L p)))] [] (.ca (.val (vb (may4 p)))) [] := by
  obtain ⟨M, hM⟩ : ∃ M, M = may4 p := ⟨_, rfl⟩
  rw [← hM]
  unfold may4 at hM
  unfold maxLen at hl hl2
  obtain ⟨mk, kd, sq, tm, sr, os, hx, pf, ex, da, pd⟩ := p
  dsimp only at hM hl hl2 ⊢
  by_cases g1 : 0 ≤ kd ∧ kd ≤ 127
  · by_cases g2 : os.length ≤ 15
    · by_cases g3 : 0 ≤ pf ∧ pf ≤ 65535
      · by_cases g4 : 0 ≤ pd ∧ pd ≤ 255
        · cases hx with
          | true =>
            by_cases g5 : ex.length % 4 = 0
            · have g5' : (ex.length : Int) % 4 = 0 := by omega
              by_cases g6 : ex.length ≤ 262140
              · rw [decide_eq_true ⟨g1, g2, g3, g4, by rw [if_pos rfl]; exact ⟨g5, g6⟩⟩] at hM
                subst hM
                refine spec_of Tryz.func85 rfl Tryz.ntmps85 Tryz.results85 ⟨by decide, by simp⟩ fun C hC => ?_
                (repeat (first | refine aw_seq ?_ | refine aw_block ?_ | refine aw_reg hC (by kernel_rfl) ?_ | refine aw_regd hC Tryz.checked.mixed (by kernel_rfl) ?_ | refine chk_and (by kernel_rfl) ?_ | refine aw_skip ?_ | refine aw_if ?_ | refine And.intro (by first | omega | with_reducible assumption) ?_ | refine aw_exit ?_ | refine aw_ret ?_ | (simp (decide := true) (disch := omega) only [go_sem, ↓reduceIte, ↓put_at])))
                (refine ret_s [] ?_; simp (decide := true) (disch := omega) only [go_sem, ↓reduceIte, ↓put_at])
              · rw [decide_eq_false (fun h => by have := h.2.2.2.2; rw [if_pos rfl] at this; exact g6 this.2)] at hM
                subst hM
                refine spec_of Tryz.func85 rfl Tryz.ntmps85 Tryz.results85 ⟨by decide, by simp⟩ fun C hC => ?_
                (repeat (first | refine aw_seq ?_ | refine aw_block ?_ | refine aw_reg hC (by kernel_rfl) ?_ | refine aw_regd hC Tryz.checked.mixed (by kernel_rfl) ?_ | refine chk_and (by kernel_rfl) ?_ | refine aw_skip ?_ | refine aw_if ?_ | refine And.intro (by first | omega | with_reducible assumption) ?_ | refine aw_exit ?_ | refine aw_ret ?_ | (simp (decide := true) (disch := omega) only [go_sem, ↓reduceIte, ↓put_at])))
                (refine ret_s [] ?_; simp (decide := true) (disch := omega) only [go_sem, ↓reduceIte, ↓put_at])
            · have g5' : (ex.length : Int) % 4 ≠ 0 := by omega
              rw [decide_eq_false (fun h => by have := h.2.2.2.2; rw [if_pos rfl] at this; exact g5 this.1)] at hM
              subst hM
              refine spec_of Tryz.func85 rfl Tryz.ntmps85 Tryz.results85 ⟨by decide, by simp⟩ fun C hC => ?_
              (repeat (first | refine aw_seq ?_ | refine aw_block ?_ | refine aw_reg hC (by kernel_rfl) ?_ | refine aw_regd hC Tryz.checked.mixed (by kernel_rfl) ?_ | refine chk_and (by kernel_rfl) ?_ | refine aw_skip ?_ | refine aw_if ?_ | refine And.intro (by first | omega | with_reducible assumption) ?_ | refine aw_exit ?_ | refine aw_ret ?_ | (simp (decide := true) (disch := omega) only [go_sem, ↓reduceIte, ↓put_at])))
              (refine ret_s [] ?_; simp (decide := true) (disch := omega) only [go_sem, ↓reduceIte, ↓put_at])
          | false =>
            by_cases g5 : pf = 0
            · by_cases g6 : ex = []
              · rw [decide_eq_true ⟨g1, g2, g3, g4, by rw [if_neg (by decide)]; exact ⟨g5, g6⟩⟩] at hM
                have hb : (ex == []) = true := by simpa using g6
                subst hM
                refine spec_of Tryz.func85 rfl Tryz.ntmps85 Tryz.results85 ⟨by decide, by simp⟩ fun C hC => ?_
                (repeat (first | refine aw_seq ?_ | refine aw_block ?_ | refine aw_reg hC (by kernel_rfl) ?_ | refine aw_regd hC Tryz.checked.mixed (by kernel_rfl) ?_ | refine chk_and (by kernel_rfl) ?_ | refine aw_skip ?_ | refine aw_if ?_ | refine And.intro (by first | omega | with_reducible assumption) ?_ | refine aw_exit ?_ | refine aw_ret ?_ | (simp (decide := true) (disch := omega) only [go_sem, ↓reduceIte, ↓put_at])))
                simp only [hb]
                (repeat (first | refine aw_seq ?_ | refine aw_block ?_ | refine aw_reg hC (by kernel_rfl) ?_ | refine aw_regd hC Tryz.checked.mixed (by kernel_rfl) ?_ | refine chk_and (by kernel_rfl) ?_ | refine aw_skip ?_ | refine aw_if ?_ | refine And.intro (by first | omega | with_reducible assumption) ?_ | refine aw_exit ?_ | refine aw_ret ?_ | (simp (decide := true) (disch := omega) only [go_sem, ↓reduceIte, ↓put_at])))
                (refine ret_s [] ?_; simp (decide := true) (disch := omega) only [go_sem, ↓reduceIte, ↓put_at])
              · rw [decide_eq_false (fun h => by have := h.2.2.2.2; rw [if_neg (by decide)] at this; exact g6 this.2)] at hM
                have hb : (ex == []) = false := by simpa using g6
                subst hM
                refine spec_of Tryz.func85 rfl Tryz.ntmps85 Tryz.results85 ⟨by decide, by simp⟩ fun C hC => ?_
                (repeat (first | refine aw_seq ?_ | refine aw_block ?_ | refine aw_reg hC (by kernel_rfl) ?_ | refine aw_regd hC Tryz.checked.mixed (by kernel_rfl) ?_ | refine chk_and (by kernel_rfl) ?_ | refine aw_skip ?_ | refine aw_if ?_ | refine And.intro (by first | omega | with_reducible assumption) ?_ | refine aw_exit ?_ | refine aw_ret ?_ | (simp (decide := true) (disch := omega) only [go_sem, ↓reduceIte, ↓put_at])))
                simp only [hb]
                (repeat (first | refine aw_seq ?_ | refine aw_block ?_ | refine aw_reg hC (by kernel_rfl) ?_ | refine aw_regd hC Tryz.checked.mixed (by kernel_rfl) ?_ | refine chk_and (by kernel_rfl) ?_ | refine aw_skip ?_ | refine aw_if ?_ | refine And.intro (by first | omega | with_reducible assumption) ?_ | refine aw_exit ?_ | refine aw_ret ?_ | (simp (decide := true) (disch := omega) only [go_sem, ↓reduceIte, ↓put_at])))
                (refine ret_s [] ?_; simp (decide := true) (disch := omega) only [go_sem, ↓reduceIte, ↓put_at])
            · rw [decide_eq_false (fun h => by have := h.2.2.2.2; rw [if_neg (by decide)] at this; exact g5 this.1)] at hM
              subst hM
              refine spec_of Tryz.func85 rfl Tryz.ntmps85 Tryz.results85 ⟨by decide, by simp⟩ fun C hC => ?_
              (repeat (first | refine aw_seq ?_ | refine aw_block ?_ | refine aw_reg hC (by kernel_rfl) ?_ | refine aw_regd hC Tryz.checked.mixed (by kernel_rfl) ?_ | refine chk_and (by kernel_rfl) ?_ | refine aw_skip ?_ | refine aw_if ?_ | refine And.intro (by first | omega | with_reducible assumption) ?_ | refine aw_exit ?_ | refine aw_ret ?_ | (simp (decide := true) (disch := omega) only [go_sem, ↓reduceIte, ↓put_at])))
              (refine ret_s [] ?_; simp (decide := true) (disch := omega) only [go_sem, ↓reduceIte, ↓put_at])
        · rw [decide_eq_false (fun h => g4 h.2.2.2.1)] at hM
          subst hM
          by_cases k : pd < 0
          · refine spec_of Tryz.func85 rfl Tryz.ntmps85 Tryz.results85 ⟨by decide, by simp⟩ fun C hC => ?_
            (repeat (first | refine aw_seq ?_ | refine aw_block ?_ | refine aw_reg hC (by kernel_rfl) ?_ | refine aw_regd hC Tryz.checked.mixed (by kernel_rfl) ?_ | refine chk_and (by kernel_rfl) ?_ | refine aw_skip ?_ | refine aw_if ?_ | refine And.intro (by first | omega | with_reducible assumption) ?_ | refine aw_exit ?_ | refine aw_ret ?_ | (simp (decide := true) (disch := omega) only [go_sem, ↓reduceIte, ↓put_at])))
            (refine ret_s [] ?_; simp (decide := true) (disch := omega) only [go_sem, ↓reduceIte, ↓put_at])
          · refine spec_of Tryz.func85 rfl Tryz.ntmps85 Tryz.results85 ⟨by decide, by simp⟩ fun C hC => ?_
            (repeat (first | refine aw_seq ?_ | refine aw_block ?_ | refine aw_reg hC (by kernel_rfl) ?_ | refine aw_regd hC Tryz.checked.mixed (by kernel_rfl) ?_ | refine chk_and (by kernel_rfl) ?_ | refine aw_skip ?_ | refine aw_if ?_ | refine And.intro (by first | omega | with_reducible assumption) ?_ | refine aw_exit ?_ | refine aw_ret ?_ | (simp (decide := true) (disch := omega) only [go_sem, ↓reduceIte, ↓put_at])))
            (refine ret_s [] ?_; simp (decide := true) (disch := omega) only [go_sem, ↓reduceIte, ↓put_at])
      · rw [decide_eq_false (fun h => g3 h.2.2.1)] at hM
        subst hM
        by_cases k : pf < 0
        · refine spec_of Tryz.func85 rfl Tryz.ntmps85 Tryz.results85 ⟨by decide, by simp⟩ fun C hC => ?_
          (repeat (first | refine aw_seq ?_ | refine aw_block ?_ | refine aw_reg hC (by kernel_rfl) ?_ | refine aw_regd hC Tryz.checked.mixed (by kernel_rfl) ?_ | refine chk_and (by kernel_rfl) ?_ | refine aw_skip ?_ | refine aw_if ?_ | refine And.intro (by first | omega | with_reducible assumption) ?_ | refine aw_exit ?_ | refine aw_ret ?_ | (simp (decide := true) (disch := omega) only [go_sem, ↓reduceIte, ↓put_at])))
          (refine ret_s [] ?_; simp (decide := true) (disch := omega) only [go_sem, ↓reduceIte, ↓put_at])
        · refine spec_of Tryz.func85 rfl Tryz.ntmps85 Tryz.results85 ⟨by decide, by simp⟩ fun C hC => ?_
          (repeat (first | refine aw_seq ?_ | refine aw_block ?_ | refine aw_reg hC (by kernel_rfl) ?_ | refine aw_regd hC Tryz.checked.mixed (by kernel_rfl) ?_ | refine chk_and (by kernel_rfl) ?_ | refine aw_skip ?_ | refine aw_if ?_ | refine And.intro (by first | omega | with_reducible assumption) ?_ | refine aw_exit ?_ | refine aw_ret ?_ | (simp (decide := true) (disch := omega) only [go_sem, ↓reduceIte, ↓put_at])))
          (refine ret_s [] ?_; simp (decide := true) (disch := omega) only [go_sem, ↓reduceIte, ↓put_at])
    · rw [decide_eq_false (fun h => g2 h.2.1)] at hM
      subst hM
      refine spec_of Tryz.func85 rfl Tryz.ntmps85 Tryz.results85 ⟨by decide, by simp⟩ fun C hC => ?_
      (repeat (first | refine aw_seq ?_ | refine aw_block ?_ | refine aw_reg hC (by kernel_rfl) ?_ | refine aw_regd hC Tryz.checked.mixed (by kernel_rfl) ?_ | refine chk_and (by kernel_rfl) ?_ | refine aw_skip ?_ | refine aw_if ?_ | refine And.intro (by first | omega | with_reducible assumption) ?_ | refine aw_exit ?_ | refine aw_ret ?_ | (simp (decide := true) (disch := omega) only [go_sem, ↓reduceIte, ↓put_at])))
      (refine ret_s [] ?_; simp (decide := true) (disch := omega) only [go_sem, ↓reduceIte, ↓put_at])
  · rw [decide_eq_false (fun h => g1 h.1)] at hM
    subst hM
    by_cases k : kd < 0
    · refine spec_of Tryz.func85 rfl Tryz.ntmps85 Tryz.results85 ⟨by decide, by simp⟩ fun C hC => ?_
      (repeat (first | refine aw_seq ?_ | refine aw_block ?_ | refine aw_reg hC (by kernel_rfl) ?_ | refine aw_regd hC Tryz.checked.mixed (by kernel_rfl) ?_ | refine chk_and (by kernel_rfl) ?_ | refine aw_skip ?_ | refine aw_if ?_ | refine And.intro (by first | omega | with_reducible assumption) ?_ | refine aw_exit ?_ | refine aw_ret ?_ | (simp (decide := true) (disch := omega) only [go_sem, ↓reduceIte, ↓put_at])))
      (refine ret_s [] ?_; simp (decide := true) (disch := omega) only [go_sem, ↓reduceIte, ↓put_at])
    · refine spec_of Tryz.func85 rfl Tryz.ntmps85 Tryz.results85 ⟨by decide, by simp⟩ fun C hC => ?_
      (repeat (first | refine aw_seq ?_ | refine aw_block ?_ | refine aw_reg hC (by kernel_rfl) ?_ | refine aw_regd hC Tryz.checked.mixed (by kernel_rfl) ?_ | refine chk_and (by kernel_rfl) ?_ | refine aw_skip ?_ | refine aw_if ?_ | refine And.intro (by first | omega | with_reducible assumption) ?_ | refine aw_exit ?_ | refine aw_ret ?_ | (simp (decide := true) (disch := omega) only [go_sem, ↓reduceIte, ↓put_at])))
      (refine ret_s [] ?_; simp (decide := true) (disch := omega) only [go_sem, ↓reduceIte, ↓put_at])
theorem zer_succ (k : Nat) : zer (k + 1) = zer k ++ [0] := List.replicate_succ'
set_option maxRecDepth 100000 in
set_option maxHeartbeats 8000000 in
theorem ref_pack4 (p : P4) (ho : p.Ok) (hl1 : p.ext.length ≤ maxLen) (hl3 : p.others.length ≤ maxLen) (hl2 : p.data.length ≤ 1099511627776) : Spec Tryz.prog 64 [.ca (.val (.agg (r4L p)))] [] (.ca (.val (vs (pack4 p)))) [] := by
  have c0 := ref_may4 p hl1 hl3
  cases hm : may4 p with
  | false =>
    have e : pack4 p = [] := by unfold pack4; rw [hm]; rfl
    rw [hm] at c0
    rw [e]
    clear hm e
    obtain ⟨mk, kd, sq, tm, sr, os, hx, pf, ex, da, pd⟩ := p
    refine spec_of Tryz.func64 rfl Tryz.ntmps64 Tryz.results64 ⟨by decide, by simp⟩ fun C hC => ?_
    (repeat (first | refine aw_seq ?_ | refine aw_block ?_ | refine aw_reg hC (by kernel_rfl) ?_ | refine aw_regd hC Tryz.checked.mixed (by kernel_rfl) ?_ | refine chk_and (by kernel_rfl) ?_ | refine aw_skip ?_ | refine aw_if ?_ | refine And.intro (by first | omega | with_reducible assumption) ?_ | refine aw_exit ?_ | refine aw_ret ?_ | (simp (decide := true) (disch := omega) only [go_sem, ↓reduceIte, ↓put_at])))
    refine call_s Tryz.call85 c0 [] ?_
    (repeat (first | refine aw_seq ?_ | refine aw_block ?_ | refine aw_reg hC (by kernel_rfl) ?_ | refine aw_regd hC Tryz.checked.mixed (by kernel_rfl) ?_ | refine chk_and (by kernel_rfl) ?_ | refine aw_skip ?_ | refine aw_if ?_ | refine And.intro (by first | omega | with_reducible assumption) ?_ | refine aw_exit ?_ | refine aw_ret ?_ | (simp (decide := true) (disch := omega) only [go_sem, ↓reduceIte, ↓put_at])))
    (refine ret_s [] ?_; simp (decide := true) (disch := omega) only [go_sem, ↓reduceIte, ↓put_at])
  | true =>
    rw [hm] at c0
    have e : pack4 p = body4 p := by unfold pack4; rw [if_pos hm]
    have hmm := (may4_iff p).1 hm
    have hf4 := first4_lt p hm
    have hg4 := second4_lt p hm
    rw [e]
    clear e hm
    obtain ⟨mk, kd, sq, tm, sr, os, hx, pf, ex, da, pd⟩ := p
    obtain ⟨o1, o2, o3, o4⟩ := ho
    dsimp only at hmm o1 o2 o3 o4 hl1 hl2 hl3
    obtain ⟨m1, m2, m3, m4, m5⟩ := hmm
    have hexl : ex.length ≤ 262140 := by
      cases hx with
      | true => rw [if_pos rfl] at m5; exact m5.2
      | false => rw [if_neg (by decide)] at m5; rw [m5.2]; simp
    obtain ⟨F, hF⟩ : ∃ F, F = first4 ⟨mk, kd, sq, tm, sr, os, hx, pf, ex, da, pd⟩ := ⟨_, rfl⟩
    obtain ⟨G, hG⟩ : ∃ G, G = second4 ⟨mk, kd, sq, tm, sr, os, hx, pf, ex, da, pd⟩ := ⟨_, rfl⟩
    obtain ⟨A, hA⟩ : ∃ A, A = putZ F 1 ++ putZ G 1 ++ putZ sq 2 ++ putZ tm 4 ++ putZ sr 4 := ⟨_, rfl⟩
    have hAl : A.length = 12 := by rw [hA]; simp only [List.length_append, putZ_length]
    have hbody : body4 ⟨mk, kd, sq, tm, sr, os, hx, pf, ex, da, pd⟩ = A ++ puts' 4 os ++ extB ⟨mk, kd, sq, tm, sr, os, hx, pf, ex, da, pd⟩ ++ da ++ tailB pd := by
      unfold body4
      rw [hA, ← hF, ← hG]
      simp [puts']
    rw [hbody]
    rw [← hF] at hf4
    rw [← hG] at hg4
    unfold first4 at hF
    unfold second4 at hG
    dsimp only at hF hG
    clear hbody
    have z1 := putZ_length F 1
    have z2 := putZ_length G 1
    have z3 := putZ_length sq 2
    have z4 := putZ_length tm 4
    have z5 := putZ_length sr 4
    refine spec_of Tryz.func64 rfl Tryz.ntmps64 Tryz.results64 ⟨by decide, by simp⟩ fun C hC => ?_
    (repeat (first | refine aw_seq ?_ | refine aw_block ?_ | refine aw_reg hC (by kernel_rfl) ?_ | refine aw_regd hC Tryz.checked.mixed (by kernel_rfl) ?_ | refine chk_and (by kernel_rfl) ?_ | refine aw_skip ?_ | refine aw_if ?_ | refine And.intro (by first | omega | with_reducible assumption) ?_ | refine aw_exit ?_ | refine aw_ret ?_ | (simp (decide := true) (disch := omega) only [go_sem, ↓reduceIte, ↓put_at])))
    refine call_s Tryz.call85 c0 [] ?_
    (repeat ((fail_if_success (refine stop_reg 5 ?_)); (first | refine aw_seq ?_ | refine aw_block ?_ | refine aw_reg hC (by kernel_rfl) ?_ | refine aw_regd hC Tryz.checked.mixed (by kernel_rfl) ?_ | refine chk_and (by kernel_rfl) ?_ | refine aw_skip ?_ | refine aw_if ?_ | refine And.intro (by first | omega | with_reducible assumption) ?_ | refine aw_exit ?_ | refine aw_ret ?_ | (simp (decide := true) (disch := omega) only [go_sem, ↓reduceIte, ↓put_at]))))
    refine meet_s (α := {_x : Unit // True}) (fun _ => [(.s 1, .av (.ptr (1, 0) 0 0)), (.o (1, 0), .num 11), (.c (1, 0) 0, .av (.val (vb mk))), (.c (1, 0) 1, .av (.val (vi kd))), (.c (1, 0) 2, .av (.val (vi sq))), (.c (1, 0) 3, .av (.val (vi tm))), (.c (1, 0) 4, .av (.val (vi sr))), (.c (1, 0) 5, .av (.val (.lst 1 (os.map intEl)))), (.c (1, 0) 6, .av (.val (vb hx))), (.c (1, 0) 7, .av (.val (vi pf))), (.c (1, 0) 8, .av (.val (vs ex))), (.c (1, 0) 9, .av (.val (vs da))), (.c (1, 0) 10, .av (.val (vi pd))), (.s 2, .av (.val (vs []))), (.s 3, .av (.val (vi (128 + os.length + if 0 < pd then 32 else 0)))), (.s 4, .av (.val (vi kd)))]) ?_ (fun x => ?_)
    · by_cases hp : 0 < pd
      · rw [if_pos hp]
        (repeat (first | refine aw_seq ?_ | refine aw_block ?_ | refine aw_reg hC (by kernel_rfl) ?_ | refine aw_regd hC Tryz.checked.mixed (by kernel_rfl) ?_ | refine chk_and (by kernel_rfl) ?_ | refine aw_skip ?_ | refine aw_if ?_ | refine And.intro (by first | omega | with_reducible assumption) ?_ | refine aw_exit ?_ | refine aw_ret ?_ | (simp (decide := true) (disch := omega) only [go_sem, ↓reduceIte, ↓put_at])))
        refine at_meet ⟨(), trivial⟩ ?_
        simp (decide := true) (disch := omega) only [go_sem, ↓reduceIte, ↓put_at]
      · rw [if_neg hp]
        (repeat (first | refine aw_seq ?_ | refine aw_block ?_ | refine aw_reg hC (by kernel_rfl) ?_ | refine aw_regd hC Tryz.checked.mixed (by kernel_rfl) ?_ | refine chk_and (by kernel_rfl) ?_ | refine aw_skip ?_ | refine aw_if ?_ | refine And.intro (by first | omega | with_reducible assumption) ?_ | refine aw_exit ?_ | refine aw_ret ?_ | (simp (decide := true) (disch := omega) only [go_sem, ↓reduceIte, ↓put_at])))
        refine at_meet ⟨(), trivial⟩ ?_
        simp (decide := true) (disch := omega) only [go_sem, ↓reduceIte, ↓put_at]
        all_goals (try omega)
    generalize hQ : (if 0 < pd then (32 : Int) else 0) = Q at *
    have hQ2 : 0 ≤ Q ∧ Q ≤ 32 := by rw [← hQ]; split <;> omega
    (repeat ((fail_if_success (refine stop_reg 7 ?_)); (first | refine aw_seq ?_ | refine aw_block ?_ | refine aw_reg hC (by kernel_rfl) ?_ | refine aw_regd hC Tryz.checked.mixed (by kernel_rfl) ?_ | refine chk_and (by kernel_rfl) ?_ | refine aw_skip ?_ | refine aw_if ?_ | refine And.intro (by first | omega | with_reducible assumption) ?_ | refine aw_exit ?_ | refine aw_ret ?_ | (simp (decide := true) (disch := omega) only [go_sem, ↓reduceIte, ↓put_at]))))
    refine meet_s (α := {_x : Unit // True}) (fun _ => [(.s 1, .av (.ptr (1, 0) 0 0)), (.o (1, 0), .num 11), (.c (1, 0) 0, .av (.val (vb mk))), (.c (1, 0) 1, .av (.val (vi kd))), (.c (1, 0) 2, .av (.val (vi sq))), (.c (1, 0) 3, .av (.val (vi tm))), (.c (1, 0) 4, .av (.val (vi sr))), (.c (1, 0) 5, .av (.val (.lst 1 (os.map intEl)))), (.c (1, 0) 6, .av (.val (vb hx))), (.c (1, 0) 7, .av (.val (vi pf))), (.c (1, 0) 8, .av (.val (vs ex))), (.c (1, 0) 9, .av (.val (vs da))), (.c (1, 0) 10, .av (.val (vi pd))), (.s 2, .av (.val (vs []))), (.s 3, .av (.val (vi F))), (.s 4, .av (.val (vi kd)))]) ?_ (fun x => ?_)
    · cases hx with
      | true =>
        rw [if_pos rfl] at hF
        (repeat (first | refine aw_seq ?_ | refine aw_block ?_ | refine aw_reg hC (by kernel_rfl) ?_ | refine aw_regd hC Tryz.checked.mixed (by kernel_rfl) ?_ | refine chk_and (by kernel_rfl) ?_ | refine aw_skip ?_ | refine aw_if ?_ | refine And.intro (by first | omega | with_reducible assumption) ?_ | refine aw_exit ?_ | refine aw_ret ?_ | (simp (decide := true) (disch := omega) only [go_sem, ↓reduceIte, ↓put_at])))
        refine at_meet ⟨(), trivial⟩ ?_
        rw [hF]
        simp (decide := true) (disch := omega) only [go_sem, ↓reduceIte, ↓put_at]
        all_goals (try omega)
      | false =>
        rw [if_neg (by decide)] at hF
        (repeat (first | refine aw_seq ?_ | refine aw_block ?_ | refine aw_reg hC (by kernel_rfl) ?_ | refine aw_regd hC Tryz.checked.mixed (by kernel_rfl) ?_ | refine chk_and (by kernel_rfl) ?_ | refine aw_skip ?_ | refine aw_if ?_ | refine And.intro (by first | omega | with_reducible assumption) ?_ | refine aw_exit ?_ | refine aw_ret ?_ | (simp (decide := true) (disch := omega) only [go_sem, ↓reduceIte, ↓put_at])))
        refine at_meet ⟨(), trivial⟩ ?_
        rw [hF]
        simp (decide := true) (disch := omega) only [go_sem, ↓reduceIte, ↓put_at]
        all_goals (try omega)
    (repeat ((fail_if_success (refine stop_reg 9 ?_)); (first | refine aw_seq ?_ | refine aw_block ?_ | refine aw_reg hC (by kernel_rfl) ?_ | refine aw_regd hC Tryz.checked.mixed (by kernel_rfl) ?_ | refine chk_and (by kernel_rfl) ?_ | refine aw_skip ?_ | refine aw_if ?_ | refine And.intro (by first | omega | with_reducible assumption) ?_ | refine aw_exit ?_ | refine aw_ret ?_ | (simp (decide := true) (disch := omega) only [go_sem, ↓reduceIte, ↓put_at]))))
    refine meet_s (α := {_x : Unit // True}) (fun _ => [(.s 1, .av (.ptr (1, 0) 0 0)), (.o (1, 0), .num 11), (.c (1, 0) 0, .av (.val (vb mk))), (.c (1, 0) 1, .av (.val (vi kd))), (.c (1, 0) 2, .av (.val (vi sq))), (.c (1, 0) 3, .av (.val (vi tm))), (.c (1, 0) 4, .av (.val (vi sr))), (.c (1, 0) 5, .av (.val (.lst 1 (os.map intEl)))), (.c (1, 0) 6, .av (.val (vb hx))), (.c (1, 0) 7, .av (.val (vi pf))), (.c (1, 0) 8, .av (.val (vs ex))), (.c (1, 0) 9, .av (.val (vs da))), (.c (1, 0) 10, .av (.val (vi pd))), (.s 2, .av (.val (vs []))), (.s 3, .av (.val (vi F))), (.s 4, .av (.val (vi G)))]) ?_ (fun x => ?_)
    · cases mk with
      | true =>
        rw [if_pos rfl] at hG
        (repeat (first | refine aw_seq ?_ | refine aw_block ?_ | refine aw_reg hC (by kernel_rfl) ?_ | refine aw_regd hC Tryz.checked.mixed (by kernel_rfl) ?_ | refine chk_and (by kernel_rfl) ?_ | refine aw_skip ?_ | refine aw_if ?_ | refine And.intro (by first | omega | with_reducible assumption) ?_ | refine aw_exit ?_ | refine aw_ret ?_ | (simp (decide := true) (disch := omega) only [go_sem, ↓reduceIte, ↓put_at])))
        refine at_meet ⟨(), trivial⟩ ?_
        rw [hG]
        simp (decide := true) (disch := omega) only [go_sem, ↓reduceIte, ↓put_at]
        all_goals (try omega)
      | false =>
        rw [if_neg (by decide)] at hG
        (repeat (first | refine aw_seq ?_ | refine aw_block ?_ | refine aw_reg hC (by kernel_rfl) ?_ | refine aw_regd hC Tryz.checked.mixed (by kernel_rfl) ?_ | refine chk_and (by kernel_rfl) ?_ | refine aw_skip ?_ | refine aw_if ?_ | refine And.intro (by first | omega | with_reducible assumption) ?_ | refine aw_exit ?_ | refine aw_ret ?_ | (simp (decide := true) (disch := omega) only [go_sem, ↓reduceIte, ↓put_at])))
        refine at_meet ⟨(), trivial⟩ ?_
        rw [hG]
        simp (decide := true) (disch := omega) only [go_sem, ↓reduceIte, ↓put_at]
        all_goals (try omega)
    clear hF hG
    (repeat (first | refine aw_seq ?_ | refine aw_block ?_ | refine aw_reg hC (by kernel_rfl) ?_ | refine aw_regd hC Tryz.checked.mixed (by kernel_rfl) ?_ | refine chk_and (by kernel_rfl) ?_ | refine aw_skip ?_ | refine aw_if ?_ | refine And.intro (by first | omega | with_reducible assumption) ?_ | refine aw_exit ?_ | refine aw_ret ?_ | (simp (decide := true) (disch := omega) only [go_sem, ↓reduceIte, ↓put_at])))
    refine call_s Tryz.call63 (q_put F 1 (by omega) (by decide)) [] ?_
    (repeat (first | refine aw_seq ?_ | refine aw_block ?_ | refine aw_reg hC (by kernel_rfl) ?_ | refine aw_regd hC Tryz.checked.mixed (by kernel_rfl) ?_ | refine chk_and (by kernel_rfl) ?_ | refine aw_skip ?_ | refine aw_if ?_ | refine And.intro (by first | omega | with_reducible assumption) ?_ | refine aw_exit ?_ | refine aw_ret ?_ | (simp (decide := true) (disch := omega) only [go_sem, ↓reduceIte, ↓put_at])))
    refine call_s Tryz.call63 (q_put G 1 (by omega) (by decide)) [] ?_
    (repeat (first | refine aw_seq ?_ | refine aw_block ?_ | refine aw_reg hC (by kernel_rfl) ?_ | refine aw_regd hC Tryz.checked.mixed (by kernel_rfl) ?_ | refine chk_and (by kernel_rfl) ?_ | refine aw_skip ?_ | refine aw_if ?_ | refine And.intro (by first | omega | with_reducible assumption) ?_ | refine aw_exit ?_ | refine aw_ret ?_ | (simp (decide := true) (disch := omega) only [go_sem, ↓reduceIte, ↓put_at])))
    refine call_s Tryz.call63 (q_put sq 2 (by omega) (by decide)) [] ?_
    (repeat (first | refine aw_seq ?_ | refine aw_block ?_ | refine aw_reg hC (by kernel_rfl) ?_ | refine aw_regd hC Tryz.checked.mixed (by kernel_rfl) ?_ | refine chk_and (by kernel_rfl) ?_ | refine aw_skip ?_ | refine aw_if ?_ | refine And.intro (by first | omega | with_reducible assumption) ?_ | refine aw_exit ?_ | refine aw_ret ?_ | (simp (decide := true) (disch := omega) only [go_sem, ↓reduceIte, ↓put_at])))
    refine call_s Tryz.call63 (q_put tm 4 (by omega) (by decide)) [] ?_
    (repeat (first | refine aw_seq ?_ | refine aw_block ?_ | refine aw_reg hC (by kernel_rfl) ?_ | refine aw_regd hC Tryz.checked.mixed (by kernel_rfl) ?_ | refine chk_and (by kernel_rfl) ?_ | refine aw_skip ?_ | refine aw_if ?_ | refine And.intro (by first | omega | with_reducible assumption) ?_ | refine aw_exit ?_ | refine aw_ret ?_ | (simp (decide := true) (disch := omega) only [go_sem, ↓reduceIte, ↓put_at])))
    refine call_s Tryz.call63 (q_put sr 4 (by omega) (by decide)) [] ?_
    (repeat (first | refine aw_seq ?_ | refine aw_block ?_ | refine aw_reg hC (by kernel_rfl) ?_ | refine aw_regd hC Tryz.checked.mixed (by kernel_rfl) ?_ | refine chk_and (by kernel_rfl) ?_ | refine aw_skip ?_ | refine aw_if ?_ | refine And.intro (by first | omega | with_reducible assumption) ?_ | refine aw_exit ?_ | refine aw_ret ?_ | (simp (decide := true) (disch := omega) only [go_sem, ↓reduceIte, ↓put_at])))
    rw [← hA]
    have hpl := fun j => puts'_length 4 (os.take j)
    refine loop_s (α := {j : Nat // j ≤ os.length}) (fun j => [(.s 1, .av (.ptr (1, 0) 0 0)), (.o (1, 0), .num 11), (.c (1, 0) 6, .av (.val (vb hx))), (.c (1, 0) 7, .av (.val (vi pf))), (.c (1, 0) 8, .av (.val (vs ex))), (.c (1, 0) 9, .av (.val (vs da))), (.c (1, 0) 10, .av (.val (vi pd))), (.s 5, .av (.val (vs (A ++ puts' 4 (os.take j.1))))), (.s 49, .av (.val (.lst 1 (os.map intEl)))), (.s 50, .av (.val (vi os.length))), (.s 51, .av (.val (vi j.1)))]) (fun j => os.length - j.1) ⟨0, Nat.zero_le _⟩ ?_ (fun j => ?_)
    · simp only [List.take_zero, puts', List.flatMap_nil, List.append_nil]
      simp (decide := true) (disch := omega) only [go_sem, ↓reduceIte, ↓put_at]
    · obtain ⟨j, hj⟩ := j
      dsimp only at hj ⊢
      have hpj := hpl j
      rw [List.length_take, Nat.min_eq_left hj] at hpj
      by_cases hlt : j < os.length
      · have hs : os.take (j + 1) = os.take j ++ [os[j]] := List.take_succ_eq_append_getElem hlt
        have o5 := o4 _ (List.getElem_mem hlt)
        have z6 := putZ_length os[j] 4
        (repeat (first | refine aw_seq ?_ | refine aw_block ?_ | refine aw_reg hC (by kernel_rfl) ?_ | refine aw_regd hC Tryz.checked.mixed (by kernel_rfl) ?_ | refine chk_and (by kernel_rfl) ?_ | refine aw_skip ?_ | refine aw_if ?_ | refine And.intro (by first | omega | with_reducible assumption) ?_ | refine aw_exit ?_ | refine aw_ret ?_ | (simp (decide := true) (disch := omega) only [go_sem, ↓reduceIte, ↓put_at])))
        refine call_s Tryz.call63 (q_put os[j] 4 (by omega) (by decide)) [] ?_
        (repeat (first | refine aw_seq ?_ | refine aw_block ?_ | refine aw_reg hC (by kernel_rfl) ?_ | refine aw_regd hC Tryz.checked.mixed (by kernel_rfl) ?_ | refine chk_and (by kernel_rfl) ?_ | refine aw_skip ?_ | refine aw_if ?_ | refine And.intro (by first | omega | with_reducible assumption) ?_ | refine aw_exit ?_ | refine aw_ret ?_ | (simp (decide := true) (disch := omega) only [go_sem, ↓reduceIte, ↓put_at])))
        refine next_s ⟨j + 1, hlt⟩ ⟨?_, by dsimp only; omega⟩
        rw [hs, puts'_snoc]
        simp (decide := true) (disch := omega) only [go_sem, ↓reduceIte, ↓put_at]
        try simp
      · have hjo : os.take j = os := List.take_of_length_le (by omega)
        have hjl : j = os.length := by omega
        rw [hjo] at hpj ⊢
        obtain ⟨B, hB⟩ : ∃ B, B = A ++ puts' 4 os := ⟨_, rfl⟩
        have hBl : B.length ≤ 72 := by rw [hB, List.length_append]; omega
        rw [← hB]
        clear hB
        have hxl : (extB ⟨mk, kd, sq, tm, sr, os, hx, pf, ex, da, pd⟩).length ≤ 262144 := by
          unfold extB
          split
          · simp only [List.length_append, puts'_length, List.length_cons, List.length_nil]; omega
          · simp
        (repeat ((fail_if_success (refine stop_reg 17 ?_)); (first | refine aw_seq ?_ | refine aw_block ?_ | refine aw_reg hC (by kernel_rfl) ?_ | refine aw_regd hC Tryz.checked.mixed (by kernel_rfl) ?_ | refine chk_and (by kernel_rfl) ?_ | refine aw_skip ?_ | refine aw_if ?_ | refine And.intro (by first | omega | with_reducible assumption) ?_ | refine aw_exit ?_ | refine aw_ret ?_ | (simp (decide := true) (disch := omega) only [go_sem, ↓reduceIte, ↓put_at]))))
        refine meet_s (α := {_x : Unit // True}) (fun _ => [(.s 1, .av (.ptr (1, 0) 0 0)), (.o (1, 0), .num 11), (.c (1, 0) 9, .av (.val (vs da))), (.c (1, 0) 10, .av (.val (vi pd))), (.s 5, .av (.val (vs (B ++ extB ⟨mk, kd, sq, tm, sr, os, hx, pf, ex, da, pd⟩))))]) ?_ (fun x => ?_)
        · cases hx with
          | true =>
            have e1 : extB ⟨mk, kd, sq, tm, sr, os, true, pf, ex, da, pd⟩ = putZ pf 2 ++ putZ ((ex.length : Int) / 4) 2 ++ ex := by
              unfold extB
              rw [if_pos rfl]
              simp [puts', Int.natCast_ediv]
            have z6 := putZ_length pf 2
            have z7 := putZ_length ((ex.length : Int) / 4) 2
            (repeat (first | refine aw_seq ?_ | refine aw_block ?_ | refine aw_reg hC (by kernel_rfl) ?_ | refine aw_regd hC Tryz.checked.mixed (by kernel_rfl) ?_ | refine chk_and (by kernel_rfl) ?_ | refine aw_skip ?_ | refine aw_if ?_ | refine And.intro (by first | omega | with_reducible assumption) ?_ | refine aw_exit ?_ | refine aw_ret ?_ | (simp (decide := true) (disch := omega) only [go_sem, ↓reduceIte, ↓put_at])))
            refine call_s Tryz.call63 (q_put pf 2 (by omega) (by decide)) [] ?_
            (repeat (first | refine aw_seq ?_ | refine aw_block ?_ | refine aw_reg hC (by kernel_rfl) ?_ | refine aw_regd hC Tryz.checked.mixed (by kernel_rfl) ?_ | refine chk_and (by kernel_rfl) ?_ | refine aw_skip ?_ | refine aw_if ?_ | refine And.intro (by first | omega | with_reducible assumption) ?_ | refine aw_exit ?_ | refine aw_ret ?_ | (simp (decide := true) (disch := omega) only [go_sem, ↓reduceIte, ↓put_at])))
            refine call_s Tryz.call63 (q_put ((ex.length : Int) / 4) 2 (by omega) (by decide)) [] ?_
            (repeat (first | refine aw_seq ?_ | refine aw_block ?_ | refine aw_reg hC (by kernel_rfl) ?_ | refine aw_regd hC Tryz.checked.mixed (by kernel_rfl) ?_ | refine chk_and (by kernel_rfl) ?_ | refine aw_skip ?_ | refine aw_if ?_ | refine And.intro (by first | omega | with_reducible assumption) ?_ | refine aw_exit ?_ | refine aw_ret ?_ | (simp (decide := true) (disch := omega) only [go_sem, ↓reduceIte, ↓put_at])))
            refine at_meet ⟨(), trivial⟩ ?_
            rw [e1]
            simp (decide := true) (disch := omega) only [go_sem, ↓reduceIte, ↓put_at]
          | false =>
            have e1 : extB ⟨mk, kd, sq, tm, sr, os, false, pf, ex, da, pd⟩ = [] := rfl
            (repeat (first | refine aw_seq ?_ | refine aw_block ?_ | refine aw_reg hC (by kernel_rfl) ?_ | refine aw_regd hC Tryz.checked.mixed (by kernel_rfl) ?_ | refine chk_and (by kernel_rfl) ?_ | refine aw_skip ?_ | refine aw_if ?_ | refine And.intro (by first | omega | with_reducible assumption) ?_ | refine aw_exit ?_ | refine aw_ret ?_ | (simp (decide := true) (disch := omega) only [go_sem, ↓reduceIte, ↓put_at])))
            refine at_meet ⟨(), trivial⟩ ?_
            rw [e1, List.append_nil]
            simp (decide := true) (disch := omega) only [go_sem, ↓reduceIte, ↓put_at]
        generalize extB ⟨mk, kd, sq, tm, sr, os, hx, pf, ex, da, pd⟩ = X at *
        obtain ⟨D, hD⟩ : ∃ D, D = B ++ X ++ da := ⟨_, rfl⟩
        have hDl : D.length ≤ 1099512000000 := by rw [hD]; simp only [List.length_append]; omega
        rw [← hD]
        (repeat (first | refine aw_seq ?_ | refine aw_block ?_ | refine aw_reg hC (by kernel_rfl) ?_ | refine aw_regd hC Tryz.checked.mixed (by kernel_rfl) ?_ | refine chk_and (by kernel_rfl) ?_ | refine aw_skip ?_ | refine aw_if ?_ | refine And.intro (by first | omega | with_reducible assumption) ?_ | refine aw_exit ?_ | refine aw_ret ?_ | (simp (decide := true) (disch := omega) only [go_sem, ↓reduceIte, ↓put_at])))
        simp only [← List.append_assoc, ← hD]
        refine loop_s (α := {j : Nat // (j : Int) < pd ∨ j = 0 ∨ (j : Int) + 1 = pd}) (fun j => [(.s 1, .av (.ptr (1, 0) 0 0)), (.o (1, 0), .num 11), (.c (1, 0) 10, .av (.val (vi pd))), (.s 5, .av (.val (vs (D ++ zer j.1)))), (.s 8, .av (.val (vi ((j.1 : Int) + 1))))]) (fun j => pd.toNat - j.1) ⟨0, .inr (.inl rfl)⟩ ?_ (fun j => ?_)
        · simp only [zer, List.replicate_zero, List.append_nil]
          simp (decide := true) (disch := omega) only [go_sem, ↓reduceIte, ↓put_at]
        · obtain ⟨j, hj⟩ := j
          dsimp only at hj ⊢
          have hzl := zer_len j
          by_cases hlt : (j : Int) + 1 < pd
          · have hzs := zer_succ j
            (repeat (first | refine aw_seq ?_ | refine aw_block ?_ | refine aw_reg hC (by kernel_rfl) ?_ | refine aw_regd hC Tryz.checked.mixed (by kernel_rfl) ?_ | refine chk_and (by kernel_rfl) ?_ | refine aw_skip ?_ | refine aw_if ?_ | refine And.intro (by first | omega | with_reducible assumption) ?_ | refine aw_exit ?_ | refine aw_ret ?_ | (simp (decide := true) (disch := omega) only [go_sem, ↓reduceIte, ↓put_at])))
            refine next_s ⟨j + 1, by omega⟩ ⟨?_, by dsimp only; omega⟩
            rw [hzs]
            simp (decide := true) (disch := omega) only [go_sem, ↓reduceIte, ↓put_at]
            try simp
          · by_cases hp : 0 < pd
            · have et : tailB pd = zer j ++ putZ pd 1 := by
                unfold tailB zer
                rw [if_pos hp, show (pd - 1).toNat = j by omega]
              have z8 := putZ_length pd 1
              rw [et]
              (repeat (first | refine aw_seq ?_ | refine aw_block ?_ | refine aw_reg hC (by kernel_rfl) ?_ | refine aw_regd hC Tryz.checked.mixed (by kernel_rfl) ?_ | refine chk_and (by kernel_rfl) ?_ | refine aw_skip ?_ | refine aw_if ?_ | refine And.intro (by first | omega | with_reducible assumption) ?_ | refine aw_exit ?_ | refine aw_ret ?_ | (simp (decide := true) (disch := omega) only [go_sem, ↓reduceIte, ↓put_at])))
              refine call_s Tryz.call63 (q_put pd 1 (by omega) (by decide)) [] ?_
              (repeat (first | refine aw_seq ?_ | refine aw_block ?_ | refine aw_reg hC (by kernel_rfl) ?_ | refine aw_regd hC Tryz.checked.mixed (by kernel_rfl) ?_ | refine chk_and (by kernel_rfl) ?_ | refine aw_skip ?_ | refine aw_if ?_ | refine And.intro (by first | omega | with_reducible assumption) ?_ | refine aw_exit ?_ | refine aw_ret ?_ | (simp (decide := true) (disch := omega) only [go_sem, ↓reduceIte, ↓put_at])))
              (refine ret_s [] ?_; simp (decide := true) (disch := omega) only [go_sem, ↓reduceIte, ↓put_at])
              try simp
            · have et : tailB pd = [] := by unfold tailB; rw [if_neg hp]
              obtain rfl : j = 0 := by omega
              rw [et]
              (repeat (first | refine aw_seq ?_ | refine aw_block ?_ | refine aw_reg hC (by kernel_rfl) ?_ | refine aw_regd hC Tryz.checked.mixed (by kernel_rfl) ?_ | refine chk_and (by kernel_rfl) ?_ | refine aw_skip ?_ | refine aw_if ?_ | refine And.intro (by first | omega | with_reducible assumption) ?_ | refine aw_exit ?_ | refine aw_ret ?_ | (simp (decide := true) (disch := omega) only [go_sem, ↓reduceIte, ↓put_at])))
              (refine ret_s [] ?_; simp (decide := true) (disch := omega) only [go_sem, ↓reduceIte, ↓put_at])
              try simp [zer]
end Go.Proofs.YtojcjbaimdjhoaaGreatDoor
namespace Go.Proofs.YtojcjbaimdjhoaaGreatDoor
open Go.RowKit
set_option linter.unusedVariables false
set_option linter.unusedSimpArgs false

theorem zer_iff (d : List UInt8) (a m : Nat) (h : a + m ≤ d.length) : (d.drop a).take m = List.replicate m 0 ↔ ∀ k, a ≤ k → k < a + m → (d.getD k 0).toNat = 0 := by
  have hl : ((d.drop a).take m).length = m := by rw [List.length_take, List.length_drop]; omega
  constructor
  · intro he k h1 h2
    have : ((d.drop a).take m)[k - a]? = some 0 := by rw [he, List.getElem?_replicate, if_pos (by omega)]
    rw [List.getElem?_take_of_lt (by omega), List.getElem?_drop, show a + (k - a) = k by omega] at this
    rw [List.getD_eq_getElem?_getD, this]
    rfl
  · intro he
    refine List.eq_replicate_iff.2 ⟨hl, fun x hx => ?_⟩
    obtain ⟨i, hi, rfl⟩ := List.mem_iff_getElem.1 hx
    rw [hl] at hi
    have := he (a + i) (by omega) (by omega)
    rw [List.getD_eq_getElem?_getD, List.getElem?_eq_getElem (by omega)] at this
    rw [List.getElem_take, List.getElem_drop]
    exact UInt8.toNat_inj.1 (by simpa using this)
theorem sl_eq (s : List UInt8) (a b : Int) (m k : Nat) (h1 : a = m) (h2 : b = (m + k : Nat)) : (s.drop a.toNat).take (b.toNat - a.toNat) = (s.drop m).take k := by
  rw [show a.toNat = m by omega, show b.toNat - m = k by omega]
set_option maxRecDepth 100000 in
set_option maxHeartbeats 16000000 in
theorem ref_parse4 (s : List UInt8) (hl : s.length ≤ 1099511627776) : Spec Tryz.prog 21 [.ca (.val (vs s))] [] (.ca (.val (.tup [.agg (r4L (parse4 s).1), vi (parse4 s).2]))) [] := by
  obtain ⟨R, hR⟩ : ∃ R, R = parse4 s := ⟨_, rfl⟩
  rw [← hR]
  unfold parse4 at hR
  by_cases h12 : s.length < 12
  · rw [if_pos h12] at hR
    subst hR
    unfold no4
    refine spec_of Tryz.func21 rfl Tryz.ntmps21 Tryz.results21 ⟨by decide, by simp⟩ fun C hC => ?_
    (repeat (first | refine aw_seq ?_ | refine aw_block ?_ | refine aw_reg hC (by kernel_rfl) ?_ | refine aw_regd hC Tryz.checked.mixed (by kernel_rfl) ?_ | refine chk_and (by kernel_rfl) ?_ | refine aw_skip ?_ | refine aw_if ?_ | refine And.intro (by first | omega | with_reducible assumption) ?_ | refine aw_exit ?_ | refine aw_ret ?_ | (simp (decide := true) (disch := omega) only [go_sem, ↓reduceIte, ↓put_at])))
    (refine ret_s [] ?_; simp (decide := true) (disch := omega) only [go_sem, ↓reduceIte, ↓put_at])
  rw [if_neg h12] at hR
  have hb0 : b0 s < 256 := UInt8.toNat_lt _
  have hb1 : b1 s < 256 := UInt8.toNat_lt _
  have v0 : (s.getD 0 0).toNat = b0 s := rfl
  have v1 : (s.getD 1 0).toNat = b1 s := rfl
  by_cases h64 : b0 s / 64 ≠ 2
  · rw [if_pos h64] at hR
    subst hR
    unfold no4
    have h64' : (b0 s : Int) / 64 ≠ 2 := by omega
    refine spec_of Tryz.func21 rfl Tryz.ntmps21 Tryz.results21 ⟨by decide, by simp⟩ fun C hC => ?_
    (repeat (first | refine aw_seq ?_ | refine aw_block ?_ | refine aw_reg hC (by kernel_rfl) ?_ | refine aw_regd hC Tryz.checked.mixed (by kernel_rfl) ?_ | refine chk_and (by kernel_rfl) ?_ | refine aw_skip ?_ | refine aw_if ?_ | refine And.intro (by first | omega | with_reducible assumption) ?_ | refine aw_exit ?_ | refine aw_ret ?_ | (simp (decide := true) (disch := omega) only [go_sem, ↓reduceIte, ↓put_at])))
    simp only [v0, v1]
    (repeat (first | refine aw_seq ?_ | refine aw_block ?_ | refine aw_reg hC (by kernel_rfl) ?_ | refine aw_regd hC Tryz.checked.mixed (by kernel_rfl) ?_ | refine chk_and (by kernel_rfl) ?_ | refine aw_skip ?_ | refine aw_if ?_ | refine And.intro (by first | omega | with_reducible assumption) ?_ | refine aw_exit ?_ | refine aw_ret ?_ | (simp (decide := true) (disch := omega) only [go_sem, ↓reduceIte, ↓put_at])))
    (refine ret_s [] ?_; simp (decide := true) (disch := omega) only [go_sem, ↓reduceIte, ↓put_at])
  rw [if_neg h64] at hR
  have h64' : (b0 s : Int) / 64 = 2 := by omega
  obtain ⟨N, hN⟩ : ∃ N, N = b0 s % 16 := ⟨_, rfl⟩
  have hoth : oth s = 12 + 4 * N := by unfold oth; rw [hN]
  have c2 := q_get ((s.drop 2).take 2) (by rw [List.length_take]; omega)
  have c3 := q_get ((s.drop 4).take 4) (by rw [List.length_take]; omega)
  have c4 := q_get ((s.drop 8).take 4) (by rw [List.length_take]; omega)
  refine spec_of Tryz.func21 rfl Tryz.ntmps21 Tryz.results21 ⟨by decide, by simp⟩ fun C hC => ?_
  (repeat (first | refine aw_seq ?_ | refine aw_block ?_ | refine aw_reg hC (by kernel_rfl) ?_ | refine aw_regd hC Tryz.checked.mixed (by kernel_rfl) ?_ | refine chk_and (by kernel_rfl) ?_ | refine aw_skip ?_ | refine aw_if ?_ | refine And.intro (by first | omega | with_reducible assumption) ?_ | refine aw_exit ?_ | refine aw_ret ?_ | (simp (decide := true) (disch := omega) only [go_sem, ↓reduceIte, ↓put_at])))
  simp only [v0, v1]
  (repeat (first | refine aw_seq ?_ | refine aw_block ?_ | refine aw_reg hC (by kernel_rfl) ?_ | refine aw_regd hC Tryz.checked.mixed (by kernel_rfl) ?_ | refine chk_and (by kernel_rfl) ?_ | refine aw_skip ?_ | refine aw_if ?_ | refine And.intro (by first | omega | with_reducible assumption) ?_ | refine aw_exit ?_ | refine aw_ret ?_ | (simp (decide := true) (disch := omega) only [go_sem, ↓reduceIte, ↓put_at])))
  refine call_s Tryz.call23 c2 [] ?_
  (repeat (first | refine aw_seq ?_ | refine aw_block ?_ | refine aw_reg hC (by kernel_rfl) ?_ | refine aw_regd hC Tryz.checked.mixed (by kernel_rfl) ?_ | refine chk_and (by kernel_rfl) ?_ | refine aw_skip ?_ | refine aw_if ?_ | refine And.intro (by first | omega | with_reducible assumption) ?_ | refine aw_exit ?_ | refine aw_ret ?_ | (simp (decide := true) (disch := omega) only [go_sem, ↓reduceIte, ↓put_at])))
  refine call_s Tryz.call23 c3 [] ?_
  (repeat (first | refine aw_seq ?_ | refine aw_block ?_ | refine aw_reg hC (by kernel_rfl) ?_ | refine aw_regd hC Tryz.checked.mixed (by kernel_rfl) ?_ | refine chk_and (by kernel_rfl) ?_ | refine aw_skip ?_ | refine aw_if ?_ | refine And.intro (by first | omega | with_reducible assumption) ?_ | refine aw_exit ?_ | refine aw_ret ?_ | (simp (decide := true) (disch := omega) only [go_sem, ↓reduceIte, ↓put_at])))
  refine call_s Tryz.call23 c4 [] ?_
  (repeat ((fail_if_success (refine stop_reg 10 ?_)); (first | refine aw_seq ?_ | refine aw_block ?_ | refine aw_reg hC (by kernel_rfl) ?_ | refine aw_regd hC Tryz.checked.mixed (by kernel_rfl) ?_ | refine chk_and (by kernel_rfl) ?_ | refine aw_skip ?_ | refine aw_if ?_ | refine And.intro (by first | omega | with_reducible assumption) ?_ | refine aw_exit ?_ | refine aw_ret ?_ | (simp (decide := true) (disch := omega) only [go_sem, ↓reduceIte, ↓put_at]))))
  refine own_c (6, 0) 5 (6, 6) 3 1 ?_
  simp (decide := true) (disch := omega) only [go_sem, ↓reduceIte, ↓put_at]
  refine loop_s (α := {j : Nat // j ≤ N ∧ 12 + 4 * j ≤ s.length}) (fun j => [(.s 0, .av (.val (vs s))), (.s 2, .av (.ptr (2, 0) 0 0)), (.o (2, 0), .num 11), (.s 4, .av (.val (vi (b0 s)))), (.s 6, .av (.ptr (6, 0) 0 0)), (.o (6, 0), .num 11), (.c (6, 0) 0, .av (.val (vb (decide (128 ≤ b1 s))))), (.c (6, 0) 1, .av (.val (vi (b1 s % 128 : Nat)))), (.c (6, 0) 2, .av (.val (vi (getN ((s.drop 2).take 2))))), (.c (6, 0) 3, .av (.val (vi (getN ((s.drop 4).take 4))))), (.c (6, 0) 4, .av (.val (vi (getN ((s.drop 8).take 4))))), (.c (6, 0) 5, .av (.own (6, 6) 0 3 1 ((wds j.1 (s.drop 12)).map intEl))), (.k (6, 6), .row 3 1 ((wds j.1 (s.drop 12)).map intEl).length), (.c (6, 0) 6, .av (.val (vb (hasX s)))), (.c (6, 0) 7, .av (.val (vi 0))), (.c (6, 0) 8, .av (.val (vs []))), (.c (6, 0) 9, .av (.val (vs []))), (.c (6, 0) 10, .av (.val (vi 0))), (.s 7, .av (.val (vi (12 + 4 * (j.1 : Int))))), (.s 8, .av (.val (vi j.1)))]) (fun j => N - j.1) ⟨0, Nat.zero_le _, by omega⟩ ?_ (fun j => ?_)
  · simp (decide := true) (disch := omega) only [go_sem, ↓reduceIte, ↓put_at]
    refine ⟨decide_eq_decide.2 (by omega), by omega, rfl, rfl, ?_⟩
    unfold hasX
    by_cases h : b0 s / 16 % 2 = 1
    · rw [decide_eq_true h, show (b0 s : Int) / 16 % 2 = 1 by omega]; rfl
    · rw [decide_eq_false h, show (b0 s : Int) / 16 % 2 = 0 by omega]; rfl
  · obtain ⟨j, hj, hjl⟩ := j
    dsimp only at hj hjl ⊢
    have hwl := wds_len j (s.drop 12)
    have hNb : (b0 s : Int) % 16 = N := by omega
    by_cases hlt : j < N
    · by_cases h4 : 12 + 4 * j + 4 ≤ s.length
      · have hsc := wds_succ j (s.drop 12)
        have c5 := q_get ((s.drop (12 + 4 * j)).take 4) (by rw [List.length_take]; omega)
        have e5 := sl_eq s (12 + 4 * (j : Int)) (12 + 4 * (j : Int) + 4) (12 + 4 * j) 4 (by omega) (by omega)
        rw [List.drop_drop] at hsc
        (repeat (first | refine aw_seq ?_ | refine aw_block ?_ | refine aw_reg hC (by kernel_rfl) ?_ | refine aw_regd hC Tryz.checked.mixed (by kernel_rfl) ?_ | refine chk_and (by kernel_rfl) ?_ | refine aw_skip ?_ | refine aw_if ?_ | refine And.intro (by first | omega | with_reducible assumption) ?_ | refine aw_exit ?_ | refine aw_ret ?_ | (simp (decide := true) (disch := omega) only [go_sem, ↓reduceIte, ↓put_at])))
        simp only [e5]
        refine call_s Tryz.call23 c5 [] ?_
        (repeat (first | refine aw_seq ?_ | refine aw_block ?_ | refine aw_reg hC (by kernel_rfl) ?_ | refine aw_regd hC Tryz.checked.mixed (by kernel_rfl) ?_ | refine chk_and (by kernel_rfl) ?_ | refine aw_skip ?_ | refine aw_if ?_ | refine And.intro (by first | omega | with_reducible assumption) ?_ | refine aw_exit ?_ | refine aw_ret ?_ | (simp (decide := true) (disch := omega) only [go_sem, ↓reduceIte, ↓put_at])))
        refine next_s ⟨j + 1, hlt, by omega⟩ ⟨?_, by dsimp only; omega⟩
        rw [hsc, List.map_append]
        simp (decide := true) (disch := omega) only [go_sem, ↓reduceIte, ↓put_at]
        all_goals (try omega)
      · have hR2 : R = (no4, 2) := by rw [hR, if_pos (by omega)]
        subst hR2
        unfold no4
        (repeat (first | refine aw_seq ?_ | refine aw_block ?_ | refine aw_reg hC (by kernel_rfl) ?_ | refine aw_regd hC Tryz.checked.mixed (by kernel_rfl) ?_ | refine chk_and (by kernel_rfl) ?_ | refine aw_skip ?_ | refine aw_if ?_ | refine And.intro (by first | omega | with_reducible assumption) ?_ | refine aw_exit ?_ | refine aw_ret ?_ | (simp (decide := true) (disch := omega) only [go_sem, ↓reduceIte, ↓put_at])))
        (refine ret_s [] ?_; simp (decide := true) (disch := omega) only [go_sem, ↓reduceIte, ↓put_at])
    · have hjN : j = N := by omega
      subst hjN
      have hR1 := hR
      rw [if_neg (by omega)] at hR1
      have hbx : (base4 s).profile = if hasX s = true then (getN ((s.drop (oth s)).take 2) : Int) else 0 := rfl
      have hbe : (base4 s).ext = if hasX s = true then (s.drop (oth s + 4)).take (xlen s) else [] := rfl
      (repeat ((fail_if_success (refine stop_reg 16 ?_)); (first | refine aw_seq ?_ | refine aw_block ?_ | refine aw_reg hC (by kernel_rfl) ?_ | refine aw_regd hC Tryz.checked.mixed (by kernel_rfl) ?_ | refine chk_and (by kernel_rfl) ?_ | refine aw_skip ?_ | refine aw_if ?_ | refine And.intro (by first | omega | with_reducible assumption) ?_ | refine aw_exit ?_ | refine aw_ret ?_ | (simp (decide := true) (disch := omega) only [go_sem, ↓reduceIte, ↓put_at]))))
      refine meet_s (α := {_x : Unit // ¬ (hasX s = true ∧ (s.length < oth s + 4 ∨ s.length < atD s))}) (fun x => [(.s 0, .av (.val (vs s))), (.s 2, .av (.ptr (2, 0) 0 0)), (.o (2, 0), .num 11), (.s 4, .av (.val (vi (b0 s)))), (.s 6, .av (.ptr (6, 0) 0 0)), (.o (6, 0), .num 11), (.c (6, 0) 0, .av (.val (vb (decide (128 ≤ b1 s))))), (.c (6, 0) 1, .av (.val (vi (b1 s % 128 : Nat)))), (.c (6, 0) 2, .av (.val (vi (getN ((s.drop 2).take 2))))), (.c (6, 0) 3, .av (.val (vi (getN ((s.drop 4).take 4))))), (.c (6, 0) 4, .av (.val (vi (getN ((s.drop 8).take 4))))), (.c (6, 0) 5, .av (.own (6, 6) 0 3 1 ((wds j (s.drop 12)).map intEl))), (.k (6, 6), .row 3 1 ((wds j (s.drop 12)).map intEl).length), (.c (6, 0) 6, .av (.val (vb (hasX s)))), (.c (6, 0) 7, .av (.val (vi (base4 s).profile))), (.c (6, 0) 8, .av (.val (vs (base4 s).ext))), (.c (6, 0) 9, .av (.val (vs []))), (.c (6, 0) 10, .av (.val (vi 0))), (.s 7, .av (.val (vi (atD s))))]) ?_ (fun x => ?_)
      · cases hx : hasX s with
        | true =>
          rw [hx, if_pos rfl] at hbx hbe
          rw [hx] at hR1
          by_cases h4 : s.length < oth s + 4
          · have hR2 : R = (no4, 2) := by rw [hR1, if_pos ⟨rfl, h4⟩]
            subst hR2
            unfold no4
            (repeat (first | refine aw_seq ?_ | refine aw_block ?_ | refine aw_reg hC (by kernel_rfl) ?_ | refine aw_regd hC Tryz.checked.mixed (by kernel_rfl) ?_ | refine chk_and (by kernel_rfl) ?_ | refine aw_skip ?_ | refine aw_if ?_ | refine And.intro (by first | omega | with_reducible assumption) ?_ | refine aw_exit ?_ | refine aw_ret ?_ | (simp (decide := true) (disch := omega) only [go_sem, ↓reduceIte, ↓put_at])))
            (refine ret_s [] ?_; simp (decide := true) (disch := omega) only [go_sem, ↓reduceIte, ↓put_at])
          · rw [if_neg (fun h => h4 h.2)] at hR1
            have hat : atD s = oth s + 4 + xlen s := by unfold atD; rw [if_pos hx]
            have c5 := q_get ((s.drop (oth s)).take 2) (by rw [List.length_take]; omega)
            have c6 := q_get ((s.drop (oth s + 2)).take 2) (by rw [List.length_take]; omega)
            have hxl : (xlen s : Int) = 4 * getN ((s.drop (oth s + 2)).take 2) := by unfold xlen; omega
            have hg := getN_lt ((s.drop (oth s + 2)).take 2)
            have hg2 : ((s.drop (oth s + 2)).take 2).length = 2 := by rw [List.length_take, List.length_drop]; omega
            rw [hg2, show (256 : Nat) ^ 2 = 65536 by decide] at hg
            rw [hoth] at c5 c6 hxl hg hat
            have f1 := sl_eq s (12 + 4 * (j : Int)) (12 + 4 * (j : Int) + 2) (12 + 4 * j) 2 (by omega) (by omega)
            have f2 := sl_eq s (12 + 4 * (j : Int) + 2) (12 + 4 * (j : Int) + 4) (12 + 4 * j + 2) 2 (by omega) (by omega)
            (repeat (first | refine aw_seq ?_ | refine aw_block ?_ | refine aw_reg hC (by kernel_rfl) ?_ | refine aw_regd hC Tryz.checked.mixed (by kernel_rfl) ?_ | refine chk_and (by kernel_rfl) ?_ | refine aw_skip ?_ | refine aw_if ?_ | refine And.intro (by first | omega | with_reducible assumption) ?_ | refine aw_exit ?_ | refine aw_ret ?_ | (simp (decide := true) (disch := omega) only [go_sem, ↓reduceIte, ↓put_at])))
            simp only [f1]
            refine call_s Tryz.call23 c5 [] ?_
            (repeat (first | refine aw_seq ?_ | refine aw_block ?_ | refine aw_reg hC (by kernel_rfl) ?_ | refine aw_regd hC Tryz.checked.mixed (by kernel_rfl) ?_ | refine chk_and (by kernel_rfl) ?_ | refine aw_skip ?_ | refine aw_if ?_ | refine And.intro (by first | omega | with_reducible assumption) ?_ | refine aw_exit ?_ | refine aw_ret ?_ | (simp (decide := true) (disch := omega) only [go_sem, ↓reduceIte, ↓put_at])))
            simp only [f2]
            refine call_s Tryz.call23 c6 [] ?_
            (repeat (first | refine aw_seq ?_ | refine aw_block ?_ | refine aw_reg hC (by kernel_rfl) ?_ | refine aw_regd hC Tryz.checked.mixed (by kernel_rfl) ?_ | refine chk_and (by kernel_rfl) ?_ | refine aw_skip ?_ | refine aw_if ?_ | refine And.intro (by first | omega | with_reducible assumption) ?_ | refine aw_exit ?_ | refine aw_ret ?_ | (simp (decide := true) (disch := omega) only [go_sem, ↓reduceIte, ↓put_at])))
            rw [← hxl]
            by_cases h5 : s.length < atD s
            · have hR2 : R = (no4, 2) := by rw [hR1, if_pos ⟨rfl, h5⟩]
              subst hR2
              unfold no4
              (repeat (first | refine aw_seq ?_ | refine aw_block ?_ | refine aw_reg hC (by kernel_rfl) ?_ | refine aw_regd hC Tryz.checked.mixed (by kernel_rfl) ?_ | refine chk_and (by kernel_rfl) ?_ | refine aw_skip ?_ | refine aw_if ?_ | refine And.intro (by first | omega | with_reducible assumption) ?_ | refine aw_exit ?_ | refine aw_ret ?_ | (simp (decide := true) (disch := omega) only [go_sem, ↓reduceIte, ↓put_at])))
              (refine ret_s [] ?_; simp (decide := true) (disch := omega) only [go_sem, ↓reduceIte, ↓put_at])
            · have f3 := sl_eq s (12 + 4 * (j : Int) + 4) (12 + 4 * (j : Int) + 4 + (xlen s : Int)) (12 + 4 * j + 4) (xlen s) (by omega) (by omega)
              have n1 : ¬ (true = true ∧ s.length < 12 + 4 * j + 4) := fun h => h4 (by omega)
              have n2 : ¬ (true = true ∧ s.length < atD s) := fun h => h5 h.2
              (repeat (first | refine aw_seq ?_ | refine aw_block ?_ | refine aw_reg hC (by kernel_rfl) ?_ | refine aw_regd hC Tryz.checked.mixed (by kernel_rfl) ?_ | refine chk_and (by kernel_rfl) ?_ | refine aw_skip ?_ | refine aw_if ?_ | refine And.intro (by first | omega | with_reducible assumption) ?_ | refine aw_exit ?_ | refine aw_ret ?_ | (simp (decide := true) (disch := omega) only [go_sem, ↓reduceIte, ↓put_at])))
              simp only [f3]
              (repeat (first | refine aw_seq ?_ | refine aw_block ?_ | refine aw_reg hC (by kernel_rfl) ?_ | refine aw_regd hC Tryz.checked.mixed (by kernel_rfl) ?_ | refine chk_and (by kernel_rfl) ?_ | refine aw_skip ?_ | refine aw_if ?_ | refine And.intro (by first | omega | with_reducible assumption) ?_ | refine aw_exit ?_ | refine aw_ret ?_ | (simp (decide := true) (disch := omega) only [go_sem, ↓reduceIte, ↓put_at])))
              refine at_meet ⟨(), by omega⟩ ?_
              rw [hbx, hbe, hat]
              simp (decide := true) (disch := omega) only [go_sem, ↓reduceIte, ↓put_at]
              rw [hoth]
              exact ⟨rfl, rfl, by omega⟩
        | false =>
          rw [hx, if_neg (by decide)] at hbx hbe
          have hat : atD s = oth s := by unfold atD; rw [hx]; rfl
          (repeat (first | refine aw_seq ?_ | refine aw_block ?_ | refine aw_reg hC (by kernel_rfl) ?_ | refine aw_regd hC Tryz.checked.mixed (by kernel_rfl) ?_ | refine chk_and (by kernel_rfl) ?_ | refine aw_skip ?_ | refine aw_if ?_ | refine And.intro (by first | omega | with_reducible assumption) ?_ | refine aw_exit ?_ | refine aw_ret ?_ | (simp (decide := true) (disch := omega) only [go_sem, ↓reduceIte, ↓put_at])))
          refine at_meet ⟨(), by simp⟩ ?_
          rw [hbx, hbe, hat]
          simp (decide := true) (disch := omega) only [go_sem, ↓reduceIte, ↓put_at]
          all_goals (try omega)
      · obtain ⟨_, hx1⟩ := x
        have hx2 : atD s ≤ s.length := by
          by_cases hx : hasX s = true
          · exact Nat.le_of_not_lt fun h => hx1 ⟨hx, .inr h⟩
          · unfold atD; rw [if_neg hx]; omega
        rw [if_neg (fun h => hx1 ⟨h.1, .inl h.2⟩), if_neg (fun h => hx1 ⟨h.1, .inr h.2⟩)] at hR1
        clear hR hbx hbe
        have hbase : base4 s = ⟨decide (128 ≤ b1 s), (b1 s % 128 : Nat), getN ((s.drop 2).take 2), getN ((s.drop 4).take 4), getN ((s.drop 8).take 4), wds j (s.drop 12), hasX s, (base4 s).profile, (base4 s).ext, s.drop (atD s), 0⟩ := by
          rw [hN]; rfl
        rw [hbase] at hR1
        generalize (base4 s).profile = PF at *
        generalize (base4 s).ext = EX at *
        generalize wds j (s.drop 12) = WW at *
        have hdl : (s.drop (atD s)).length ≤ 1099511627776 := by rw [List.length_drop]; omega
        have hat : ((atD s : Nat) : Int).toNat = atD s := by omega
        generalize hD : s.drop (atD s) = D at *
        (repeat ((fail_if_success (refine stop_reg 27 ?_)); (first | refine aw_seq ?_ | refine aw_block ?_ | refine aw_reg hC (by kernel_rfl) ?_ | refine aw_regd hC Tryz.checked.mixed (by kernel_rfl) ?_ | refine chk_and (by kernel_rfl) ?_ | refine aw_skip ?_ | refine aw_if ?_ | refine And.intro (by first | omega | with_reducible assumption) ?_ | refine aw_exit ?_ | refine aw_ret ?_ | (simp (decide := true) (disch := omega) only [go_sem, ↓reduceIte, ↓put_at]))))
        refine weak_s [(.s 2, .av (.ptr (2, 0) 0 0)), (.o (2, 0), .num 11), (.s 4, .av (.val (vi (b0 s)))), (.s 6, .av (.ptr (6, 0) 0 0)), (.o (6, 0), .num 11), (.c (6, 0) 0, .av (.val (vb (decide (128 ≤ b1 s))))), (.c (6, 0) 1, .av (.val (vi (b1 s % 128 : Nat)))), (.c (6, 0) 2, .av (.val (vi (getN ((s.drop 2).take 2))))), (.c (6, 0) 3, .av (.val (vi (getN ((s.drop 4).take 4))))), (.c (6, 0) 4, .av (.val (vi (getN ((s.drop 8).take 4))))), (.c (6, 0) 5, .av (.val (.lst 1 (WW.map intEl)))), (.c (6, 0) 6, .av (.val (vb (hasX s)))), (.c (6, 0) 7, .av (.val (vi PF))), (.c (6, 0) 8, .av (.val (vs EX))), (.c (6, 0) 9, .av (.val (vs D))), (.c (6, 0) 10, .av (.val (vi 0)))] (by rw [← hD]; simp (decide := true) (disch := omega) only [go_sem, ↓reduceIte, ↓put_at]) ?_
        refine meet_s (α := {_x : Unit // b0 s / 32 % 2 = 1 → ¬ padBad D}) (fun x => [(.s 2, .av (.ptr (2, 0) 0 0)), (.o (2, 0), .num 11), (.s 4, .av (.val (vi (b0 s)))), (.s 6, .av (.ptr (6, 0) 0 0)), (.o (6, 0), .num 11), (.c (6, 0) 0, .av (.val (vb (decide (128 ≤ b1 s))))), (.c (6, 0) 1, .av (.val (vi (b1 s % 128 : Nat)))), (.c (6, 0) 2, .av (.val (vi (getN ((s.drop 2).take 2))))), (.c (6, 0) 3, .av (.val (vi (getN ((s.drop 4).take 4))))), (.c (6, 0) 4, .av (.val (vi (getN ((s.drop 8).take 4))))), (.c (6, 0) 5, .av (.val (.lst 1 (WW.map intEl)))), (.c (6, 0) 6, .av (.val (vb (hasX s)))), (.c (6, 0) 7, .av (.val (vi PF))), (.c (6, 0) 8, .av (.val (vs EX))), (.c (6, 0) 9, .av (.val (vs (if b0 s / 32 % 2 = 1 then D.take (D.length - lastB D) else D)))), (.c (6, 0) 10, .av (.val (vi (if b0 s / 32 % 2 = 1 then (lastB D : Int) else 0))))]) ?_ (fun x => ?_)
        · by_cases h32 : b0 s / 32 % 2 = 1
          · have h32' : (b0 s : Int) / 32 % 2 = 1 := by omega
            rw [if_pos h32] at hR1
            by_cases hd0 : D = []
            · have hb : (D == []) = true := by simpa using hd0
              rw [if_pos (.inl hd0)] at hR1
              subst hR1
              unfold no4
              (repeat (first | refine aw_seq ?_ | refine aw_block ?_ | refine aw_reg hC (by kernel_rfl) ?_ | refine aw_regd hC Tryz.checked.mixed (by kernel_rfl) ?_ | refine chk_and (by kernel_rfl) ?_ | refine aw_skip ?_ | refine aw_if ?_ | refine And.intro (by first | omega | with_reducible assumption) ?_ | refine aw_exit ?_ | refine aw_ret ?_ | (simp (decide := true) (disch := omega) only [go_sem, ↓reduceIte, ↓put_at])))
              simp only [hb]
              (repeat (first | refine aw_seq ?_ | refine aw_block ?_ | refine aw_reg hC (by kernel_rfl) ?_ | refine aw_regd hC Tryz.checked.mixed (by kernel_rfl) ?_ | refine chk_and (by kernel_rfl) ?_ | refine aw_skip ?_ | refine aw_if ?_ | refine And.intro (by first | omega | with_reducible assumption) ?_ | refine aw_exit ?_ | refine aw_ret ?_ | (simp (decide := true) (disch := omega) only [go_sem, ↓reduceIte, ↓put_at])))
              (refine ret_s [] ?_; simp (decide := true) (disch := omega) only [go_sem, ↓reduceIte, ↓put_at])
            · have hb : (D == []) = false := by simpa using hd0
              have hd1 : 0 < D.length := List.length_pos_iff.2 hd0
              obtain ⟨n, hn⟩ : ∃ n, n = lastB D := ⟨_, rfl⟩
              have hn2 : (D.getD (D.length - 1) 0).toNat = n := hn.symm
              have hn256 : n < 256 := by rw [hn]; exact UInt8.toNat_lt _
              have ei : ((D.length : Int) - 1).toNat = D.length - 1 := by omega
              by_cases h0 : n = 0
              · rw [if_pos (.inr (.inl (by omega)))] at hR1
                subst hR1
                unfold no4
                (repeat (first | refine aw_seq ?_ | refine aw_block ?_ | refine aw_reg hC (by kernel_rfl) ?_ | refine aw_regd hC Tryz.checked.mixed (by kernel_rfl) ?_ | refine chk_and (by kernel_rfl) ?_ | refine aw_skip ?_ | refine aw_if ?_ | refine And.intro (by first | omega | with_reducible assumption) ?_ | refine aw_exit ?_ | refine aw_ret ?_ | (simp (decide := true) (disch := omega) only [go_sem, ↓reduceIte, ↓put_at])))
                simp only [hb]
                (repeat (first | refine aw_seq ?_ | refine aw_block ?_ | refine aw_reg hC (by kernel_rfl) ?_ | refine aw_regd hC Tryz.checked.mixed (by kernel_rfl) ?_ | refine chk_and (by kernel_rfl) ?_ | refine aw_skip ?_ | refine aw_if ?_ | refine And.intro (by first | omega | with_reducible assumption) ?_ | refine aw_exit ?_ | refine aw_ret ?_ | (simp (decide := true) (disch := omega) only [go_sem, ↓reduceIte, ↓put_at])))
                simp only [ei, hn2]
                (repeat (first | refine aw_seq ?_ | refine aw_block ?_ | refine aw_reg hC (by kernel_rfl) ?_ | refine aw_regd hC Tryz.checked.mixed (by kernel_rfl) ?_ | refine chk_and (by kernel_rfl) ?_ | refine aw_skip ?_ | refine aw_if ?_ | refine And.intro (by first | omega | with_reducible assumption) ?_ | refine aw_exit ?_ | refine aw_ret ?_ | (simp (decide := true) (disch := omega) only [go_sem, ↓reduceIte, ↓put_at])))
                (refine ret_s [] ?_; simp (decide := true) (disch := omega) only [go_sem, ↓reduceIte, ↓put_at])
              by_cases h1 : D.length < n
              · rw [if_pos (.inr (.inr (.inl (by omega))))] at hR1
                subst hR1
                unfold no4
                (repeat (first | refine aw_seq ?_ | refine aw_block ?_ | refine aw_reg hC (by kernel_rfl) ?_ | refine aw_regd hC Tryz.checked.mixed (by kernel_rfl) ?_ | refine chk_and (by kernel_rfl) ?_ | refine aw_skip ?_ | refine aw_if ?_ | refine And.intro (by first | omega | with_reducible assumption) ?_ | refine aw_exit ?_ | refine aw_ret ?_ | (simp (decide := true) (disch := omega) only [go_sem, ↓reduceIte, ↓put_at])))
                simp only [hb]
                (repeat (first | refine aw_seq ?_ | refine aw_block ?_ | refine aw_reg hC (by kernel_rfl) ?_ | refine aw_regd hC Tryz.checked.mixed (by kernel_rfl) ?_ | refine chk_and (by kernel_rfl) ?_ | refine aw_skip ?_ | refine aw_if ?_ | refine And.intro (by first | omega | with_reducible assumption) ?_ | refine aw_exit ?_ | refine aw_ret ?_ | (simp (decide := true) (disch := omega) only [go_sem, ↓reduceIte, ↓put_at])))
                simp only [ei, hn2]
                (repeat (first | refine aw_seq ?_ | refine aw_block ?_ | refine aw_reg hC (by kernel_rfl) ?_ | refine aw_regd hC Tryz.checked.mixed (by kernel_rfl) ?_ | refine chk_and (by kernel_rfl) ?_ | refine aw_skip ?_ | refine aw_if ?_ | refine And.intro (by first | omega | with_reducible assumption) ?_ | refine aw_exit ?_ | refine aw_ret ?_ | (simp (decide := true) (disch := omega) only [go_sem, ↓reduceIte, ↓put_at])))
                (refine ret_s [] ?_; simp (decide := true) (disch := omega) only [go_sem, ↓reduceIte, ↓put_at])
              have hzi := zer_iff D (D.length - n) (n - 1) (by omega)
              have hnp : ¬ D.length - n + (n - 1) < D.length - 1 := by omega
              (repeat (first | refine aw_seq ?_ | refine aw_block ?_ | refine aw_reg hC (by kernel_rfl) ?_ | refine aw_regd hC Tryz.checked.mixed (by kernel_rfl) ?_ | refine chk_and (by kernel_rfl) ?_ | refine aw_skip ?_ | refine aw_if ?_ | refine And.intro (by first | omega | with_reducible assumption) ?_ | refine aw_exit ?_ | refine aw_ret ?_ | (simp (decide := true) (disch := omega) only [go_sem, ↓reduceIte, ↓put_at])))
              simp only [hb]
              (repeat (first | refine aw_seq ?_ | refine aw_block ?_ | refine aw_reg hC (by kernel_rfl) ?_ | refine aw_regd hC Tryz.checked.mixed (by kernel_rfl) ?_ | refine chk_and (by kernel_rfl) ?_ | refine aw_skip ?_ | refine aw_if ?_ | refine And.intro (by first | omega | with_reducible assumption) ?_ | refine aw_exit ?_ | refine aw_ret ?_ | (simp (decide := true) (disch := omega) only [go_sem, ↓reduceIte, ↓put_at])))
              simp only [ei, hn2]
              (repeat ((fail_if_success (refine stop_reg 34 ?_)); (first | refine aw_seq ?_ | refine aw_block ?_ | refine aw_reg hC (by kernel_rfl) ?_ | refine aw_regd hC Tryz.checked.mixed (by kernel_rfl) ?_ | refine chk_and (by kernel_rfl) ?_ | refine aw_skip ?_ | refine aw_if ?_ | refine And.intro (by first | omega | with_reducible assumption) ?_ | refine aw_exit ?_ | refine aw_ret ?_ | (simp (decide := true) (disch := omega) only [go_sem, ↓reduceIte, ↓put_at]))))
              refine loop_s (α := {j : Nat // j ≤ n - 1 ∧ ∀ k, D.length - n ≤ k → k < D.length - n + j → (D.getD k 0).toNat = 0}) (fun j => [(.s 2, .av (.ptr (2, 0) 0 0)), (.o (2, 0), .num 11), (.s 4, .av (.val (vi (b0 s)))), (.s 6, .av (.ptr (6, 0) 0 0)), (.o (6, 0), .num 11), (.c (6, 0) 0, .av (.val (vb (decide (128 ≤ b1 s))))), (.c (6, 0) 1, .av (.val (vi (b1 s % 128 : Nat)))), (.c (6, 0) 2, .av (.val (vi (getN ((s.drop 2).take 2))))), (.c (6, 0) 3, .av (.val (vi (getN ((s.drop 4).take 4))))), (.c (6, 0) 4, .av (.val (vi (getN ((s.drop 8).take 4))))), (.c (6, 0) 5, .av (.val (.lst 1 (WW.map intEl)))), (.c (6, 0) 6, .av (.val (vb (hasX s)))), (.c (6, 0) 7, .av (.val (vi PF))), (.c (6, 0) 8, .av (.val (vs EX))), (.c (6, 0) 9, .av (.val (vs D))), (.c (6, 0) 10, .av (.val (vi 0))), (.s 10, .av (.val (vi n))), (.s 11, .av (.val (vi ((D.length - n + j.1 : Nat) : Int))))]) (fun j => n - j.1) ⟨0, Nat.zero_le _, fun k h1 h2 => by omega⟩ ?_ (fun j => ?_)
              · simp (decide := true) (disch := omega) only [go_sem, ↓reduceIte, ↓put_at]
                all_goals (try omega)
              · obtain ⟨j, hj, hz⟩ := j
                dsimp only at hj ⊢
                by_cases hlt : j < n - 1
                · have ek : ((D.length - n + j : Nat) : Int).toNat = D.length - n + j := by omega
                  by_cases hk : (D.getD (D.length - n + j) 0).toNat = 0
                  · (repeat (first | refine aw_seq ?_ | refine aw_block ?_ | refine aw_reg hC (by kernel_rfl) ?_ | refine aw_regd hC Tryz.checked.mixed (by kernel_rfl) ?_ | refine chk_and (by kernel_rfl) ?_ | refine aw_skip ?_ | refine aw_if ?_ | refine And.intro (by first | omega | with_reducible assumption) ?_ | refine aw_exit ?_ | refine aw_ret ?_ | (simp (decide := true) (disch := omega) only [go_sem, ↓reduceIte, ↓put_at])))
                    refine next_s (α := {j : Nat // j ≤ n - 1 ∧ ∀ k, D.length - n ≤ k → k < D.length - n + j → (D.getD k 0).toNat = 0}) ⟨j + 1, by omega, fun k h1 h2 => if h : k < D.length - n + j then hz k h1 h else by rw [show k = D.length - n + j by omega]; exact hk⟩ ⟨?_, by dsimp only; omega⟩
                    simp (decide := true) (disch := omega) only [go_sem, ↓reduceIte, ↓put_at]
                    all_goals (try omega)
                  · rw [if_pos (.inr (.inr (.inr (by rw [← hn]; exact fun h => hk (hzi.1 h _ (by omega) (by omega))))))] at hR1
                    subst hR1
                    unfold no4
                    (repeat (first | refine aw_seq ?_ | refine aw_block ?_ | refine aw_reg hC (by kernel_rfl) ?_ | refine aw_regd hC Tryz.checked.mixed (by kernel_rfl) ?_ | refine chk_and (by kernel_rfl) ?_ | refine aw_skip ?_ | refine aw_if ?_ | refine And.intro (by first | omega | with_reducible assumption) ?_ | refine aw_exit ?_ | refine aw_ret ?_ | (simp (decide := true) (disch := omega) only [go_sem, ↓reduceIte, ↓put_at])))
                    (refine ret_s [] ?_; simp (decide := true) (disch := omega) only [go_sem, ↓reduceIte, ↓put_at])
                · have hjn : j = n - 1 := by omega
                  have hgood : ¬ padBad D := by
                    unfold padBad
                    rw [← hn]
                    rintro (h | h | h | h)
                    · exact hd0 h
                    · exact h0 h
                    · exact h1 h
                    · exact h (hzi.2 fun k a b => hz k a (by omega))
                  have en : ((D.length : Int) - (n : Int)).toNat = D.length - n := by omega
                  (repeat (first | refine aw_seq ?_ | refine aw_block ?_ | refine aw_reg hC (by kernel_rfl) ?_ | refine aw_regd hC Tryz.checked.mixed (by kernel_rfl) ?_ | refine chk_and (by kernel_rfl) ?_ | refine aw_skip ?_ | refine aw_if ?_ | refine And.intro (by first | omega | with_reducible assumption) ?_ | refine aw_exit ?_ | refine aw_ret ?_ | (simp (decide := true) (disch := omega) only [go_sem, ↓reduceIte, ↓put_at])))
                  refine at_meet ⟨(), fun _ => hgood⟩ ?_
                  rw [if_pos h32, if_pos h32, ← hn]
                  simp (decide := true) (disch := omega) only [go_sem, ↓reduceIte, ↓put_at]
                  all_goals (try simp only [en])
          · have h32' : (b0 s : Int) / 32 % 2 ≠ 1 := by omega
            (repeat (first | refine aw_seq ?_ | refine aw_block ?_ | refine aw_reg hC (by kernel_rfl) ?_ | refine aw_regd hC Tryz.checked.mixed (by kernel_rfl) ?_ | refine chk_and (by kernel_rfl) ?_ | refine aw_skip ?_ | refine aw_if ?_ | refine And.intro (by first | omega | with_reducible assumption) ?_ | refine aw_exit ?_ | refine aw_ret ?_ | (simp (decide := true) (disch := omega) only [go_sem, ↓reduceIte, ↓put_at])))
            refine at_meet ⟨(), fun h => absurd h h32⟩ ?_
            rw [if_neg h32, if_neg h32]
            simp (decide := true) (disch := omega) only [go_sem, ↓reduceIte, ↓put_at]
        · obtain ⟨_, hgood⟩ := x
          by_cases h32 : b0 s / 32 % 2 = 1
          · rw [if_pos h32, if_neg (hgood h32)] at hR1
            rw [if_pos h32, if_pos h32]
            subst hR1
            (repeat (first | refine aw_seq ?_ | refine aw_block ?_ | refine aw_reg hC (by kernel_rfl) ?_ | refine aw_regd hC Tryz.checked.mixed (by kernel_rfl) ?_ | refine chk_and (by kernel_rfl) ?_ | refine aw_skip ?_ | refine aw_if ?_ | refine And.intro (by first | omega | with_reducible assumption) ?_ | refine aw_exit ?_ | refine aw_ret ?_ | (simp (decide := true) (disch := omega) only [go_sem, ↓reduceIte, ↓put_at])))
            (refine ret_s [] ?_; simp (decide := true) (disch := omega) only [go_sem, ↓reduceIte, ↓put_at])
          · rw [if_neg h32] at hR1
            rw [if_neg h32, if_neg h32]
            subst hR1
            (repeat (first | refine aw_seq ?_ | refine aw_block ?_ | refine aw_reg hC (by kernel_rfl) ?_ | refine aw_regd hC Tryz.checked.mixed (by kernel_rfl) ?_ | refine chk_and (by kernel_rfl) ?_ | refine aw_skip ?_ | refine aw_if ?_ | refine And.intro (by first | omega | with_reducible assumption) ?_ | refine aw_exit ?_ | refine aw_ret ?_ | (simp (decide := true) (disch := omega) only [go_sem, ↓reduceIte, ↓put_at])))
            (refine ret_s [] ?_; simp (decide := true) (disch := omega) only [go_sem, ↓reduceIte, ↓put_at])
end Go.Proofs.YtojcjbaimdjhoaaGreatDoor
namespace Go.Proofs.YtojcjbaimdjhoaaGreatDoor
open Go.RowKit
set_option linter.unusedVariables false
set_option linter.unusedSimpArgs false

def cut4 (p : P4) : P4 := { p with others := p.others.take 17, ext := p.ext.take 60, data := p.data.take 60 }
end Go.Proofs.YtojcjbaimdjhoaaGreatDoor
