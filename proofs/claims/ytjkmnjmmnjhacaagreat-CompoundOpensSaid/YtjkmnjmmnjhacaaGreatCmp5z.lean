/- The document's layer 12: What, Check; walked. -/
import Derived.Test.YtjkmnjmmnjhacaaGreatCmp3z
import Derived.Test.YtjkmnjmmnjhacaaGreatSub4z
import Derived.Test.YtjkmnjmmnjhacaaGreatQReport5z
import Derived.Test.YtjkmnjmmnjhacaaGreatQLaw07z
namespace Go.Proofs.YtjkmnjmmnjhacaaGreat
open Go.RowKit
set_option linter.unusedVariables false
set_option linter.unusedSimpArgs false

theorem short_s {P : Program} {C : Ctx} {σ : St} {Q : Exit → St → Prop} {c : Code} (L : List (Pl × X)) (hx : weakF σ L) (h : AW P C c (mkSt L) Q) : AW P C c σ Q := aw_weak L (weakF_ok hx) h
set_option maxRecDepth 100000 in
set_option maxHeartbeats 16000000 in
theorem ref_what (p : Pc) (hp : p.2.2.length ≤ 100000) : Spec Tryz.prog 23 [.ca (.val (pcV p))] [] (.ca (.val (vi (whatP p)))) [] := by
  have hp2 : p.2.2.length ≤ maxLen := by unfold maxLen; omega
  have a0 := ref_of8 p hp2
  have a1 := ref_tonames9 p hp
  have a2 := ref_tobye9 p hp2
  have a3 := ref_toapp9 p hp2
  have a4 := ref_nack10 p hp2
  have a5 := ref_lines11 p hp2
  have a6 := ref_ads11 p hp2
  obtain ⟨w, hw⟩ : ∃ w, w = whatP p := ⟨_, rfl⟩
  rw [← hw]
  unfold whatP at hw
  generalize ofE p = e0 at *
  generalize namesE p = e1 at *
  generalize byeE p = e2 at *
  generalize appE p = e3 at *
  generalize nackE p = e4 at *
  generalize linesE p = e5 at *
  generalize adsE p = e6 at *
  simp only [ne_eq, ← List.length_eq_zero_iff (l := namesR p)] at hw
  generalize namesR p = nr at *
  generalize appR p = ar at *
  obtain ⟨r1, r2, r3, r4⟩ := ar
  unfold csum at hw
  dsimp only at hw
  refine spec_of Tryz.func23 rfl Tryz.ntmps23 Tryz.results23 ⟨by decide, by simp⟩ fun C hC => ?_
  (repeat' ((fail_if_success (first | refine stop_at 2 ?_ | refine stop_l 2 ?_)); (first | refine sp_ ?_ | exact ex0 | refine call_u Tryz.call48 (a0) [] ex1 ?_ | (refine ret_s [] ?_; simp (decide := true) (disch := omega) only [go_sem, ↓reduceIte, ↓put_at]))))
  refine short_s [(.s 1, .av (.ptr (1, 0) 0 0)), (.o (1, 0), .num 3), (.c (1, 0) 0, .av (.val (vi p.1))), (.c (1, 0) 1, .av (.val (vi p.2.1))), (.c (1, 0) 2, .av (.val (vs p.2.2))), (.s 2, .av (.val (vi 0))), (.s 4, .av (.val (vi e0)))] (by simp (decide := true) (disch := omega) only [go_sem, ↓reduceIte, ↓put_at]) ?_
  by_cases hh : e0 = 0
  · rw [if_pos hh] at hw
    subst hw
    (repeat' ((first | refine sp_ ?_ | exact ex0 | (refine ret_s [] ?_; simp (decide := true) (disch := omega) only [go_sem, ↓reduceIte, ↓put_at]))))
  rw [if_neg hh] at hw
  (repeat' ((fail_if_success (first | refine stop_at 5 ?_ | refine stop_l 5 ?_)); (first | refine sp_ ?_ | exact ex0 | refine call_u Tryz.call49 (a1) [] ex1 ?_ | (refine ret_s [] ?_; simp (decide := true) (disch := omega) only [go_sem, ↓reduceIte, ↓put_at]))))
  refine short_s [(.s 1, .av (.ptr (1, 0) 0 0)), (.o (1, 0), .num 3), (.c (1, 0) 0, .av (.val (vi p.1))), (.c (1, 0) 1, .av (.val (vi p.2.1))), (.c (1, 0) 2, .av (.val (vs p.2.2))), (.s 2, .av (.val (vi 0))), (.s 5, .av (.val (.lst 2 (nr.map zn9El)))), (.s 6, .av (.val (vi e1)))] (by simp (decide := true) (disch := omega) only [go_sem, ↓reduceIte, ↓put_at]) ?_
  by_cases hq : e1 = 0 ∧ ¬ nr.length = 0
  · rw [if_pos hq] at hw
    subst hw
    obtain ⟨q1, q2⟩ := hq
    have q3 : 0 < nr.length := by omega
    (repeat' ((first | refine sp_ ?_ | exact ex0 | (refine ret_s [] ?_; simp (decide := true) (disch := omega) only [go_sem, ↓reduceIte, ↓put_at]))))
  rw [if_neg hq] at hw
  refine meet_s (α := {_x : Unit // True}) (fun _ => [(.s 1, .av (.ptr (1, 0) 0 0)), (.o (1, 0), .num 3), (.c (1, 0) 0, .av (.val (vi p.1))), (.c (1, 0) 1, .av (.val (vi p.2.1))), (.c (1, 0) 2, .av (.val (vs p.2.2))), (.s 2, .av (.val (vi 0))), (.s 39, .av (.val (vb false)))]) ?_ (fun x => ?_)
  · by_cases q1 : e1 = 0
    · have q2 : nr.length = 0 := by omega
      (repeat' ((first | refine sp_ ?_ | exact ex0 | (refine ret_s [] ?_; simp (decide := true) (disch := omega) only [go_sem, ↓reduceIte, ↓put_at]))))
      refine at_meet ⟨(), trivial⟩ ?_
      simp (decide := true) (disch := omega) only [go_sem, ↓reduceIte, ↓put_at]
    · (repeat' ((first | refine sp_ ?_ | exact ex0 | (refine ret_s [] ?_; simp (decide := true) (disch := omega) only [go_sem, ↓reduceIte, ↓put_at]))))
      refine at_meet ⟨(), trivial⟩ ?_
      simp (decide := true) (disch := omega) only [go_sem, ↓reduceIte, ↓put_at]
  clear hq x
  (repeat' ((fail_if_success (first | refine stop_at 8 ?_ | refine stop_l 8 ?_)); (first | refine sp_ ?_ | exact ex0 | refine call_u Tryz.call50 (a2) [] ex1 ?_ | (refine ret_s [] ?_; simp (decide := true) (disch := omega) only [go_sem, ↓reduceIte, ↓put_at]))))
  refine short_s [(.s 1, .av (.ptr (1, 0) 0 0)), (.o (1, 0), .num 3), (.c (1, 0) 0, .av (.val (vi p.1))), (.c (1, 0) 1, .av (.val (vi p.2.1))), (.c (1, 0) 2, .av (.val (vs p.2.2))), (.s 2, .av (.val (vi 0))), (.s 8, .av (.val (vi e2)))] (by simp (decide := true) (disch := omega) only [go_sem, ↓reduceIte, ↓put_at]) ?_
  by_cases hh : e2 = 0
  · rw [if_pos hh] at hw
    subst hw
    (repeat' ((first | refine sp_ ?_ | exact ex0 | (refine ret_s [] ?_; simp (decide := true) (disch := omega) only [go_sem, ↓reduceIte, ↓put_at]))))
  rw [if_neg hh] at hw
  (repeat' ((fail_if_success (first | refine stop_at 11 ?_ | refine stop_l 11 ?_)); (first | refine sp_ ?_ | exact ex0 | refine call_u Tryz.call51 (a3) [] ex1 ?_ | (refine ret_s [] ?_; simp (decide := true) (disch := omega) only [go_sem, ↓reduceIte, ↓put_at]))))
  refine short_s [(.s 1, .av (.ptr (1, 0) 0 0)), (.o (1, 0), .num 3), (.c (1, 0) 0, .av (.val (vi p.1))), (.c (1, 0) 1, .av (.val (vi p.2.1))), (.c (1, 0) 2, .av (.val (vs p.2.2))), (.s 2, .av (.val (vi 0))), (.s 9, .av (.ptr (9, 0) 0 0)), (.o (9, 0), .num 4), (.c (9, 0) 2, .av (.val (vs r3))), (.s 10, .av (.val (vi e3)))] (by simp (decide := true) (disch := omega) only [go_sem, ↓reduceIte, ↓put_at]) ?_
  by_cases hq : e3 = 0 ∧ ¬ r3 = [99, 115, 117, 109]
  · rw [if_pos hq] at hw
    subst hw
    obtain ⟨q1, q2⟩ := hq
    have hbe : (r3 == [99, 115, 117, 109]) = false := by simpa using q2
    (repeat' ((first | refine sp_ ?_ | exact ex0 | (refine ret_s [] ?_; simp (decide := true) (disch := omega) only [go_sem, ↓reduceIte, ↓put_at]))))
    simp only [hbe, Bool.not_false]
    (repeat' ((first | refine sp_ ?_ | exact ex0 | (refine ret_s [] ?_; simp (decide := true) (disch := omega) only [go_sem, ↓reduceIte, ↓put_at]))))
  rw [if_neg hq] at hw
  refine meet_s (α := {_x : Unit // True}) (fun _ => [(.s 1, .av (.ptr (1, 0) 0 0)), (.o (1, 0), .num 3), (.c (1, 0) 0, .av (.val (vi p.1))), (.c (1, 0) 1, .av (.val (vi p.2.1))), (.c (1, 0) 2, .av (.val (vs p.2.2))), (.s 2, .av (.val (vi 0))), (.s 58, .av (.val (vb false)))]) ?_ (fun x => ?_)
  · by_cases q1 : e3 = 0
    · have q2 : r3 = [99, 115, 117, 109] := Classical.byContradiction fun h => hq ⟨q1, h⟩
      subst q2
      (repeat' ((first | refine sp_ ?_ | exact ex0 | (refine ret_s [] ?_; simp (decide := true) (disch := omega) only [go_sem, ↓reduceIte, ↓put_at]))))
      refine at_meet ⟨(), trivial⟩ ?_
      simp (decide := true) (disch := omega) only [go_sem, ↓reduceIte, ↓put_at]
    · (repeat' ((first | refine sp_ ?_ | exact ex0 | (refine ret_s [] ?_; simp (decide := true) (disch := omega) only [go_sem, ↓reduceIte, ↓put_at]))))
      refine at_meet ⟨(), trivial⟩ ?_
      simp (decide := true) (disch := omega) only [go_sem, ↓reduceIte, ↓put_at]
  clear hq x
  (repeat' ((fail_if_success (first | refine stop_at 14 ?_ | refine stop_l 14 ?_)); (first | refine sp_ ?_ | exact ex0 | refine call_u Tryz.call52 (a4) [] ex1 ?_ | (refine ret_s [] ?_; simp (decide := true) (disch := omega) only [go_sem, ↓reduceIte, ↓put_at]))))
  refine short_s [(.s 1, .av (.ptr (1, 0) 0 0)), (.o (1, 0), .num 3), (.c (1, 0) 0, .av (.val (vi p.1))), (.c (1, 0) 1, .av (.val (vi p.2.1))), (.c (1, 0) 2, .av (.val (vs p.2.2))), (.s 2, .av (.val (vi 0))), (.s 14, .av (.val (vi e4)))] (by simp (decide := true) (disch := omega) only [go_sem, ↓reduceIte, ↓put_at]) ?_
  by_cases hh : e4 = 0
  · rw [if_pos hh] at hw
    subst hw
    (repeat' ((first | refine sp_ ?_ | exact ex0 | (refine ret_s [] ?_; simp (decide := true) (disch := omega) only [go_sem, ↓reduceIte, ↓put_at]))))
  rw [if_neg hh] at hw
  (repeat' ((fail_if_success (first | refine stop_at 17 ?_ | refine stop_l 17 ?_)); (first | refine sp_ ?_ | exact ex0 | refine call_u Tryz.call53 (a5) [] ex1 ?_ | (refine ret_s [] ?_; simp (decide := true) (disch := omega) only [go_sem, ↓reduceIte, ↓put_at]))))
  refine short_s [(.s 1, .av (.ptr (1, 0) 0 0)), (.o (1, 0), .num 3), (.c (1, 0) 0, .av (.val (vi p.1))), (.c (1, 0) 1, .av (.val (vi p.2.1))), (.c (1, 0) 2, .av (.val (vs p.2.2))), (.s 2, .av (.val (vi 0))), (.s 17, .av (.val (vi e5)))] (by simp (decide := true) (disch := omega) only [go_sem, ↓reduceIte, ↓put_at]) ?_
  by_cases hh : e5 = 0
  · rw [if_pos hh] at hw
    subst hw
    (repeat' ((first | refine sp_ ?_ | exact ex0 | (refine ret_s [] ?_; simp (decide := true) (disch := omega) only [go_sem, ↓reduceIte, ↓put_at]))))
  rw [if_neg hh] at hw
  (repeat' ((fail_if_success (first | refine stop_at 20 ?_ | refine stop_l 20 ?_)); (first | refine sp_ ?_ | exact ex0 | refine call_u Tryz.call54 (a6) [] ex1 ?_ | (refine ret_s [] ?_; simp (decide := true) (disch := omega) only [go_sem, ↓reduceIte, ↓put_at]))))
  refine short_s [(.s 1, .av (.ptr (1, 0) 0 0)), (.o (1, 0), .num 3), (.c (1, 0) 0, .av (.val (vi p.1))), (.c (1, 0) 1, .av (.val (vi p.2.1))), (.c (1, 0) 2, .av (.val (vs p.2.2))), (.s 2, .av (.val (vi 0))), (.s 20, .av (.val (vi e6)))] (by simp (decide := true) (disch := omega) only [go_sem, ↓reduceIte, ↓put_at]) ?_
  by_cases hh : e6 = 0
  · rw [if_pos hh] at hw
    subst hw
    (repeat' ((first | refine sp_ ?_ | exact ex0 | (refine ret_s [] ?_; simp (decide := true) (disch := omega) only [go_sem, ↓reduceIte, ↓put_at]))))
  · rw [if_neg hh] at hw
    subst hw
    (repeat' ((first | refine sp_ ?_ | exact ex0 | (refine ret_s [] ?_; simp (decide := true) (disch := omega) only [go_sem, ↓reduceIte, ↓put_at]))))
set_option maxRecDepth 100000 in
set_option maxHeartbeats 16000000 in
theorem ref_check12 (ps : List Pc) (h : Pcs ps) : Spec Tryz.prog 16 [.ca (.val (.lst 3 (ps.map pcEl)))] [] (.ca (.val (vi (cmpE ps)))) [] := by
  classical
  have hb := h.max
  obtain ⟨hl, hb0⟩ := h
  obtain ⟨E, hE⟩ : ∃ E, E = cmpE ps := ⟨_, rfl⟩
  rw [← hE]
  have h1 : ¬ formOk ps → E = 1 := fun h => by rw [hE, cmpE_form h]
  by_cases h0 : ps.length = 0
  · obtain rfl := h1 fun h => h.1 (List.length_eq_zero_iff.1 h0)
    refine spec_of Tryz.func16 rfl Tryz.ntmps16 Tryz.results16 ⟨by decide, by simp⟩ fun C hC => ?_
    (repeat' ((first | refine sp_ ?_ | exact ex0 | (refine ret_s [] ?_; simp (decide := true) (disch := omega) only [go_sem, ↓reduceIte, ↓put_at]))))
  have hne : ps ≠ [] := fun h => h0 (by rw [h]; rfl)
  have cp := ref_pack ps hb (by omega)
  refine spec_of Tryz.func16 rfl Tryz.ntmps16 Tryz.results16 ⟨by decide, by simp⟩ fun C hC => ?_
  (repeat' ((fail_if_success (refine stop_reg 5 ?_)); (first | refine sp_ ?_ | exact ex0 | (refine ret_s [] ?_; simp (decide := true) (disch := omega) only [go_sem, ↓reduceIte, ↓put_at]))))
  refine meetB_s (α := {_x : Unit // ps.all mayP = true ∧ ∀ i, ¬ badAt ps i}) (fun _ => [(.s 0, .av (.val (.lst 3 (ps.map pcEl)))), (.s 3, .av (.val (vb (ps.any fun p => decide (whatP p = 2)))))]) ?_ (fun x => ?_)
  · refine loop_s (α := {j : Nat // j ≤ ps.length ∧ ∀ i (h : i < ps.length), i < j → mayP ps[i] = true ∧ ¬ badAt ps i}) (fun j => [(.s 0, .av (.val (.lst 3 (ps.map pcEl)))), (.s 2, .av (.val (vi 0))), (.s 3, .av (.val (vb ((ps.take j.1).any fun p => decide (whatP p = 2))))), (.s 12, .av (.val (.lst 3 (ps.map pcEl)))), (.s 13, .av (.val (vi ps.length))), (.s 14, .av (.val (vi j.1)))]) (fun j => ps.length - j.1) ⟨0, Nat.zero_le _, fun i _ h => by omega⟩ ?_ (fun j => ?_)
    · simp (decide := true) (disch := omega) only [go_sem, ↓reduceIte, ↓put_at]
    · obtain ⟨j, hj, hg⟩ := j
      dsimp only at hj hg ⊢
      by_cases hlt : j < ps.length
      · have hge : (ps.map pcEl).getD j [] = pcEl ps[j] := by simp [hlt]
        have hm := List.getElem_mem hlt
        have c1 := ref_what ps[j] (hb0 _ hm)
        have c2 := ref_may ps[j] (hb _ hm)
        have hgn : mayP ps[j] = true → ¬ badAt ps j → ∀ i (h : i < ps.length), i < j + 1 → mayP ps[i] = true ∧ ¬ badAt ps i := fun h h' i hi hij => by
          rcases Nat.lt_succ_iff_lt_or_eq.1 hij with h2 | rfl
          · exact hg i hi h2
          · exact ⟨h, h'⟩
        have hbd : badAt ps j ↔ (j = 0 ∧ whatP ps[j] ≠ 1) ∨ (whatP ps[j] = 3 ∧ j + 1 < ps.length) := ⟨fun ⟨_, h⟩ => h, fun h => ⟨hlt, h⟩⟩
        have hnf : badAt ps j → E = 1 := fun h => h1 fun hf => hf.2.2.1 j h
        have hnm : mayP ps[j] = false → E = 1 := fun h => h1 fun hf => by
          have := List.all_eq_true.1 hf.2.1 _ hm
          rw [h] at this
          cases this
        have hany : (ps.take (j + 1)).any (fun p => decide (whatP p = 2)) = ((ps.take j).any (fun p => decide (whatP p = 2)) || decide (whatP ps[j] = 2)) := by
          rw [List.take_succ_eq_append_getElem hlt, List.any_append]
          simp
        clear hE
        generalize (ps.take j).any (fun p => decide (whatP p = 2)) = nm at *
        generalize whatP ps[j] = w at *
        generalize hmm : mayP ps[j] = m at *
        cases m with
        | false =>
          have := hnm rfl
          subst this
          (repeat' ((first | refine sp_ ?_ | exact ex0 | refine call_u Tryz.call23 (c1) [] ex1 ?_ | refine call_u Tryz.call40 (c2) [] ex1 ?_ | (refine ret_s [] ?_; simp (decide := true) (disch := omega) only [go_sem, ↓reduceIte, ↓put_at]))))
        | true =>
          by_cases hbad : (j = 0 ∧ w ≠ 1) ∨ (w = 3 ∧ j + 1 < ps.length)
          · have := hnf (hbd.2 hbad)
            subst this
            by_cases hj0 : j = 0 ∧ w ≠ 1
            · obtain ⟨hj1, hj2⟩ := hj0
              (repeat' ((first | refine sp_ ?_ | exact ex0 | refine call_u Tryz.call23 (c1) [] ex1 ?_ | refine call_u Tryz.call40 (c2) [] ex1 ?_ | (refine ret_s [] ?_; simp (decide := true) (disch := omega) only [go_sem, ↓reduceIte, ↓put_at]))))
            · obtain ⟨w3, hla⟩ : w = 3 ∧ j + 1 < ps.length := by rcases hbad with h | h; exact absurd h hj0; exact h
              by_cases hj2 : j = 0
              · omega
              · (repeat' ((first | refine sp_ ?_ | exact ex0 | refine call_u Tryz.call23 (c1) [] ex1 ?_ | refine call_u Tryz.call40 (c2) [] ex1 ?_ | (refine ret_s [] ?_; simp (decide := true) (disch := omega) only [go_sem, ↓reduceIte, ↓put_at]))))
          · have hg2 := hgn rfl (fun h => hbad (hbd.1 h))
            clear hgn hbd hnf hnm
            have fin : ∀ (b : Bool), b = (nm || decide (w = 2)) → (ps.take (j + 1)).any (fun p => decide (whatP p = 2)) = b := fun b h => by rw [hany, h]
            by_cases hj0 : j = 0
            · have hw1 : w = 1 := by omega
              cases nm with
              | true =>
                have hf := fin true (by simp)
                (repeat' ((first | refine sp_ ?_ | exact ex0 | refine call_u Tryz.call23 (c1) [] ex1 ?_ | refine call_u Tryz.call40 (c2) [] ex1 ?_ | (refine ret_s [] ?_; simp (decide := true) (disch := omega) only [go_sem, ↓reduceIte, ↓put_at]))))
                refine next_s (α := {j : Nat // j ≤ ps.length ∧ ∀ i (h : i < ps.length), i < j → mayP ps[i] = true ∧ ¬ badAt ps i}) ⟨j + 1, hlt, hg2⟩ ⟨?_, by (try dsimp only); omega⟩
                (try dsimp only)
                rw [hf]
                simp (decide := true) (disch := omega) only [go_sem, ↓reduceIte, ↓put_at]
              | false =>
                have hf := fin false (by rw [decide_eq_false (by omega)]; rfl)
                (repeat' ((first | refine sp_ ?_ | exact ex0 | refine call_u Tryz.call23 (c1) [] ex1 ?_ | refine call_u Tryz.call40 (c2) [] ex1 ?_ | (refine ret_s [] ?_; simp (decide := true) (disch := omega) only [go_sem, ↓reduceIte, ↓put_at]))))
                refine next_s (α := {j : Nat // j ≤ ps.length ∧ ∀ i (h : i < ps.length), i < j → mayP ps[i] = true ∧ ¬ badAt ps i}) ⟨j + 1, hlt, hg2⟩ ⟨?_, by (try dsimp only); omega⟩
                (try dsimp only)
                rw [hf]
                simp (decide := true) (disch := omega) only [go_sem, ↓reduceIte, ↓put_at]
            · by_cases w3 : w = 3
              · have hla : ¬ j + 1 < ps.length := by omega
                cases nm with
                | true =>
                  have hf := fin true (by simp)
                  (repeat' ((first | refine sp_ ?_ | exact ex0 | refine call_u Tryz.call23 (c1) [] ex1 ?_ | refine call_u Tryz.call40 (c2) [] ex1 ?_ | (refine ret_s [] ?_; simp (decide := true) (disch := omega) only [go_sem, ↓reduceIte, ↓put_at]))))
                  refine next_s (α := {j : Nat // j ≤ ps.length ∧ ∀ i (h : i < ps.length), i < j → mayP ps[i] = true ∧ ¬ badAt ps i}) ⟨j + 1, hlt, hg2⟩ ⟨?_, by (try dsimp only); omega⟩
                  (try dsimp only)
                  rw [hf]
                  simp (decide := true) (disch := omega) only [go_sem, ↓reduceIte, ↓put_at]
                | false =>
                  have hf := fin false (by rw [decide_eq_false (by omega)]; rfl)
                  (repeat' ((first | refine sp_ ?_ | exact ex0 | refine call_u Tryz.call23 (c1) [] ex1 ?_ | refine call_u Tryz.call40 (c2) [] ex1 ?_ | (refine ret_s [] ?_; simp (decide := true) (disch := omega) only [go_sem, ↓reduceIte, ↓put_at]))))
                  refine next_s (α := {j : Nat // j ≤ ps.length ∧ ∀ i (h : i < ps.length), i < j → mayP ps[i] = true ∧ ¬ badAt ps i}) ⟨j + 1, hlt, hg2⟩ ⟨?_, by (try dsimp only); omega⟩
                  (try dsimp only)
                  rw [hf]
                  simp (decide := true) (disch := omega) only [go_sem, ↓reduceIte, ↓put_at]
              · cases nm with
                | true =>
                  have hf := fin true (by simp)
                  (repeat' ((first | refine sp_ ?_ | exact ex0 | refine call_u Tryz.call23 (c1) [] ex1 ?_ | refine call_u Tryz.call40 (c2) [] ex1 ?_ | (refine ret_s [] ?_; simp (decide := true) (disch := omega) only [go_sem, ↓reduceIte, ↓put_at]))))
                  refine next_s (α := {j : Nat // j ≤ ps.length ∧ ∀ i (h : i < ps.length), i < j → mayP ps[i] = true ∧ ¬ badAt ps i}) ⟨j + 1, hlt, hg2⟩ ⟨?_, by (try dsimp only); omega⟩
                  (try dsimp only)
                  rw [hf]
                  simp (decide := true) (disch := omega) only [go_sem, ↓reduceIte, ↓put_at]
                | false =>
                  by_cases w2 : w = 2
                  · have hf := fin true (by rw [decide_eq_true w2]; rfl)
                    (repeat' ((first | refine sp_ ?_ | exact ex0 | refine call_u Tryz.call23 (c1) [] ex1 ?_ | refine call_u Tryz.call40 (c2) [] ex1 ?_ | (refine ret_s [] ?_; simp (decide := true) (disch := omega) only [go_sem, ↓reduceIte, ↓put_at]))))
                    refine next_s (α := {j : Nat // j ≤ ps.length ∧ ∀ i (h : i < ps.length), i < j → mayP ps[i] = true ∧ ¬ badAt ps i}) ⟨j + 1, hlt, hg2⟩ ⟨?_, by (try dsimp only); omega⟩
                    (try dsimp only)
                    rw [hf]
                    simp (decide := true) (disch := omega) only [go_sem, ↓reduceIte, ↓put_at]
                  · have hf := fin false (by rw [decide_eq_false w2]; rfl)
                    (repeat' ((first | refine sp_ ?_ | exact ex0 | refine call_u Tryz.call23 (c1) [] ex1 ?_ | refine call_u Tryz.call40 (c2) [] ex1 ?_ | (refine ret_s [] ?_; simp (decide := true) (disch := omega) only [go_sem, ↓reduceIte, ↓put_at]))))
                    refine next_s (α := {j : Nat // j ≤ ps.length ∧ ∀ i (h : i < ps.length), i < j → mayP ps[i] = true ∧ ¬ badAt ps i}) ⟨j + 1, hlt, hg2⟩ ⟨?_, by (try dsimp only); omega⟩
                    (try dsimp only)
                    rw [hf]
                    simp (decide := true) (disch := omega) only [go_sem, ↓reduceIte, ↓put_at]
      · obtain rfl : j = ps.length := by omega
        simp only [List.take_length]
        have hall : ps.all mayP = true := List.all_eq_true.2 fun p hp => by
          obtain ⟨i, hi, rfl⟩ := List.mem_iff_getElem.1 hp
          exact (hg i hi hi).1
        have hgood : ∀ i, ¬ badAt ps i := fun i hi => (hg i hi.1 hi.1).2 hi
        (repeat' ((first | refine sp_ ?_ | exact ex0 | (refine ret_s [] ?_; simp (decide := true) (disch := omega) only [go_sem, ↓reduceIte, ↓put_at]))))
        refine at_meet ⟨(), hall, hgood⟩ ?_
        simp (decide := true) (disch := omega) only [go_sem, ↓reduceIte, ↓put_at]
  obtain ⟨_, hall, hgood⟩ := x
  (try dsimp only)
  cases hnm : ps.any fun p => decide (whatP p = 2) with
  | false =>
    have hE1 := h1 fun hf => by
      obtain ⟨p, hp, hw⟩ := hf.2.2.2
      have := List.any_eq_false.1 hnm p hp
      simp [hw] at this
    clear hE
    subst hE1
    (repeat' ((first | refine sp_ ?_ | exact ex0 | (refine ret_s [] ?_; simp (decide := true) (disch := omega) only [go_sem, ↓reduceIte, ↓put_at]))))
  | true =>
  have hf : formOk ps := by
    obtain ⟨p, hp, hw⟩ := List.any_eq_true.1 hnm
    exact ⟨hne, hall, hgood, p, hp, by simpa using hw⟩
  unfold cmpE at hE
  rw [if_neg (fun h => h hf)] at hE
  clear h1
  (repeat' ((fail_if_success (refine stop_reg 15 ?_)); (first | refine sp_ ?_ | exact ex0 | (refine ret_s [] ?_; simp (decide := true) (disch := omega) only [go_sem, ↓reduceIte, ↓put_at]))))
  refine loop_s (α := {j : Nat // j ≤ ps.length ∧ ∀ i (h : i < ps.length), i < j → whatP ps[i] ≠ 0}) (fun j => [(.s 0, .av (.val (.lst 3 (ps.map pcEl)))), (.s 51, .av (.val (.lst 3 (ps.map pcEl)))), (.s 52, .av (.val (vi ps.length))), (.s 53, .av (.val (vi j.1)))]) (fun j => ps.length - j.1) ⟨0, Nat.zero_le _, fun i _ h => by omega⟩ ?_ (fun j => ?_)
  · simp (decide := true) (disch := omega) only [go_sem, ↓reduceIte, ↓put_at]
  · obtain ⟨j, hj, hg⟩ := j
    dsimp only at hj hg ⊢
    by_cases hlt : j < ps.length
    · have hge : (ps.map pcEl).getD j [] = pcEl ps[j] := by simp [hlt]
      have hm := List.getElem_mem hlt
      have c1 := ref_what ps[j] (hb0 _ hm)
      by_cases hw : whatP ps[j] = 0
      · rw [if_pos ⟨_, hm, hw⟩] at hE
        subst hE
        rw [hw] at c1
        (repeat' ((first | refine sp_ ?_ | exact ex0 | refine call_u Tryz.call23 (c1) [] ex1 ?_ | (refine ret_s [] ?_; simp (decide := true) (disch := omega) only [go_sem, ↓reduceIte, ↓put_at]))))
      · have hg2 : ∀ i (h : i < ps.length), i < j + 1 → whatP ps[i] ≠ 0 := fun i h hi => by
          rcases Nat.lt_succ_iff_lt_or_eq.1 hi with h2 | rfl
          · exact hg i h h2
          · exact hw
        generalize whatP ps[j] = w at *
        (repeat' ((first | refine sp_ ?_ | exact ex0 | refine call_u Tryz.call23 (c1) [] ex1 ?_ | (refine ret_s [] ?_; simp (decide := true) (disch := omega) only [go_sem, ↓reduceIte, ↓put_at]))))
        refine next_s (α := {j : Nat // j ≤ ps.length ∧ ∀ i (h : i < ps.length), i < j → whatP ps[i] ≠ 0}) ⟨j + 1, hlt, hg2⟩ ⟨?_, by (try dsimp only); omega⟩
        simp (decide := true) (disch := omega) only [go_sem, ↓reduceIte, ↓put_at]
    · have hall : ¬ ∃ p ∈ ps, whatP p = 0 := fun ⟨p, hp, hw⟩ => by
        obtain ⟨i, hi, rfl⟩ := List.mem_iff_getElem.1 hp
        exact hg i hi (by omega) hw
      rw [if_neg hall] at hE
      have hple := packP_le ps hb0
      by_cases hbig : 1500 < (packP ps).length + 16
      · rw [if_pos hbig] at hE
        subst hE
        generalize packP ps = P at *
        (repeat' ((first | refine sp_ ?_ | exact ex0 | refine call_u Tryz.call41 (cp) [] ex1 ?_ | (refine ret_s [] ?_; simp (decide := true) (disch := omega) only [go_sem, ↓reduceIte, ↓put_at]))))
      · rw [if_neg hbig] at hE
        subst hE
        generalize packP ps = P at *
        (repeat' ((first | refine sp_ ?_ | exact ex0 | refine call_u Tryz.call41 (cp) [] ex1 ?_ | (refine ret_s [] ?_; simp (decide := true) (disch := omega) only [go_sem, ↓reduceIte, ↓put_at]))))
end Go.Proofs.YtjkmnjmmnjhacaaGreat

