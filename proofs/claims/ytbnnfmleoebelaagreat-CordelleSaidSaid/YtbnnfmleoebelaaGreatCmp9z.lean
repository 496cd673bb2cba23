/- Layer 12: Open; CompoundMore; walked. -/
import Derived.Test.YtbnnfmleoebelaaGreatCmp8z
import Derived.Test.YtbnnfmleoebelaaGreatRSz
namespace Go.Proofs.YtbnnfmleoebelaaGreat
open Go.RowKit
set_option linter.unusedVariables false
set_option linter.unusedSimpArgs false

abbrev bagV (B : Bag12) : List V := [.lst 7 (B.reports.map r8El), .lst 2 (B.names.map n9El), .lst 2 (B.byes.map y9El), .lst 4 (B.apps.map a9El), .lst 3 (B.nacks.map n10El), .lst 2 (B.lines.map r11El), .lst 2 (B.ads.map s11El)]
noncomputable def openB (ps : List Pc) : Bag12 := if cmpE ps = 0 then bagOf ps else noBag
set_option maxRecDepth 100000 in
set_option maxHeartbeats 16000000 in
theorem cmp_open (ps : List Pc) (h : Pcs ps) : Spec Tryz.prog 12 [.ca (.val (.lst 3 (ps.map pcEl)))] [] (.ca (.val (.agg (bagV (openB ps))))) [] := by
  have cc := cmp_check ps h
  have hb := h.max
  obtain ⟨hl, hb0⟩ := h
  unfold openB
  by_cases h0 : cmpE ps = 0
  · rw [if_pos h0]
    rw [h0] at cc
    refine spec_of Tryz.func12 rfl Tryz.ntmps12 Tryz.results12 ⟨by decide, by simp⟩ fun C hC => ?_
    (repeat' ((fail_if_success (first | refine stop_at 4 ?_ | refine stop_l 4 ?_)); (first | refine sp_ ?_ | exact ex0 | refine call_u Tryz.call4 (cc) [] ex1 ?_ | (refine ret_s [] ?_; simp (decide := true) (disch := omega) only [go_sem, ↓reduceIte, ↓put_at]))))
    refine own_c (3, 0) 0 (3, 1) 27 7 ?_
    simp (decide := true) (disch := omega) only [go_sem, ↓reduceIte, ↓put_at]
    refine own_c (3, 0) 1 (3, 2) 50 2 ?_
    simp (decide := true) (disch := omega) only [go_sem, ↓reduceIte, ↓put_at]
    refine own_c (3, 0) 2 (3, 3) 59 2 ?_
    simp (decide := true) (disch := omega) only [go_sem, ↓reduceIte, ↓put_at]
    refine own_c (3, 0) 3 (3, 4) 86 4 ?_
    simp (decide := true) (disch := omega) only [go_sem, ↓reduceIte, ↓put_at]
    refine own_c (3, 0) 4 (3, 5) 53 3 ?_
    simp (decide := true) (disch := omega) only [go_sem, ↓reduceIte, ↓put_at]
    refine own_c (3, 0) 5 (3, 6) 32 2 ?_
    simp (decide := true) (disch := omega) only [go_sem, ↓reduceIte, ↓put_at]
    refine own_c (3, 0) 6 (3, 7) 56 2 ?_
    simp (decide := true) (disch := omega) only [go_sem, ↓reduceIte, ↓put_at]
    (repeat' ((fail_if_success (refine stop_reg 5 ?_)); (first | refine sp_ ?_ | exact ex0 | (refine ret_s [] ?_; simp (decide := true) (disch := omega) only [go_sem, ↓reduceIte, ↓put_at]))))
    refine loop_s (α := {j : Nat // j ≤ ps.length}) (fun j => [(.s 0, .av (.val (.lst 3 (ps.map pcEl)))), (.s 2, .av (.ptr (2, 0) 0 0)), (.o (2, 0), .num 7), (.c (2, 0) 0, .av (.val (.sc (.slice none 0 0)))), (.c (2, 0) 1, .av (.val (.sc (.slice none 0 0)))), (.c (2, 0) 2, .av (.val (.sc (.slice none 0 0)))), (.c (2, 0) 3, .av (.val (.sc (.slice none 0 0)))), (.c (2, 0) 4, .av (.val (.sc (.slice none 0 0)))), (.c (2, 0) 5, .av (.val (.sc (.slice none 0 0)))), (.c (2, 0) 6, .av (.val (.sc (.slice none 0 0)))), (.s 3, .av (.ptr (3, 0) 0 0)), (.o (3, 0), .num 7), (.c (3, 0) 0, .av (.own (3, 1) 0 27 7 ((bagOf (ps.take j.1)).reports.map r8El))), (.k (3, 1), .row 27 7 (bagOf (ps.take j.1)).reports.length), (.c (3, 0) 1, .av (.own (3, 2) 0 50 2 ((bagOf (ps.take j.1)).names.map n9El))), (.k (3, 2), .row 50 2 (bagOf (ps.take j.1)).names.length), (.c (3, 0) 2, .av (.own (3, 3) 0 59 2 ((bagOf (ps.take j.1)).byes.map y9El))), (.k (3, 3), .row 59 2 (bagOf (ps.take j.1)).byes.length), (.c (3, 0) 3, .av (.own (3, 4) 0 86 4 ((bagOf (ps.take j.1)).apps.map a9El))), (.k (3, 4), .row 86 4 (bagOf (ps.take j.1)).apps.length), (.c (3, 0) 4, .av (.own (3, 5) 0 53 3 ((bagOf (ps.take j.1)).nacks.map n10El))), (.k (3, 5), .row 53 3 (bagOf (ps.take j.1)).nacks.length), (.c (3, 0) 5, .av (.own (3, 6) 0 32 2 ((bagOf (ps.take j.1)).lines.map r11El))), (.k (3, 6), .row 32 2 (bagOf (ps.take j.1)).lines.length), (.c (3, 0) 6, .av (.own (3, 7) 0 56 2 ((bagOf (ps.take j.1)).ads.map s11El))), (.k (3, 7), .row 56 2 (bagOf (ps.take j.1)).ads.length), (.s 10, .av (.val (.lst 3 (ps.map pcEl)))), (.s 11, .av (.val (vi ps.length))), (.s 12, .av (.val (vi j.1)))]) (fun j => ps.length - j.1) ⟨0, Nat.zero_le _⟩ ?_ (fun j => ?_)
    · (try dsimp only)
      rw [List.take_zero, bag_zero]
      unfold noBag
      simp (decide := true) (disch := omega) only [go_sem, ↓reduceIte, ↓put_at]
    · obtain ⟨j, hj⟩ := j
      dsimp only at hj ⊢
      by_cases hlt : j < ps.length
      · have hge : (ps.map pcEl).getD j [] = pcEl ps[j] := by simp [hlt]
        have c := cmp_take (bagOf (ps.take j)) ps[j] (hb _ (List.getElem_mem hlt)) (bag_few _ (by rw [List.length_take]; omega))
        have hnx := bag_next ps j hlt
        generalize tookB (bagOf (ps.take j)) ps[j] = B2 at *
        generalize bagOf (ps.take j) = B at *
        (repeat' ((first | refine sp_ ?_ | exact ex0 | refine call_u Tryz.call16 (c) [(3, 0)] ex1 ?_ | (refine ret_s [] ?_; simp (decide := true) (disch := omega) only [go_sem, ↓reduceIte, ↓put_at]))))
        refine next_s (α := {j : Nat // j ≤ ps.length}) ⟨j + 1, hlt⟩ ⟨?_, by (try dsimp only); omega⟩
        (try dsimp only)
        rw [hnx]
        simp (decide := true) (disch := omega) only [go_sem, ↓reduceIte, ↓put_at]
      · obtain rfl : j = ps.length := by omega
        simp only [List.take_length]
        (repeat' ((first | refine sp_ ?_ | exact ex0 | (refine ret_s [] ?_; simp (decide := true) (disch := omega) only [go_sem, ↓reduceIte, ↓put_at]))))
  · rw [if_neg h0]
    unfold noBag
    generalize cmpE ps = E at *
    refine spec_of Tryz.func12 rfl Tryz.ntmps12 Tryz.results12 ⟨by decide, by simp⟩ fun C hC => ?_
    (repeat' ((first | refine sp_ ?_ | exact ex0 | refine call_u Tryz.call4 (cc) [] ex1 ?_ | (refine ret_s [] ?_; simp (decide := true) (disch := omega) only [go_sem, ↓reduceIte, ↓put_at]))))
end Go.Proofs.YtbnnfmleoebelaaGreat

