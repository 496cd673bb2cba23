/- Layer 12 (compound): order, Check; walked. -/
import Derived.Test.YtbnnfmleoebelaaGreatCmp2z
namespace Go.Proofs.YtbnnfmleoebelaaGreat
open Go.RowKit
set_option linter.unusedVariables false
set_option linter.unusedSimpArgs false

/-- Pieces whose bodies are no longer than may be, few. -/
structure Pcs (ps : List Pc) : Prop where
  len : ps.length ≤ 10000
  body : ∀ p ∈ ps, p.2.2.length ≤ 100000
theorem Pcs.max {ps : List Pc} (h : Pcs ps) : ∀ p ∈ ps, p.2.2.length ≤ maxLen := fun p hp => by have := h.body p hp; unfold maxLen; omega
theorem namesR32 (p : Pc) : (namesR p).length ≤ 32 := by
  unfold namesR
  split
  · unfold rawN
    have hlen : ∀ f x acc, (runN f x acc).length ≤ acc.length + f := by
      intro f
      induction f with
      | zero => intro x acc; simp [runN]
      | succ f ih =>
        intro x acc
        unfold runN
        split
        · omega
        · have := ih (nxN x) (acc ++ [rdN x])
          simp only [List.length_append, List.length_cons, List.length_nil] at this
          omega
    have := hlen 32 (p.2.2, 0) []
    simpa using this
  · simp
theorem flat_le {α : Type} (f : Pc → List α) (n : Nat) (h : ∀ p, (f p).length ≤ n) : ∀ ps : List Pc, (ps.flatMap f).length ≤ n * ps.length
  | [] => by simp
  | p :: ps => by
    rw [List.flatMap_cons, List.length_append, List.length_cons, Nat.mul_add, Nat.mul_one]
    have := flat_le f n h ps
    have := h p
    omega
theorem bag_few (ps : List Pc) (h : ps.length ≤ 10000) : (bagOf ps).Few := by
  rw [bag_map]
  refine ⟨?_, ?_, ?_, ?_, ?_, ?_, ?_⟩
  · have := flat_le (fun p => if sayP p = 1 then [ofR p] else []) 32 (fun p => by (try dsimp only); split <;> simp) ps
    (try dsimp only); omega
  · have := flat_le (fun p => if sayP p = 2 then namesR p else []) 32 (fun p => by
      have := namesR32 p
      (try dsimp only); split
      · exact this
      · simp) ps
    (try dsimp only); omega
  · have := flat_le (fun p => if sayP p = 3 then [byeR p] else []) 32 (fun p => by (try dsimp only); split <;> simp) ps
    (try dsimp only); omega
  · have := flat_le (fun p => if sayP p = 4 ∧ (appR p).name ≠ csum then [appR p] else []) 32 (fun p => by (try dsimp only); split <;> simp) ps
    (try dsimp only); omega
  · have := flat_le (fun p => if sayP p = 5 then [nackR p] else []) 32 (fun p => by (try dsimp only); split <;> simp) ps
    (try dsimp only); omega
  · have := flat_le (fun p => if sayP p = 6 then [linesR p] else []) 32 (fun p => by (try dsimp only); split <;> simp) ps
    (try dsimp only); omega
  · have := flat_le (fun p => if sayP p = 7 then [adsR p] else []) 32 (fun p => by (try dsimp only); split <;> simp) ps
    (try dsimp only); omega
theorem bag_next (ps : List Pc) (j : Nat) (h : j < ps.length) : bagOf (ps.take (j + 1)) = tookB (bagOf (ps.take j)) ps[j] := by
  rw [List.take_succ_eq_append_getElem h, bagOf_snoc]
theorem took_byes (B : Bag12) (p : Pc) : (tookB B p).byes.length = B.byes.length + (if whatP p = 3 then 1 else 0) := by
  unfold tookB
  rw [List.length_append]
  congr 1
  rw [whatP_eq]
  by_cases h : sayP p = 3
  · simp [h]
  · rw [if_neg h, if_neg (by split <;> omega)]
    rfl
theorem took_reports (p : Pc) : (tookB noBag p).reports.length = if whatP p = 1 then 1 else 0 := by
  show (([] : List R8) ++ (if sayP p = 1 then [ofR p] else [])).length = _
  rw [List.nil_append, whatP_eq]
  by_cases h : sayP p = 1
  · simp [h]
  · have h2 : ¬ (if (sayP p = 2 ∧ namesR p = []) ∨ (sayP p = 4 ∧ (appR p).name = csum) then 0 else sayP p) = 1 := by
      split
      · omega
      · exact h
    rw [if_neg h, if_neg h2]
    rfl
theorem bag_names (ps : List Pc) : (bagOf ps).names.length = 0 ↔ ∀ p ∈ ps, whatP p ≠ 2 := by
  rw [bag_map]
  dsimp only
  rw [List.length_eq_zero_iff, List.flatMap_eq_nil_iff]
  constructor
  · intro h p hp h2
    have hs := (say_what (p := p) (by omega))
    have := h p hp
    rw [if_pos (by omega)] at this
    exact hs.2.2 (by omega) this
  · intro h p hp
    split
    · rename_i h2
      have := h p hp
      rw [whatP_eq] at this
      by_cases hn : namesR p = []
      · exact hn
      · rw [if_neg (by simp [h2, hn])] at this
        exact absurd h2 this
    · rfl
theorem packOne_ne (p : Pc) : packOne p ≠ [] := fun h => by
  have := packOne_length p
  rw [h, List.length_nil] at this
  omega
theorem packP_nil (ps : List Pc) (h : ps ≠ []) : packP ps = [] ↔ ps.all mayP = false := by
  unfold packP
  by_cases hm : ps.all mayP = true
  · rw [if_pos hm]
    obtain ⟨p, qs, rfl⟩ := List.exists_cons_of_ne_nil h
    rw [List.flatMap_cons]
    simp [packOne_ne p, hm]
  · rw [if_neg hm]
    simp at hm ⊢
    simpa using hm
theorem packP_le (ps : List Pc) (h : ∀ p ∈ ps, p.2.2.length ≤ 100000) : (packP ps).length ≤ 100004 * ps.length := by
  have key : ∀ qs : List Pc, (∀ p ∈ qs, p.2.2.length ≤ 100000) → (qs.flatMap packOne).length ≤ 100004 * qs.length := by
    intro qs
    induction qs with
    | nil => intro _; simp
    | cons q qs ih =>
      intro hq
      have h1 := ih fun p hp => hq p (by simp [hp])
      have h2 := hq q (by simp)
      rw [List.flatMap_cons, List.length_append, packOne_length, List.length_cons]
      omega
  unfold packP
  split
  · exact key ps h
  · simp
/-- A bag without anything, as its rows stand. -/
theorem bag_zero : bagOf [] = noBag := rfl
set_option maxRecDepth 100000 in
set_option maxHeartbeats 16000000 in
theorem cmp_order (ps : List Pc) (h : Pcs ps) : ∃ b, (b = true ↔ formOk12 ps) ∧ Spec Tryz.prog 15 [.ca (.val (.lst 3 (ps.map pcEl)))] [] (.ca (.val (vb b))) [] := by
  classical
  have hb := h.max
  obtain ⟨hl, hb0⟩ := h
  have cp := piece_pack ps hb (by omega)
  obtain ⟨b, hbf⟩ : ∃ b : Bool, (b = true ↔ formOk12 ps) := ⟨decide (formOk12 ps), by simp⟩
  refine ⟨b, hbf, ?_⟩
  have hno : ¬ formOk12 ps → b = false := fun h => by cases b with | false => rfl | true => exact absurd (hbf.1 rfl) h
  have hyes : formOk12 ps → b = true := fun h => hbf.2 h
  clear hbf
  by_cases h0 : ps.length = 0
  · obtain rfl := hno fun h => h.1 (List.length_eq_zero_iff.1 h0)
    refine spec_of Tryz.func15 rfl Tryz.ntmps15 Tryz.results15 ⟨by decide, by simp⟩ fun C hC => ?_
    (repeat' ((first | refine sp_ ?_ | exact ex0 | refine call_u Tryz.call17 (cp) [] ex1 ?_ | (refine ret_s [] ?_; simp (decide := true) (disch := omega) only [go_sem, ↓reduceIte, ↓put_at]))))
  have hne : ps ≠ [] := fun h => h0 (by rw [h]; rfl)
  by_cases hm : ps.all mayP = true
  · have hpk : packP ps ≠ [] := fun h => by rw [(packP_nil ps hne).1 h] at hm; cases hm
    have hpk2 : 0 < (packP ps).length := List.length_pos_iff.2 hpk
    have hbe : (packP ps == ([] : List UInt8)) = false := by simpa using hpk
    generalize packP ps = P at *
    refine spec_of Tryz.func15 rfl Tryz.ntmps15 Tryz.results15 ⟨by decide, by simp⟩ fun C hC => ?_
    (repeat' ((first | refine sp_ ?_ | exact ex0 | refine call_u Tryz.call17 (cp) [] ex1 ?_ | (refine ret_s [] ?_; simp (decide := true) (disch := omega) only [go_sem, ↓reduceIte, ↓put_at]))))
    simp only [hbe]
    (repeat' ((fail_if_success (first | refine stop_at 4 ?_ | refine stop_l 4 ?_)); (first | refine sp_ ?_ | exact ex0 | (refine ret_s [] ?_; simp (decide := true) (disch := omega) only [go_sem, ↓reduceIte, ↓put_at]))))
    refine own_c (3, 0) 0 (3, 1) 27 7 ?_
    simp (decide := true) (disch := omega) only [go_sem, ↓reduceIte, ↓put_at]
    refine own_c (3, 0) 1 (3, 2) 50 2 ?_
    simp (decide := true) (disch := omega) only [go_sem, ↓reduceIte, ↓put_at]
    refine own_c (3, 0) 2 (3, 3) 59 2 ?_
    simp (decide := true) (disch := omega) only [go_sem, ↓reduceIte, ↓put_at]
    refine own_c (3, 0) 3 (3, 4) 86 4 ?_
    simp (decide := true) (disch := omega) only [go_sem, ↓reduceIte, ↓put_at]
    refine own_c (3, 0) 4 (3, 5) 53 3 ?_
    simp (decide := true) (disch := omega) only [go_sem, ↓reduceIte, ↓put_at]
    refine own_c (3, 0) 5 (3, 6) 32 2 ?_
    simp (decide := true) (disch := omega) only [go_sem, ↓reduceIte, ↓put_at]
    refine own_c (3, 0) 6 (3, 7) 56 2 ?_
    simp (decide := true) (disch := omega) only [go_sem, ↓reduceIte, ↓put_at]
    (repeat' ((fail_if_success (refine stop_reg 5 ?_)); (first | refine sp_ ?_ | exact ex0 | (refine ret_s [] ?_; simp (decide := true) (disch := omega) only [go_sem, ↓reduceIte, ↓put_at]))))
    refine loop_s (α := {j : Nat // j ≤ ps.length ∧ ∀ i, i < j → ¬ badAt ps i}) (fun j => [(.s 0, .av (.val (.lst 3 (ps.map pcEl)))), (.s 3, .av (.ptr (3, 0) 0 0)), (.o (3, 0), .num 7), (.c (3, 0) 0, .av (.own (3, 1) 0 27 7 ((bagOf (ps.take j.1)).reports.map r8El))), (.k (3, 1), .row 27 7 (bagOf (ps.take j.1)).reports.length), (.c (3, 0) 1, .av (.own (3, 2) 0 50 2 ((bagOf (ps.take j.1)).names.map n9El))), (.k (3, 2), .row 50 2 (bagOf (ps.take j.1)).names.length), (.c (3, 0) 2, .av (.own (3, 3) 0 59 2 ((bagOf (ps.take j.1)).byes.map y9El))), (.k (3, 3), .row 59 2 (bagOf (ps.take j.1)).byes.length), (.c (3, 0) 3, .av (.own (3, 4) 0 86 4 ((bagOf (ps.take j.1)).apps.map a9El))), (.k (3, 4), .row 86 4 (bagOf (ps.take j.1)).apps.length), (.c (3, 0) 4, .av (.own (3, 5) 0 53 3 ((bagOf (ps.take j.1)).nacks.map n10El))), (.k (3, 5), .row 53 3 (bagOf (ps.take j.1)).nacks.length), (.c (3, 0) 5, .av (.own (3, 6) 0 32 2 ((bagOf (ps.take j.1)).lines.map r11El))), (.k (3, 6), .row 32 2 (bagOf (ps.take j.1)).lines.length), (.c (3, 0) 6, .av (.own (3, 7) 0 56 2 ((bagOf (ps.take j.1)).ads.map s11El))), (.k (3, 7), .row 56 2 (bagOf (ps.take j.1)).ads.length), (.s 15, .av (.val (.lst 3 (ps.map pcEl)))), (.s 16, .av (.val (vi ps.length))), (.s 17, .av (.val (vi j.1)))]) (fun j => ps.length - j.1) ⟨0, Nat.zero_le _, fun i h => by omega⟩ ?_ (fun j => ?_)
    · (try dsimp only)
      rw [List.take_zero, bag_zero]
      unfold noBag
      simp (decide := true) (disch := omega) only [go_sem, ↓reduceIte, ↓put_at]
    · obtain ⟨j, hj, hg⟩ := j
      dsimp only at hj hg ⊢
      by_cases hlt : j < ps.length
      · have hge : (ps.map pcEl).getD j [] = pcEl ps[j] := by simp [hlt]
        have c := cmp_take (bagOf (ps.take j)) ps[j] (hb _ (List.getElem_mem hlt)) (bag_few _ (by rw [List.length_take]; omega))
        have hnx := bag_next ps j hlt
        have hby := took_byes (bagOf (ps.take j)) ps[j]
        have hre : j = 0 → (tookB (bagOf (ps.take j)) ps[j]).reports.length = if whatP ps[j] = 1 then 1 else 0 := fun h => by
          have e : bagOf (ps.take j) = noBag := by rw [h, List.take_zero]; rfl
          rw [e]
          exact took_reports _
        have hgn : ¬ badAt ps j → ∀ i, i < j + 1 → ¬ badAt ps i := fun h i hi => by
          rcases Nat.lt_succ_iff_lt_or_eq.1 hi with h2 | rfl
          · exact hg i h2
          · exact h
        have hbd : badAt ps j ↔ (j = 0 ∧ whatP ps[j] ≠ 1) ∨ (whatP ps[j] = 3 ∧ j + 1 < ps.length) := ⟨fun ⟨_, h⟩ => h, fun h => ⟨hlt, h⟩⟩
        have hnf : badAt ps j → b = false := fun h => hno fun hf => hf.2.2.1 j h
        clear hno hyes
        generalize tookB (bagOf (ps.take j)) ps[j] = B2 at *
        generalize bagOf (ps.take j) = B at *
        generalize whatP ps[j] = w at *
        by_cases hj0 : j = 0
        · have hre' := hre hj0
          by_cases w1 : w = 1
          · rw [if_pos w1] at hre'
            rw [if_neg (by omega)] at hby
            have hg2 := hgn (by rw [hbd]; omega)
            clear hre
            (repeat' ((first | refine sp_ ?_ | exact ex0 | refine call_u Tryz.call16 (c) [(3, 0)] ex1 ?_ | (refine ret_s [] ?_; simp (decide := true) (disch := omega) only [go_sem, ↓reduceIte, ↓put_at]))))
            refine next_s (α := {j : Nat // j ≤ ps.length ∧ ∀ i, i < j → ¬ badAt ps i}) ⟨j + 1, hlt, hg2⟩ ⟨?_, by (try dsimp only); omega⟩
            (try dsimp only)
            rw [hnx]
            simp (decide := true) (disch := omega) only [go_sem, ↓reduceIte, ↓put_at]
          · rw [if_neg w1] at hre'
            obtain rfl := hnf (by rw [hbd]; omega)
            clear hre
            (repeat' ((first | refine sp_ ?_ | exact ex0 | refine call_u Tryz.call16 (c) [(3, 0)] ex1 ?_ | (refine ret_s [] ?_; simp (decide := true) (disch := omega) only [go_sem, ↓reduceIte, ↓put_at]))))
        · clear hre
          by_cases w3 : w = 3
          · rw [if_pos w3] at hby
            by_cases hla : j + 1 < ps.length
            · obtain rfl := hnf (by rw [hbd]; omega)
              (repeat' ((first | refine sp_ ?_ | exact ex0 | refine call_u Tryz.call16 (c) [(3, 0)] ex1 ?_ | (refine ret_s [] ?_; simp (decide := true) (disch := omega) only [go_sem, ↓reduceIte, ↓put_at]))))
            · have hg2 := hgn (by rw [hbd]; omega)
              (repeat' ((first | refine sp_ ?_ | exact ex0 | refine call_u Tryz.call16 (c) [(3, 0)] ex1 ?_ | (refine ret_s [] ?_; simp (decide := true) (disch := omega) only [go_sem, ↓reduceIte, ↓put_at]))))
              refine next_s (α := {j : Nat // j ≤ ps.length ∧ ∀ i, i < j → ¬ badAt ps i}) ⟨j + 1, hlt, hg2⟩ ⟨?_, by (try dsimp only); omega⟩
              (try dsimp only)
              rw [hnx]
              simp (decide := true) (disch := omega) only [go_sem, ↓reduceIte, ↓put_at]
          · rw [if_neg w3] at hby
            have hg2 := hgn (by rw [hbd]; omega)
            (repeat' ((first | refine sp_ ?_ | exact ex0 | refine call_u Tryz.call16 (c) [(3, 0)] ex1 ?_ | (refine ret_s [] ?_; simp (decide := true) (disch := omega) only [go_sem, ↓reduceIte, ↓put_at]))))
            refine next_s (α := {j : Nat // j ≤ ps.length ∧ ∀ i, i < j → ¬ badAt ps i}) ⟨j + 1, hlt, hg2⟩ ⟨?_, by (try dsimp only); omega⟩
            (try dsimp only)
            rw [hnx]
            simp (decide := true) (disch := omega) only [go_sem, ↓reduceIte, ↓put_at]
      · obtain rfl : j = ps.length := by omega
        have hbn := bag_names ps
        have hgood : ∀ i, ¬ badAt ps i := fun i hi => by
          by_cases h : i < ps.length
          · exact hg i h hi
          · exact h hi.1
        simp only [List.take_length]
        by_cases hn : (bagOf ps).names.length = 0
        · obtain rfl := hno fun hf => by
            obtain ⟨p, hp, hw⟩ := hf.2.2.2
            exact hbn.1 hn p hp hw
          (repeat' ((first | refine sp_ ?_ | exact ex0 | (refine ret_s [] ?_; simp (decide := true) (disch := omega) only [go_sem, ↓reduceIte, ↓put_at]))))
        · obtain rfl := hyes ⟨hne, hm, hgood, by
            refine Classical.byContradiction fun hx => hn (hbn.2 fun p hp hw => hx ⟨p, hp, hw⟩)⟩
          have hn2 : 0 < (bagOf ps).names.length := by omega
          (repeat' ((first | refine sp_ ?_ | exact ex0 | (refine ret_s [] ?_; simp (decide := true) (disch := omega) only [go_sem, ↓reduceIte, ↓put_at]))))
  · have hpk : packP ps = [] := (packP_nil ps hne).2 (by simpa using hm)
    rw [hpk] at cp
    obtain rfl := hno fun h => hm h.2.1
    refine spec_of Tryz.func15 rfl Tryz.ntmps15 Tryz.results15 ⟨by decide, by simp⟩ fun C hC => ?_
    (repeat' ((first | refine sp_ ?_ | exact ex0 | refine call_u Tryz.call17 (cp) [] ex1 ?_ | (refine ret_s [] ?_; simp (decide := true) (disch := omega) only [go_sem, ↓reduceIte, ↓put_at]))))
set_option maxRecDepth 100000 in
set_option maxHeartbeats 16000000 in
theorem cmp_check (ps : List Pc) (h : Pcs ps) : Spec Tryz.prog 4 [.ca (.val (.lst 3 (ps.map pcEl)))] [] (.ca (.val (vi (cmpE ps)))) [] := by
  classical
  obtain ⟨b, hbf, co⟩ := cmp_order ps h
  have hb := h.max
  obtain ⟨hl, hb0⟩ := h
  cases b with
  | false =>
    rw [cmpE_form (fun h => by have := hbf.2 h; cases this)]
    refine spec_of Tryz.func4 rfl Tryz.ntmps4 Tryz.results4 ⟨by decide, by simp⟩ fun C hC => ?_
    (repeat' ((first | refine sp_ ?_ | exact ex0 | refine call_u Tryz.call15 (co) [] ex1 ?_ | (refine ret_s [] ?_; simp (decide := true) (disch := omega) only [go_sem, ↓reduceIte, ↓put_at]))))
  | true =>
    have hf := hbf.1 rfl
    have cp := piece_pack ps hb (by omega)
    obtain ⟨E, hE⟩ : ∃ E, E = cmpE ps := ⟨_, rfl⟩
    rw [← hE]
    unfold cmpE at hE
    rw [if_neg (fun h => h hf)] at hE
    refine spec_of Tryz.func4 rfl Tryz.ntmps4 Tryz.results4 ⟨by decide, by simp⟩ fun C hC => ?_
    (repeat' ((fail_if_success (first | refine stop_at 4 ?_ | refine stop_l 4 ?_)); (first | refine sp_ ?_ | exact ex0 | refine call_u Tryz.call15 (co) [] ex1 ?_ | (refine ret_s [] ?_; simp (decide := true) (disch := omega) only [go_sem, ↓reduceIte, ↓put_at]))))
    refine own_c (3, 0) 0 (3, 1) 27 7 ?_
    simp (decide := true) (disch := omega) only [go_sem, ↓reduceIte, ↓put_at]
    refine own_c (3, 0) 1 (3, 2) 50 2 ?_
    simp (decide := true) (disch := omega) only [go_sem, ↓reduceIte, ↓put_at]
    refine own_c (3, 0) 2 (3, 3) 59 2 ?_
    simp (decide := true) (disch := omega) only [go_sem, ↓reduceIte, ↓put_at]
    refine own_c (3, 0) 3 (3, 4) 86 4 ?_
    simp (decide := true) (disch := omega) only [go_sem, ↓reduceIte, ↓put_at]
    refine own_c (3, 0) 4 (3, 5) 53 3 ?_
    simp (decide := true) (disch := omega) only [go_sem, ↓reduceIte, ↓put_at]
    refine own_c (3, 0) 5 (3, 6) 32 2 ?_
    simp (decide := true) (disch := omega) only [go_sem, ↓reduceIte, ↓put_at]
    refine own_c (3, 0) 6 (3, 7) 56 2 ?_
    simp (decide := true) (disch := omega) only [go_sem, ↓reduceIte, ↓put_at]
    (repeat' ((fail_if_success (refine stop_reg 5 ?_)); (first | refine sp_ ?_ | exact ex0 | (refine ret_s [] ?_; simp (decide := true) (disch := omega) only [go_sem, ↓reduceIte, ↓put_at]))))
    refine loop_s (α := {j : Nat // j ≤ ps.length ∧ ∀ i (h : i < ps.length), i < j → whatP ps[i] ≠ 0}) (fun j => [(.s 0, .av (.val (.lst 3 (ps.map pcEl)))), (.s 3, .av (.ptr (3, 0) 0 0)), (.o (3, 0), .num 7), (.c (3, 0) 0, .av (.own (3, 1) 0 27 7 ((bagOf (ps.take j.1)).reports.map r8El))), (.k (3, 1), .row 27 7 (bagOf (ps.take j.1)).reports.length), (.c (3, 0) 1, .av (.own (3, 2) 0 50 2 ((bagOf (ps.take j.1)).names.map n9El))), (.k (3, 2), .row 50 2 (bagOf (ps.take j.1)).names.length), (.c (3, 0) 2, .av (.own (3, 3) 0 59 2 ((bagOf (ps.take j.1)).byes.map y9El))), (.k (3, 3), .row 59 2 (bagOf (ps.take j.1)).byes.length), (.c (3, 0) 3, .av (.own (3, 4) 0 86 4 ((bagOf (ps.take j.1)).apps.map a9El))), (.k (3, 4), .row 86 4 (bagOf (ps.take j.1)).apps.length), (.c (3, 0) 4, .av (.own (3, 5) 0 53 3 ((bagOf (ps.take j.1)).nacks.map n10El))), (.k (3, 5), .row 53 3 (bagOf (ps.take j.1)).nacks.length), (.c (3, 0) 5, .av (.own (3, 6) 0 32 2 ((bagOf (ps.take j.1)).lines.map r11El))), (.k (3, 6), .row 32 2 (bagOf (ps.take j.1)).lines.length), (.c (3, 0) 6, .av (.own (3, 7) 0 56 2 ((bagOf (ps.take j.1)).ads.map s11El))), (.k (3, 7), .row 56 2 (bagOf (ps.take j.1)).ads.length), (.s 9, .av (.val (.lst 3 (ps.map pcEl)))), (.s 10, .av (.val (vi ps.length))), (.s 11, .av (.val (vi j.1)))]) (fun j => ps.length - j.1) ⟨0, Nat.zero_le _, fun i _ h => by omega⟩ ?_ (fun j => ?_)
    · (try dsimp only)
      rw [List.take_zero, bag_zero]
      unfold noBag
      simp (decide := true) (disch := omega) only [go_sem, ↓reduceIte, ↓put_at]
    · obtain ⟨j, hj, hg⟩ := j
      dsimp only at hj hg ⊢
      by_cases hlt : j < ps.length
      · have hge : (ps.map pcEl).getD j [] = pcEl ps[j] := by simp [hlt]
        have c := cmp_take (bagOf (ps.take j)) ps[j] (hb _ (List.getElem_mem hlt)) (bag_few _ (by rw [List.length_take]; omega))
        have hnx := bag_next ps j hlt
        by_cases hw : whatP ps[j] = 0
        · rw [if_pos ⟨_, List.getElem_mem hlt, hw⟩] at hE
          subst hE
          rw [decide_eq_false (fun h => h hw)] at c
          generalize tookB (bagOf (ps.take j)) ps[j] = B2 at *
          generalize bagOf (ps.take j) = B at *
          (repeat' ((first | refine sp_ ?_ | exact ex0 | refine call_u Tryz.call16 (c) [(3, 0)] ex1 ?_ | (refine ret_s [] ?_; simp (decide := true) (disch := omega) only [go_sem, ↓reduceIte, ↓put_at]))))
        · have hg2 : ∀ i (h : i < ps.length), i < j + 1 → whatP ps[i] ≠ 0 := fun i h hi => by
            rcases Nat.lt_succ_iff_lt_or_eq.1 hi with h2 | rfl
            · exact hg i h h2
            · exact hw
          rw [decide_eq_true hw] at c
          generalize tookB (bagOf (ps.take j)) ps[j] = B2 at *
          generalize bagOf (ps.take j) = B at *
          (repeat' ((first | refine sp_ ?_ | exact ex0 | refine call_u Tryz.call16 (c) [(3, 0)] ex1 ?_ | (refine ret_s [] ?_; simp (decide := true) (disch := omega) only [go_sem, ↓reduceIte, ↓put_at]))))
          refine next_s (α := {j : Nat // j ≤ ps.length ∧ ∀ i (h : i < ps.length), i < j → whatP ps[i] ≠ 0}) ⟨j + 1, hlt, hg2⟩ ⟨?_, by (try dsimp only); omega⟩
          (try dsimp only)
          rw [hnx]
          simp (decide := true) (disch := omega) only [go_sem, ↓reduceIte, ↓put_at]
      · have hall : ¬ ∃ p ∈ ps, whatP p = 0 := fun ⟨p, hp, hw⟩ => by
          obtain ⟨i, hi, rfl⟩ := List.mem_iff_getElem.1 hp
          exact hg i hi (by omega) hw
        rw [if_neg hall] at hE
        have hple := packP_le ps hb0
        by_cases hbig : 1500 < (packP ps).length + 16
        · rw [if_pos hbig] at hE
          subst hE
          generalize packP ps = P at *
          (repeat' ((first | refine sp_ ?_ | exact ex0 | refine call_u Tryz.call17 (cp) [] ex1 ?_ | (refine ret_s [] ?_; simp (decide := true) (disch := omega) only [go_sem, ↓reduceIte, ↓put_at]))))
        · rw [if_neg hbig] at hE
          subst hE
          generalize packP ps = P at *
          (repeat' ((first | refine sp_ ?_ | exact ex0 | refine call_u Tryz.call17 (cp) [] ex1 ?_ | (refine ret_s [] ?_; simp (decide := true) (disch := omega) only [go_sem, ↓reduceIte, ↓put_at]))))
end Go.Proofs.YtbnnfmleoebelaaGreat

