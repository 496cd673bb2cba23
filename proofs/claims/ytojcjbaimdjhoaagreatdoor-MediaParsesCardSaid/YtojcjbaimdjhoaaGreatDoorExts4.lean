
/- Layer 5: the reference Pack. Layer 5: the reference Parse. -/
import Derived.Test.YtojcjbaimdjhoaaGreatDoorExts1
import Derived.Test.YtojcjbaimdjhoaaGreatDoorQRef
import Derived.Test.YtojcjbaimdjhoaaGreatDoorRtp6
namespace Go.Proofs.YtojcjbaimdjhoaaGreatDoor
open Go.RowKit
set_option linter.unusedVariables false
set_option linter.unusedSimpArgs false

theorem formOk_ne {n : Int} (h : formOk n = 0) : n ≠ 1 ∧ n ≠ 2 := by
  constructor
  · rintro rfl; cases h
  · rintro rfl; cases h
theorem zer_snoc (k : Nat) : zer (k + 1) = zer k ++ [0] := List.replicate_succ'
set_option maxRecDepth 100000 in
set_option maxHeartbeats 4000000 in
theorem ref_pack5 (n : Int) (l : List E5) (hl : l.length ≤ maxLen) (hr : (raw5 (formOk n) l).length ≤ 1000000000) : Spec Tryz.prog 62 [.ca (.val (vi n)), .ca (.val (.lst 2 (l.map e5El)))] [] (.ca (.val (.tup [vi (pack5 n l).1, vs (pack5 n l).2.1, vi (pack5 n l).2.2]))) [] := by
  unfold maxLen at hl
  by_cases h0 : formOk n = 0
  · have e : pack5 n l = (0, [], 5) := by unfold pack5; rw [if_pos h0]
    obtain ⟨n1, n2⟩ := formOk_ne h0
    rw [e]
    refine spec_of Tryz.func62 rfl Tryz.ntmps62 Tryz.results62 ⟨by decide, by simp⟩ fun C hC => ?_
    (repeat (first | refine aw_seq ?_ | refine aw_block ?_ | refine aw_reg hC (by kernel_rfl) ?_ | refine aw_regd hC Tryz.checked.mixed (by kernel_rfl) ?_ | refine chk_and (by kernel_rfl) ?_ | refine aw_skip ?_ | refine aw_if ?_ | refine And.intro (by first | omega | with_reducible assumption) ?_ | refine aw_exit ?_ | refine aw_ret ?_ | (simp (decide := true) (disch := omega) only [go_sem, ↓reduceIte, ↓put_at])))
    (refine ret_s [] ?_; simp (decide := true) (disch := omega) only [go_sem, ↓reduceIte, ↓put_at])
  obtain ⟨hf, hfn⟩ := formOk_12 n h0
  obtain ⟨R, hR⟩ : ∃ R, R = pack5 n l := ⟨_, rfl⟩
  rw [← hR]
  unfold pack5 at hR
  rw [if_neg h0] at hR
  generalize formOk n = f at *
  subst hfn
  have hbad : ∀ j, (hj : j < l.length) → may5 f l[j] = false → R = (0, [], 6) := fun j hj hx => by
    rw [hR, all_bad f l j hj hx, if_neg (by rintro ⟨h, _⟩; cases h)]
  rcases hf with rfl | rfl
  · have m1 : mostId 1 = 14 := rfl
    have m2 : mostL 1 = 16 := rfl
    have m3 : leastL 1 = 1 := rfl
    refine spec_of Tryz.func62 rfl Tryz.ntmps62 Tryz.results62 ⟨by decide, by simp⟩ fun C hC => ?_
    (repeat ((fail_if_success (refine stop_reg 5 ?_)); (first | refine aw_seq ?_ | refine aw_block ?_ | refine aw_reg hC (by kernel_rfl) ?_ | refine aw_regd hC Tryz.checked.mixed (by kernel_rfl) ?_ | refine chk_and (by kernel_rfl) ?_ | refine aw_skip ?_ | refine aw_if ?_ | refine And.intro (by first | omega | with_reducible assumption) ?_ | refine aw_exit ?_ | refine aw_ret ?_ | (simp (decide := true) (disch := omega) only [go_sem, ↓reduceIte, ↓put_at]))))
    refine loop_s (α := {j : Nat // j ≤ l.length ∧ (l.take j).all (may5 1) = true}) (fun j => [(.s 0, .av (.val (vi 1))), (.s 7, .av (.val (vs (raw5 1 (l.take j.1))))), (.s 17, .av (.val (.lst 2 (l.map e5El)))), (.s 18, .av (.val (vi l.length))), (.s 19, .av (.val (vi j.1)))]) (fun j => l.length - j.1) ⟨0, Nat.zero_le _, rfl⟩ ?_ (fun j => ?_)
    · simp only [List.take_zero, raw5, List.flatMap_nil]
      simp (decide := true) (disch := omega) only [go_sem, ↓reduceIte, ↓put_at]
    · obtain ⟨j, hj, ha⟩ := j
      dsimp only at hj ha ⊢
      have hrj := raw5_take 1 l j
      by_cases hlt : j < l.length
      · have hs : l.take (j + 1) = l.take j ++ [l[j]] := List.take_succ_eq_append_getElem hlt
        have hrj1 := raw5_take 1 l (j + 1)
        have hdl := raw5_data 1 l l[j] (List.getElem_mem hlt)
        have hsn := raw5_snoc 1 (l.take j) l[j]
        rw [← hs] at hsn
        by_cases g1 : 1 ≤ l[j].id
        · by_cases g2 : l[j].id ≤ 14
          · by_cases g3 : 1 ≤ l[j].data.length
            · by_cases g4 : l[j].data.length ≤ 16
              · have hm : may5 1 l[j] = true := (may5_iff _ _).2 ⟨by omega, by omega, by omega, by omega⟩
                have hal := all_snoc 1 l j hlt ha hm
                have c1 := q_put (16 * l[j].id + l[j].data.length - 1) 1 (by omega) (by decide)
                have hz := putZ_length (16 * l[j].id + l[j].data.length - 1) 1
                have e3 : raw5 1 (l.take (j + 1)) = raw5 1 (l.take j) ++ (putZ (16 * l[j].id + l[j].data.length - 1) 1 ++ l[j].data) := by rw [hsn]; simp [item5, head5]
                (repeat (first | refine aw_seq ?_ | refine aw_block ?_ | refine aw_reg hC (by kernel_rfl) ?_ | refine aw_regd hC Tryz.checked.mixed (by kernel_rfl) ?_ | refine chk_and (by kernel_rfl) ?_ | refine aw_skip ?_ | refine aw_if ?_ | refine And.intro (by first | omega | with_reducible assumption) ?_ | refine aw_exit ?_ | refine aw_ret ?_ | (simp (decide := true) (disch := omega) only [go_sem, ↓reduceIte, ↓put_at])))
                refine call_s Tryz.call63 c1 [] ?_
                (repeat (first | refine aw_seq ?_ | refine aw_block ?_ | refine aw_reg hC (by kernel_rfl) ?_ | refine aw_regd hC Tryz.checked.mixed (by kernel_rfl) ?_ | refine chk_and (by kernel_rfl) ?_ | refine aw_skip ?_ | refine aw_if ?_ | refine And.intro (by first | omega | with_reducible assumption) ?_ | refine aw_exit ?_ | refine aw_ret ?_ | (simp (decide := true) (disch := omega) only [go_sem, ↓reduceIte, ↓put_at])))
                refine next_s ⟨j + 1, hlt, hal⟩ ⟨?_, by dsimp only; omega⟩
                rw [e3]
                simp (decide := true) (disch := omega) only [go_sem, ↓reduceIte, ↓put_at]
                all_goals (try simp)
              · have hm : may5 1 l[j] = false := by
                  cases hc : may5 1 l[j] with
                  | false => rfl
                  | true =>
                    obtain ⟨q1, q2, q3, q4⟩ := (may5_iff _ _).1 hc
                    omega
                rw [hbad j hlt hm]
                (repeat (first | refine aw_seq ?_ | refine aw_block ?_ | refine aw_reg hC (by kernel_rfl) ?_ | refine aw_regd hC Tryz.checked.mixed (by kernel_rfl) ?_ | refine chk_and (by kernel_rfl) ?_ | refine aw_skip ?_ | refine aw_if ?_ | refine And.intro (by first | omega | with_reducible assumption) ?_ | refine aw_exit ?_ | refine aw_ret ?_ | (simp (decide := true) (disch := omega) only [go_sem, ↓reduceIte, ↓put_at])))
                (refine ret_s [] ?_; simp (decide := true) (disch := omega) only [go_sem, ↓reduceIte, ↓put_at])
            · have hm : may5 1 l[j] = false := by
                cases hc : may5 1 l[j] with
                | false => rfl
                | true =>
                  obtain ⟨q1, q2, q3, q4⟩ := (may5_iff _ _).1 hc
                  omega
              rw [hbad j hlt hm]
              (repeat (first | refine aw_seq ?_ | refine aw_block ?_ | refine aw_reg hC (by kernel_rfl) ?_ | refine aw_regd hC Tryz.checked.mixed (by kernel_rfl) ?_ | refine chk_and (by kernel_rfl) ?_ | refine aw_skip ?_ | refine aw_if ?_ | refine And.intro (by first | omega | with_reducible assumption) ?_ | refine aw_exit ?_ | refine aw_ret ?_ | (simp (decide := true) (disch := omega) only [go_sem, ↓reduceIte, ↓put_at])))
              (refine ret_s [] ?_; simp (decide := true) (disch := omega) only [go_sem, ↓reduceIte, ↓put_at])
          · have hm : may5 1 l[j] = false := by
              cases hc : may5 1 l[j] with
              | false => rfl
              | true =>
                obtain ⟨q1, q2, q3, q4⟩ := (may5_iff _ _).1 hc
                omega
            rw [hbad j hlt hm]
            (repeat (first | refine aw_seq ?_ | refine aw_block ?_ | refine aw_reg hC (by kernel_rfl) ?_ | refine aw_regd hC Tryz.checked.mixed (by kernel_rfl) ?_ | refine chk_and (by kernel_rfl) ?_ | refine aw_skip ?_ | refine aw_if ?_ | refine And.intro (by first | omega | with_reducible assumption) ?_ | refine aw_exit ?_ | refine aw_ret ?_ | (simp (decide := true) (disch := omega) only [go_sem, ↓reduceIte, ↓put_at])))
            (refine ret_s [] ?_; simp (decide := true) (disch := omega) only [go_sem, ↓reduceIte, ↓put_at])
        · have hm : may5 1 l[j] = false := by
            cases hc : may5 1 l[j] with
            | false => rfl
            | true =>
              obtain ⟨q1, q2, q3, q4⟩ := (may5_iff _ _).1 hc
              omega
          rw [hbad j hlt hm]
          (repeat (first | refine aw_seq ?_ | refine aw_block ?_ | refine aw_reg hC (by kernel_rfl) ?_ | refine aw_regd hC Tryz.checked.mixed (by kernel_rfl) ?_ | refine chk_and (by kernel_rfl) ?_ | refine aw_skip ?_ | refine aw_if ?_ | refine And.intro (by first | omega | with_reducible assumption) ?_ | refine aw_exit ?_ | refine aw_ret ?_ | (simp (decide := true) (disch := omega) only [go_sem, ↓reduceIte, ↓put_at])))
          (refine ret_s [] ?_; simp (decide := true) (disch := omega) only [go_sem, ↓reduceIte, ↓put_at])
      · have hjl : l.take j = l := List.take_of_length_le (by omega)
        have ha2 : l.all (may5 1) = true := hjl ▸ ha
        simp only [hjl]
        obtain ⟨B, hB⟩ : ∃ B, B = raw5 1 l := ⟨_, rfl⟩
        rw [← hB] at hr ⊢
        have hpl := pad5_le B.length
        have ep : pad5 B.length = (4 - B.length % 4) % 4 := rfl
        unfold bytes5 at hR
        rw [← hB] at hR
        have hz := fun k => zer_len k
        have hbl : (B ++ zer (pad5 B.length)).length = B.length + pad5 B.length := by rw [List.length_append, zer_len]
        rw [ha2, hbl] at hR
        (repeat (first | refine aw_seq ?_ | refine aw_block ?_ | refine aw_reg hC (by kernel_rfl) ?_ | refine aw_regd hC Tryz.checked.mixed (by kernel_rfl) ?_ | refine chk_and (by kernel_rfl) ?_ | refine aw_skip ?_ | refine aw_if ?_ | refine And.intro (by first | omega | with_reducible assumption) ?_ | refine aw_exit ?_ | refine aw_ret ?_ | (simp (decide := true) (disch := omega) only [go_sem, ↓reduceIte, ↓put_at])))
        refine loop_s (α := {k : Nat // k ≤ pad5 B.length}) (fun k => [(.s 0, .av (.val (vi 1))), (.s 7, .av (.val (vs (B ++ zer k.1))))]) (fun k => pad5 B.length - k.1) ⟨0, Nat.zero_le _⟩ ?_ (fun k => ?_)
        · simp only [zer, List.replicate_zero, List.append_nil]
          simp (decide := true) (disch := omega) only [go_sem, ↓reduceIte, ↓put_at]
        · obtain ⟨k, hk⟩ := k
          dsimp only at hk ⊢
          have hzk := zer_len k
          have hzs := zer_snoc k
          by_cases hlt2 : k < pad5 B.length
          · have hne : ((B.length : Int) + (k : Int)) % 4 ≠ 0 := by omega
            (repeat (first | refine aw_seq ?_ | refine aw_block ?_ | refine aw_reg hC (by kernel_rfl) ?_ | refine aw_regd hC Tryz.checked.mixed (by kernel_rfl) ?_ | refine chk_and (by kernel_rfl) ?_ | refine aw_skip ?_ | refine aw_if ?_ | refine And.intro (by first | omega | with_reducible assumption) ?_ | refine aw_exit ?_ | refine aw_ret ?_ | (simp (decide := true) (disch := omega) only [go_sem, ↓reduceIte, ↓put_at])))
            refine next_s ⟨k + 1, hlt2⟩ ⟨?_, by dsimp only; omega⟩
            rw [hzs]
            simp (decide := true) (disch := omega) only [go_sem, ↓reduceIte, ↓put_at]
            all_goals (try simp)
          · obtain rfl : k = pad5 B.length := by omega
            have he : ((B.length : Int) + (pad5 B.length : Int)) % 4 = 0 := by omega
            by_cases hm : B.length + pad5 B.length ≤ 262140
            · rw [if_pos ⟨rfl, hm⟩] at hR
              subst hR
              (repeat (first | refine aw_seq ?_ | refine aw_block ?_ | refine aw_reg hC (by kernel_rfl) ?_ | refine aw_regd hC Tryz.checked.mixed (by kernel_rfl) ?_ | refine chk_and (by kernel_rfl) ?_ | refine aw_skip ?_ | refine aw_if ?_ | refine And.intro (by first | omega | with_reducible assumption) ?_ | refine aw_exit ?_ | refine aw_ret ?_ | (simp (decide := true) (disch := omega) only [go_sem, ↓reduceIte, ↓put_at])))
              (refine ret_s [] ?_; simp (decide := true) (disch := omega) only [go_sem, ↓reduceIte, ↓put_at])
            · rw [if_neg (fun h => hm h.2)] at hR
              subst hR
              (repeat (first | refine aw_seq ?_ | refine aw_block ?_ | refine aw_reg hC (by kernel_rfl) ?_ | refine aw_regd hC Tryz.checked.mixed (by kernel_rfl) ?_ | refine chk_and (by kernel_rfl) ?_ | refine aw_skip ?_ | refine aw_if ?_ | refine And.intro (by first | omega | with_reducible assumption) ?_ | refine aw_exit ?_ | refine aw_ret ?_ | (simp (decide := true) (disch := omega) only [go_sem, ↓reduceIte, ↓put_at])))
              (refine ret_s [] ?_; simp (decide := true) (disch := omega) only [go_sem, ↓reduceIte, ↓put_at])
  · have m1 : mostId 2 = 255 := rfl
    have m2 : mostL 2 = 255 := rfl
    have m3 : leastL 2 = 0 := rfl
    refine spec_of Tryz.func62 rfl Tryz.ntmps62 Tryz.results62 ⟨by decide, by simp⟩ fun C hC => ?_
    (repeat ((fail_if_success (refine stop_reg 5 ?_)); (first | refine aw_seq ?_ | refine aw_block ?_ | refine aw_reg hC (by kernel_rfl) ?_ | refine aw_regd hC Tryz.checked.mixed (by kernel_rfl) ?_ | refine chk_and (by kernel_rfl) ?_ | refine aw_skip ?_ | refine aw_if ?_ | refine And.intro (by first | omega | with_reducible assumption) ?_ | refine aw_exit ?_ | refine aw_ret ?_ | (simp (decide := true) (disch := omega) only [go_sem, ↓reduceIte, ↓put_at]))))
    refine loop_s (α := {j : Nat // j ≤ l.length ∧ (l.take j).all (may5 2) = true}) (fun j => [(.s 0, .av (.val (vi 2))), (.s 7, .av (.val (vs (raw5 2 (l.take j.1))))), (.s 17, .av (.val (.lst 2 (l.map e5El)))), (.s 18, .av (.val (vi l.length))), (.s 19, .av (.val (vi j.1)))]) (fun j => l.length - j.1) ⟨0, Nat.zero_le _, rfl⟩ ?_ (fun j => ?_)
    · simp only [List.take_zero, raw5, List.flatMap_nil]
      simp (decide := true) (disch := omega) only [go_sem, ↓reduceIte, ↓put_at]
    · obtain ⟨j, hj, ha⟩ := j
      dsimp only at hj ha ⊢
      have hrj := raw5_take 2 l j
      by_cases hlt : j < l.length
      · have hs : l.take (j + 1) = l.take j ++ [l[j]] := List.take_succ_eq_append_getElem hlt
        have hrj1 := raw5_take 2 l (j + 1)
        have hdl := raw5_data 2 l l[j] (List.getElem_mem hlt)
        have hsn := raw5_snoc 2 (l.take j) l[j]
        rw [← hs] at hsn
        by_cases g1 : 1 ≤ l[j].id
        · by_cases g2 : l[j].id ≤ 255
          · by_cases g3 : l[j].data.length ≤ 255
            · have hm : may5 2 l[j] = true := (may5_iff _ _).2 ⟨by omega, by omega, by omega, by omega⟩
              have hal := all_snoc 2 l j hlt ha hm
              have c1 := q_put l[j].id 1 (by omega) (by decide)
              have c2 := q_put l[j].data.length 1 (by omega) (by decide)
              have hz := putZ_length l[j].id 1
              have hz2 := putZ_length l[j].data.length 1
              have e3 : raw5 2 (l.take (j + 1)) = raw5 2 (l.take j) ++ (putZ l[j].id 1 ++ putZ l[j].data.length 1 ++ l[j].data) := by rw [hsn]; simp [item5, head5]
              (repeat (first | refine aw_seq ?_ | refine aw_block ?_ | refine aw_reg hC (by kernel_rfl) ?_ | refine aw_regd hC Tryz.checked.mixed (by kernel_rfl) ?_ | refine chk_and (by kernel_rfl) ?_ | refine aw_skip ?_ | refine aw_if ?_ | refine And.intro (by first | omega | with_reducible assumption) ?_ | refine aw_exit ?_ | refine aw_ret ?_ | (simp (decide := true) (disch := omega) only [go_sem, ↓reduceIte, ↓put_at])))
              refine call_s Tryz.call63 c1 [] ?_
              (repeat (first | refine aw_seq ?_ | refine aw_block ?_ | refine aw_reg hC (by kernel_rfl) ?_ | refine aw_regd hC Tryz.checked.mixed (by kernel_rfl) ?_ | refine chk_and (by kernel_rfl) ?_ | refine aw_skip ?_ | refine aw_if ?_ | refine And.intro (by first | omega | with_reducible assumption) ?_ | refine aw_exit ?_ | refine aw_ret ?_ | (simp (decide := true) (disch := omega) only [go_sem, ↓reduceIte, ↓put_at])))
              refine call_s Tryz.call63 c2 [] ?_
              (repeat (first | refine aw_seq ?_ | refine aw_block ?_ | refine aw_reg hC (by kernel_rfl) ?_ | refine aw_regd hC Tryz.checked.mixed (by kernel_rfl) ?_ | refine chk_and (by kernel_rfl) ?_ | refine aw_skip ?_ | refine aw_if ?_ | refine And.intro (by first | omega | with_reducible assumption) ?_ | refine aw_exit ?_ | refine aw_ret ?_ | (simp (decide := true) (disch := omega) only [go_sem, ↓reduceIte, ↓put_at])))
              refine next_s ⟨j + 1, hlt, hal⟩ ⟨?_, by dsimp only; omega⟩
              rw [e3]
              simp (decide := true) (disch := omega) only [go_sem, ↓reduceIte, ↓put_at]
              all_goals (try simp)
            · have hm : may5 2 l[j] = false := by
                cases hc : may5 2 l[j] with
                | false => rfl
                | true =>
                  obtain ⟨q1, q2, q3, q4⟩ := (may5_iff _ _).1 hc
                  omega
              rw [hbad j hlt hm]
              (repeat (first | refine aw_seq ?_ | refine aw_block ?_ | refine aw_reg hC (by kernel_rfl) ?_ | refine aw_regd hC Tryz.checked.mixed (by kernel_rfl) ?_ | refine chk_and (by kernel_rfl) ?_ | refine aw_skip ?_ | refine aw_if ?_ | refine And.intro (by first | omega | with_reducible assumption) ?_ | refine aw_exit ?_ | refine aw_ret ?_ | (simp (decide := true) (disch := omega) only [go_sem, ↓reduceIte, ↓put_at])))
              (refine ret_s [] ?_; simp (decide := true) (disch := omega) only [go_sem, ↓reduceIte, ↓put_at])
          · have hm : may5 2 l[j] = false := by
              cases hc : may5 2 l[j] with
              | false => rfl
              | true =>
                obtain ⟨q1, q2, q3, q4⟩ := (may5_iff _ _).1 hc
                omega
            rw [hbad j hlt hm]
            (repeat (first | refine aw_seq ?_ | refine aw_block ?_ | refine aw_reg hC (by kernel_rfl) ?_ | refine aw_regd hC Tryz.checked.mixed (by kernel_rfl) ?_ | refine chk_and (by kernel_rfl) ?_ | refine aw_skip ?_ | refine aw_if ?_ | refine And.intro (by first | omega | with_reducible assumption) ?_ | refine aw_exit ?_ | refine aw_ret ?_ | (simp (decide := true) (disch := omega) only [go_sem, ↓reduceIte, ↓put_at])))
            (refine ret_s [] ?_; simp (decide := true) (disch := omega) only [go_sem, ↓reduceIte, ↓put_at])
        · have hm : may5 2 l[j] = false := by
            cases hc : may5 2 l[j] with
            | false => rfl
            | true =>
              obtain ⟨q1, q2, q3, q4⟩ := (may5_iff _ _).1 hc
              omega
          rw [hbad j hlt hm]
          (repeat (first | refine aw_seq ?_ | refine aw_block ?_ | refine aw_reg hC (by kernel_rfl) ?_ | refine aw_regd hC Tryz.checked.mixed (by kernel_rfl) ?_ | refine chk_and (by kernel_rfl) ?_ | refine aw_skip ?_ | refine aw_if ?_ | refine And.intro (by first | omega | with_reducible assumption) ?_ | refine aw_exit ?_ | refine aw_ret ?_ | (simp (decide := true) (disch := omega) only [go_sem, ↓reduceIte, ↓put_at])))
          (refine ret_s [] ?_; simp (decide := true) (disch := omega) only [go_sem, ↓reduceIte, ↓put_at])
      · have hjl : l.take j = l := List.take_of_length_le (by omega)
        have ha2 : l.all (may5 2) = true := hjl ▸ ha
        simp only [hjl]
        obtain ⟨B, hB⟩ : ∃ B, B = raw5 2 l := ⟨_, rfl⟩
        rw [← hB] at hr ⊢
        have hpl := pad5_le B.length
        have ep : pad5 B.length = (4 - B.length % 4) % 4 := rfl
        unfold bytes5 at hR
        rw [← hB] at hR
        have hz := fun k => zer_len k
        have hbl : (B ++ zer (pad5 B.length)).length = B.length + pad5 B.length := by rw [List.length_append, zer_len]
        rw [ha2, hbl] at hR
        (repeat (first | refine aw_seq ?_ | refine aw_block ?_ | refine aw_reg hC (by kernel_rfl) ?_ | refine aw_regd hC Tryz.checked.mixed (by kernel_rfl) ?_ | refine chk_and (by kernel_rfl) ?_ | refine aw_skip ?_ | refine aw_if ?_ | refine And.intro (by first | omega | with_reducible assumption) ?_ | refine aw_exit ?_ | refine aw_ret ?_ | (simp (decide := true) (disch := omega) only [go_sem, ↓reduceIte, ↓put_at])))
        refine loop_s (α := {k : Nat // k ≤ pad5 B.length}) (fun k => [(.s 0, .av (.val (vi 2))), (.s 7, .av (.val (vs (B ++ zer k.1))))]) (fun k => pad5 B.length - k.1) ⟨0, Nat.zero_le _⟩ ?_ (fun k => ?_)
        · simp only [zer, List.replicate_zero, List.append_nil]
          simp (decide := true) (disch := omega) only [go_sem, ↓reduceIte, ↓put_at]
        · obtain ⟨k, hk⟩ := k
          dsimp only at hk ⊢
          have hzk := zer_len k
          have hzs := zer_snoc k
          by_cases hlt2 : k < pad5 B.length
          · have hne : ((B.length : Int) + (k : Int)) % 4 ≠ 0 := by omega
            (repeat (first | refine aw_seq ?_ | refine aw_block ?_ | refine aw_reg hC (by kernel_rfl) ?_ | refine aw_regd hC Tryz.checked.mixed (by kernel_rfl) ?_ | refine chk_and (by kernel_rfl) ?_ | refine aw_skip ?_ | refine aw_if ?_ | refine And.intro (by first | omega | with_reducible assumption) ?_ | refine aw_exit ?_ | refine aw_ret ?_ | (simp (decide := true) (disch := omega) only [go_sem, ↓reduceIte, ↓put_at])))
            refine next_s ⟨k + 1, hlt2⟩ ⟨?_, by dsimp only; omega⟩
            rw [hzs]
            simp (decide := true) (disch := omega) only [go_sem, ↓reduceIte, ↓put_at]
            all_goals (try simp)
          · obtain rfl : k = pad5 B.length := by omega
            have he : ((B.length : Int) + (pad5 B.length : Int)) % 4 = 0 := by omega
            by_cases hm : B.length + pad5 B.length ≤ 262140
            · rw [if_pos ⟨rfl, hm⟩] at hR
              subst hR
              (repeat (first | refine aw_seq ?_ | refine aw_block ?_ | refine aw_reg hC (by kernel_rfl) ?_ | refine aw_regd hC Tryz.checked.mixed (by kernel_rfl) ?_ | refine chk_and (by kernel_rfl) ?_ | refine aw_skip ?_ | refine aw_if ?_ | refine And.intro (by first | omega | with_reducible assumption) ?_ | refine aw_exit ?_ | refine aw_ret ?_ | (simp (decide := true) (disch := omega) only [go_sem, ↓reduceIte, ↓put_at])))
              (refine ret_s [] ?_; simp (decide := true) (disch := omega) only [go_sem, ↓reduceIte, ↓put_at])
            · rw [if_neg (fun h => hm h.2)] at hR
              subst hR
              (repeat (first | refine aw_seq ?_ | refine aw_block ?_ | refine aw_reg hC (by kernel_rfl) ?_ | refine aw_regd hC Tryz.checked.mixed (by kernel_rfl) ?_ | refine chk_and (by kernel_rfl) ?_ | refine aw_skip ?_ | refine aw_if ?_ | refine And.intro (by first | omega | with_reducible assumption) ?_ | refine aw_exit ?_ | refine aw_ret ?_ | (simp (decide := true) (disch := omega) only [go_sem, ↓reduceIte, ↓put_at])))
              (refine ret_s [] ?_; simp (decide := true) (disch := omega) only [go_sem, ↓reduceIte, ↓put_at])
end Go.Proofs.YtojcjbaimdjhoaaGreatDoor
namespace Go.Proofs.YtojcjbaimdjhoaaGreatDoor
open Go.RowKit
set_option linter.unusedVariables false
set_option linter.unusedSimpArgs false

def Ref5 (f : Nat) (s : List UInt8) (x : Nat × List E5) : Prop := x.2.length ≤ x.1 ∧ x.1 ≤ s.length ∧ go5 f s = acc5 x.2 (go5 f (s.drop x.1))
theorem getD_at (s : List UInt8) (j : Nat) (h : j < s.length) : s.getD j 0 = s[j] := by simp [h]
set_option maxRecDepth 100000 in
set_option maxHeartbeats 4000000 in
theorem ref_parse5 (p : Int) (s : List UInt8) (hl : s.length ≤ 1000000) : Spec Tryz.prog 22 [.ca (.val (vi p)), .ca (.val (vs s))] [] (.ca (.val (.tup [vi (parse5 p s).1, .lst 2 ((parse5 p s).2.1.map e5El), vi (parse5 p s).2.2]))) [] := by
  obtain ⟨R, hR⟩ : ∃ R, R = parse5 p s := ⟨_, rfl⟩
  rw [← hR]
  unfold parse5 at hR
  by_cases h0 : formN p = 0
  · rw [if_pos h0] at hR
    have n1 : p ≠ 48862 := by rintro rfl; cases h0
    have n2 : p ≠ 4096 := by rintro rfl; cases h0
    subst hR
    refine spec_of Tryz.func22 rfl Tryz.ntmps22 Tryz.results22 ⟨by decide, by simp⟩ fun C hC => ?_
    (repeat (first | refine aw_seq ?_ | refine aw_block ?_ | refine aw_reg hC (by kernel_rfl) ?_ | refine aw_regd hC Tryz.checked.mixed (by kernel_rfl) ?_ | refine chk_and (by kernel_rfl) ?_ | refine aw_skip ?_ | refine aw_if ?_ | refine And.intro (by first | omega | with_reducible assumption) ?_ | refine aw_exit ?_ | refine aw_ret ?_ | (simp (decide := true) (disch := omega) only [go_sem, ↓reduceIte, ↓put_at])))
    (refine ret_s [] ?_; simp (decide := true) (disch := omega) only [go_sem, ↓reduceIte, ↓put_at])
  rw [if_neg h0] at hR
  obtain ⟨hf, hp, _⟩ := formN_12 p h0
  generalize formN p = f at *
  subst hp
  by_cases h4 : s.length % 4 ≠ 0
  · rw [if_pos h4] at hR
    have h4' : (s.length : Int) % 4 ≠ 0 := by omega
    subst hR
    rcases hf with rfl | rfl
    · have m0 : prof 1 = 48862 := rfl
      refine spec_of Tryz.func22 rfl Tryz.ntmps22 Tryz.results22 ⟨by decide, by simp⟩ fun C hC => ?_
      (repeat (first | refine aw_seq ?_ | refine aw_block ?_ | refine aw_reg hC (by kernel_rfl) ?_ | refine aw_regd hC Tryz.checked.mixed (by kernel_rfl) ?_ | refine chk_and (by kernel_rfl) ?_ | refine aw_skip ?_ | refine aw_if ?_ | refine And.intro (by first | omega | with_reducible assumption) ?_ | refine aw_exit ?_ | refine aw_ret ?_ | (simp (decide := true) (disch := omega) only [go_sem, ↓reduceIte, ↓put_at])))
      (refine ret_s [] ?_; simp (decide := true) (disch := omega) only [go_sem, ↓reduceIte, ↓put_at])
    · have m0 : prof 2 = 4096 := rfl
      refine spec_of Tryz.func22 rfl Tryz.ntmps22 Tryz.results22 ⟨by decide, by simp⟩ fun C hC => ?_
      (repeat (first | refine aw_seq ?_ | refine aw_block ?_ | refine aw_reg hC (by kernel_rfl) ?_ | refine aw_regd hC Tryz.checked.mixed (by kernel_rfl) ?_ | refine chk_and (by kernel_rfl) ?_ | refine aw_skip ?_ | refine aw_if ?_ | refine And.intro (by first | omega | with_reducible assumption) ?_ | refine aw_exit ?_ | refine aw_ret ?_ | (simp (decide := true) (disch := omega) only [go_sem, ↓reduceIte, ↓put_at])))
      (refine ret_s [] ?_; simp (decide := true) (disch := omega) only [go_sem, ↓reduceIte, ↓put_at])
  rw [if_neg h4] at hR
  have h4' : (s.length : Int) % 4 = 0 := by omega
  rcases hf with rfl | rfl
  · have m0 : prof 1 = 48862 := rfl
    have m1 : mostId 1 = 14 := rfl
    refine spec_of Tryz.func22 rfl Tryz.ntmps22 Tryz.results22 ⟨by decide, by simp⟩ fun C hC => ?_
    (repeat ((fail_if_success (refine stop_reg 12 ?_)); (first | refine aw_seq ?_ | refine aw_block ?_ | refine aw_reg hC (by kernel_rfl) ?_ | refine aw_regd hC Tryz.checked.mixed (by kernel_rfl) ?_ | refine chk_and (by kernel_rfl) ?_ | refine aw_skip ?_ | refine aw_if ?_ | refine And.intro (by first | omega | with_reducible assumption) ?_ | refine aw_exit ?_ | refine aw_ret ?_ | (simp (decide := true) (disch := omega) only [go_sem, ↓reduceIte, ↓put_at]))))
    refine loop_s (α := {x : Nat × List E5 // Ref5 1 s x}) (fun x => [(.s 1, .av (.val (vs s))), (.s 7, .av (.val (vi 1))), (.s 8, .av (.own (24, 0) 0 71 2 (x.1.2.map e5El))), (.k (24, 0), .row 71 2 (x.1.2.map e5El).length), (.s 9, .av (.val (vi x.1.1)))]) (fun x => s.length - x.1.1) ⟨(0, []), by simp, Nat.zero_le _, by rw [List.drop_zero, acc5_nil _ (go5_err 1 s)]⟩ ?_ (fun x => ?_)
    · simp (decide := true) (disch := omega) only [go_sem, ↓reduceIte, ↓put_at]
      kernel_rfl
    · obtain ⟨⟨j, out⟩, hq1, hq2, hq3⟩ := x
      dsimp only at hq1 hq2 hq3 ⊢
      by_cases hlt : j < s.length
      · obtain ⟨b, hb⟩ : ∃ b, b = s.getD j 0 := ⟨_, rfl⟩
        obtain ⟨t, ht⟩ : ∃ t, t = s.drop (j + 1) := ⟨_, rfl⟩
        have htl : t.length = s.length - (j + 1) := by rw [ht, List.length_drop]
        have hdr : s.drop j = b :: t := by rw [List.drop_eq_getElem_cons hlt, ht, hb, getD_at s j hlt]
        rw [hdr] at hq3
        have hbt : b.toNat < 256 := b.toNat_lt
        by_cases hb0 : b.toNat = 0
        · have hbz : b = 0 := UInt8.toNat_inj.1 (by rw [hb0]; rfl)
          rw [go5_cons, if_pos hbz] at hq3
          have hzi : t = zer t.length ↔ ∀ k, j + 1 ≤ k → k < s.length → (s.getD k 0).toNat = 0 := by
            have h := zer_iff s (j + 1) t.length (by omega)
            rw [← ht, List.take_length] at h
            unfold zer
            rw [h]
            constructor
            · intro h k h1 h2; exact h k h1 (by omega)
            · intro h k h1 h2; exact h k h1 (by omega)
          by_cases hz3 : t.length < 3
          · (repeat ((fail_if_success (refine stop_reg 18 ?_)); (first | refine aw_seq ?_ | refine aw_block ?_ | refine aw_reg hC (by kernel_rfl) ?_ | refine aw_regd hC Tryz.checked.mixed (by kernel_rfl) ?_ | refine chk_and (by kernel_rfl) ?_ | refine aw_skip ?_ | refine aw_if ?_ | refine And.intro (by first | omega | with_reducible assumption) ?_ | refine aw_exit ?_ | refine aw_ret ?_ | (simp (decide := true) (disch := omega) only [go_sem, ↓reduceIte, ↓put_at]))))
            simp only [← hb]
            (repeat ((fail_if_success (refine stop_reg 18 ?_)); (first | refine aw_seq ?_ | refine aw_block ?_ | refine aw_reg hC (by kernel_rfl) ?_ | refine aw_regd hC Tryz.checked.mixed (by kernel_rfl) ?_ | refine chk_and (by kernel_rfl) ?_ | refine aw_skip ?_ | refine aw_if ?_ | refine And.intro (by first | omega | with_reducible assumption) ?_ | refine aw_exit ?_ | refine aw_ret ?_ | (simp (decide := true) (disch := omega) only [go_sem, ↓reduceIte, ↓put_at]))))
            refine loop_s (α := {k : Nat // j ≤ k ∧ k ≤ s.length ∧ ∀ i, j ≤ i → i < k → (s.getD i 0).toNat = 0}) (fun k => [(.s 1, .av (.val (vs s))), (.s 7, .av (.val (vi 1))), (.s 8, .av (.own (24, 0) 0 71 2 (out.map e5El))), (.k (24, 0), .row 71 2 (out.map e5El).length), (.s 11, .av (.val (vi k.1)))]) (fun k => s.length - k.1) ⟨j, Nat.le_refl _, hq2, fun i h1 h2 => absurd h2 (by omega)⟩ ?_ (fun k => ?_)
            · simp (decide := true) (disch := omega) only [go_sem, ↓reduceIte, ↓put_at]
            · obtain ⟨k, hk1, hk2, hk3⟩ := k
              dsimp only at hk1 hk2 ⊢
              by_cases hkl : k < s.length
              · have hck : (s.getD k 0).toNat < 256 := UInt8.toNat_lt _
                by_cases hkz : (s.getD k 0).toNat = 0
                · (repeat (first | refine aw_seq ?_ | refine aw_block ?_ | refine aw_reg hC (by kernel_rfl) ?_ | refine aw_regd hC Tryz.checked.mixed (by kernel_rfl) ?_ | refine chk_and (by kernel_rfl) ?_ | refine aw_skip ?_ | refine aw_if ?_ | refine And.intro (by first | omega | with_reducible assumption) ?_ | refine aw_exit ?_ | refine aw_ret ?_ | (simp (decide := true) (disch := omega) only [go_sem, ↓reduceIte, ↓put_at])))
                  refine next_s ⟨k + 1, by omega, hkl, fun i h1 h2 => ?_⟩ ⟨?_, by dsimp only; omega⟩
                  · by_cases h3 : i = k
                    · rw [h3]; exact hkz
                    · exact hk3 i h1 (by omega)
                  · simp (decide := true) (disch := omega) only [go_sem, ↓reduceIte, ↓put_at]
                · have hnz : ¬ t = zer t.length := fun h => by
                    by_cases h3 : k = j
                    · rw [h3, ← hb] at hkz; exact hkz hb0
                    · exact hkz (hzi.1 h k (by omega) hkl)
                  rw [if_neg (fun h => hnz h.2)] at hq3
                  have hg2 : go5 1 s = ([], 1) := hq3
                  rw [hg2, if_neg (by decide)] at hR
                  subst hR
                  (repeat (first | refine aw_seq ?_ | refine aw_block ?_ | refine aw_reg hC (by kernel_rfl) ?_ | refine aw_regd hC Tryz.checked.mixed (by kernel_rfl) ?_ | refine chk_and (by kernel_rfl) ?_ | refine aw_skip ?_ | refine aw_if ?_ | refine And.intro (by first | omega | with_reducible assumption) ?_ | refine aw_exit ?_ | refine aw_ret ?_ | (simp (decide := true) (disch := omega) only [go_sem, ↓reduceIte, ↓put_at])))
                  (refine ret_s [] ?_; simp (decide := true) (disch := omega) only [go_sem, ↓reduceIte, ↓put_at])
              · have hzz : t = zer t.length := hzi.2 (fun i h1 h2 => hk3 i (by omega) (by omega))
                rw [if_pos ⟨hz3, hzz⟩] at hq3
                have hg2 : go5 1 s = (out, 0) := by rw [hq3]; simp [acc5]
                rw [hg2, if_pos rfl] at hR
                subst hR
                (repeat (first | refine aw_seq ?_ | refine aw_block ?_ | refine aw_reg hC (by kernel_rfl) ?_ | refine aw_regd hC Tryz.checked.mixed (by kernel_rfl) ?_ | refine chk_and (by kernel_rfl) ?_ | refine aw_skip ?_ | refine aw_if ?_ | refine And.intro (by first | omega | with_reducible assumption) ?_ | refine aw_exit ?_ | refine aw_ret ?_ | (simp (decide := true) (disch := omega) only [go_sem, ↓reduceIte, ↓put_at])))
                (refine ret_s [] ?_; simp (decide := true) (disch := omega) only [go_sem, ↓reduceIte, ↓put_at])
          · rw [if_neg (fun h => hz3 h.1)] at hq3
            have hg2 : go5 1 s = ([], 1) := hq3
            rw [hg2, if_neg (by decide)] at hR
            subst hR
            (repeat (first | refine aw_seq ?_ | refine aw_block ?_ | refine aw_reg hC (by kernel_rfl) ?_ | refine aw_regd hC Tryz.checked.mixed (by kernel_rfl) ?_ | refine chk_and (by kernel_rfl) ?_ | refine aw_skip ?_ | refine aw_if ?_ | refine And.intro (by first | omega | with_reducible assumption) ?_ | refine aw_exit ?_ | refine aw_ret ?_ | (simp (decide := true) (disch := omega) only [go_sem, ↓reduceIte, ↓put_at])))
            simp only [← hb]
            (repeat (first | refine aw_seq ?_ | refine aw_block ?_ | refine aw_reg hC (by kernel_rfl) ?_ | refine aw_regd hC Tryz.checked.mixed (by kernel_rfl) ?_ | refine chk_and (by kernel_rfl) ?_ | refine aw_skip ?_ | refine aw_if ?_ | refine And.intro (by first | omega | with_reducible assumption) ?_ | refine aw_exit ?_ | refine aw_ret ?_ | (simp (decide := true) (disch := omega) only [go_sem, ↓reduceIte, ↓put_at])))
            (refine ret_s [] ?_; simp (decide := true) (disch := omega) only [go_sem, ↓reduceIte, ↓put_at])
        · have hbz : ¬ b = 0 := by rintro rfl; exact hb0 rfl
          rw [go5_cons, if_neg hbz] at hq3
          have ei : id5 1 b = b.toNat / 16 := rfl
          have el : len5 1 b t = b.toNat % 16 + 1 := rfl
          have er : rest5 1 t = t := rfl
          by_cases hi : id5 1 b = 0 ∨ mostId 1 < (id5 1 b : Int)
          · rw [if_pos hi] at hq3
            have hg2 : go5 1 s = ([], 1) := hq3
            rw [hg2, if_neg (by decide)] at hR
            subst hR
            by_cases hi0 : b.toNat / 16 = 0
            · (repeat (first | refine aw_seq ?_ | refine aw_block ?_ | refine aw_reg hC (by kernel_rfl) ?_ | refine aw_regd hC Tryz.checked.mixed (by kernel_rfl) ?_ | refine chk_and (by kernel_rfl) ?_ | refine aw_skip ?_ | refine aw_if ?_ | refine And.intro (by first | omega | with_reducible assumption) ?_ | refine aw_exit ?_ | refine aw_ret ?_ | (simp (decide := true) (disch := omega) only [go_sem, ↓reduceIte, ↓put_at])))
              simp only [← hb]
              (repeat (first | refine aw_seq ?_ | refine aw_block ?_ | refine aw_reg hC (by kernel_rfl) ?_ | refine aw_regd hC Tryz.checked.mixed (by kernel_rfl) ?_ | refine chk_and (by kernel_rfl) ?_ | refine aw_skip ?_ | refine aw_if ?_ | refine And.intro (by first | omega | with_reducible assumption) ?_ | refine aw_exit ?_ | refine aw_ret ?_ | (simp (decide := true) (disch := omega) only [go_sem, ↓reduceIte, ↓put_at])))
              (refine ret_s [] ?_; simp (decide := true) (disch := omega) only [go_sem, ↓reduceIte, ↓put_at])
            · (repeat (first | refine aw_seq ?_ | refine aw_block ?_ | refine aw_reg hC (by kernel_rfl) ?_ | refine aw_regd hC Tryz.checked.mixed (by kernel_rfl) ?_ | refine chk_and (by kernel_rfl) ?_ | refine aw_skip ?_ | refine aw_if ?_ | refine And.intro (by first | omega | with_reducible assumption) ?_ | refine aw_exit ?_ | refine aw_ret ?_ | (simp (decide := true) (disch := omega) only [go_sem, ↓reduceIte, ↓put_at])))
              simp only [← hb]
              (repeat (first | refine aw_seq ?_ | refine aw_block ?_ | refine aw_reg hC (by kernel_rfl) ?_ | refine aw_regd hC Tryz.checked.mixed (by kernel_rfl) ?_ | refine chk_and (by kernel_rfl) ?_ | refine aw_skip ?_ | refine aw_if ?_ | refine And.intro (by first | omega | with_reducible assumption) ?_ | refine aw_exit ?_ | refine aw_ret ?_ | (simp (decide := true) (disch := omega) only [go_sem, ↓reduceIte, ↓put_at])))
              (refine ret_s [] ?_; simp (decide := true) (disch := omega) only [go_sem, ↓reduceIte, ↓put_at])
          · rw [if_neg hi] at hq3
            by_cases hs : short5 1 b t
            · rw [if_pos hs] at hq3
              have hg2 : go5 1 s = ([], 2) := hq3
              rw [hg2, if_neg (by decide)] at hR
              have hs2 : t.length < b.toNat % 16 + 1 := by
                rcases hs with h | h
                · exact absurd rfl h.1
                · rw [er, el] at h; exact h
              subst hR
              (repeat (first | refine aw_seq ?_ | refine aw_block ?_ | refine aw_reg hC (by kernel_rfl) ?_ | refine aw_regd hC Tryz.checked.mixed (by kernel_rfl) ?_ | refine chk_and (by kernel_rfl) ?_ | refine aw_skip ?_ | refine aw_if ?_ | refine And.intro (by first | omega | with_reducible assumption) ?_ | refine aw_exit ?_ | refine aw_ret ?_ | (simp (decide := true) (disch := omega) only [go_sem, ↓reduceIte, ↓put_at])))
              simp only [← hb]
              (repeat (first | refine aw_seq ?_ | refine aw_block ?_ | refine aw_reg hC (by kernel_rfl) ?_ | refine aw_regd hC Tryz.checked.mixed (by kernel_rfl) ?_ | refine chk_and (by kernel_rfl) ?_ | refine aw_skip ?_ | refine aw_if ?_ | refine And.intro (by first | omega | with_reducible assumption) ?_ | refine aw_exit ?_ | refine aw_ret ?_ | (simp (decide := true) (disch := omega) only [go_sem, ↓reduceIte, ↓put_at])))
              (refine ret_s [] ?_; simp (decide := true) (disch := omega) only [go_sem, ↓reduceIte, ↓put_at])
            · rw [if_neg hs, acc5_acc, er, el] at hq3
              have hs2 : b.toNat % 16 + 1 ≤ t.length := Nat.le_of_not_lt (fun h => hs (.inr h))
              have hdd : t.drop (b.toNat % 16 + 1) = s.drop (j + 1 + (b.toNat % 16 + 1)) := by rw [ht, List.drop_drop]
              rw [hdd, ei] at hq3
              have hn : Ref5 1 s (j + 1 + (b.toNat % 16 + 1), out ++ [⟨(b.toNat / 16 : Nat), t.take (b.toNat % 16 + 1)⟩]) := ⟨by dsimp only; rw [List.length_append, List.length_singleton]; omega, by dsimp only; omega, hq3⟩
              (repeat (first | refine aw_seq ?_ | refine aw_block ?_ | refine aw_reg hC (by kernel_rfl) ?_ | refine aw_regd hC Tryz.checked.mixed (by kernel_rfl) ?_ | refine chk_and (by kernel_rfl) ?_ | refine aw_skip ?_ | refine aw_if ?_ | refine And.intro (by first | omega | with_reducible assumption) ?_ | refine aw_exit ?_ | refine aw_ret ?_ | (simp (decide := true) (disch := omega) only [go_sem, ↓reduceIte, ↓put_at])))
              simp only [← hb]
              have hsl := sl_eq s ((j : Int) + 1) ((j : Int) + 1 + ((b.toNat : Int) % 16 + 1)) (j + 1) (b.toNat % 16 + 1) (by omega) (by omega)
              rw [← ht] at hsl
              (repeat (first | refine aw_seq ?_ | refine aw_block ?_ | refine aw_reg hC (by kernel_rfl) ?_ | refine aw_regd hC Tryz.checked.mixed (by kernel_rfl) ?_ | refine chk_and (by kernel_rfl) ?_ | refine aw_skip ?_ | refine aw_if ?_ | refine And.intro (by first | omega | with_reducible assumption) ?_ | refine aw_exit ?_ | refine aw_ret ?_ | (simp (decide := true) (disch := omega) only [go_sem, ↓reduceIte, ↓put_at])))
              simp only [hsl]
              refine next_s (α := {x : Nat × List E5 // Ref5 1 s x}) ⟨_, hn⟩ ⟨?_, by dsimp only; omega⟩
              rw [List.map_append]
              simp (decide := true) (disch := omega) only [go_sem, ↓reduceIte, ↓put_at]
              exact ⟨by rw [show ((b.toNat : Int) / 16) = ((b.toNat / 16 : Nat) : Int) by omega], by omega⟩
      · have hd0 : s.drop j = [] := List.drop_eq_nil_of_le (by omega)
        rw [hd0, go5_nil] at hq3
        have hg2 : go5 1 s = (out, 0) := by rw [hq3]; simp [acc5]
        rw [hg2, if_pos rfl] at hR
        subst hR
        (repeat (first | refine aw_seq ?_ | refine aw_block ?_ | refine aw_reg hC (by kernel_rfl) ?_ | refine aw_regd hC Tryz.checked.mixed (by kernel_rfl) ?_ | refine chk_and (by kernel_rfl) ?_ | refine aw_skip ?_ | refine aw_if ?_ | refine And.intro (by first | omega | with_reducible assumption) ?_ | refine aw_exit ?_ | refine aw_ret ?_ | (simp (decide := true) (disch := omega) only [go_sem, ↓reduceIte, ↓put_at])))
        (refine ret_s [] ?_; simp (decide := true) (disch := omega) only [go_sem, ↓reduceIte, ↓put_at])
  · have m0 : prof 2 = 4096 := rfl
    have m1 : mostId 2 = 255 := rfl
    refine spec_of Tryz.func22 rfl Tryz.ntmps22 Tryz.results22 ⟨by decide, by simp⟩ fun C hC => ?_
    (repeat ((fail_if_success (refine stop_reg 12 ?_)); (first | refine aw_seq ?_ | refine aw_block ?_ | refine aw_reg hC (by kernel_rfl) ?_ | refine aw_regd hC Tryz.checked.mixed (by kernel_rfl) ?_ | refine chk_and (by kernel_rfl) ?_ | refine aw_skip ?_ | refine aw_if ?_ | refine And.intro (by first | omega | with_reducible assumption) ?_ | refine aw_exit ?_ | refine aw_ret ?_ | (simp (decide := true) (disch := omega) only [go_sem, ↓reduceIte, ↓put_at]))))
    refine loop_s (α := {x : Nat × List E5 // Ref5 2 s x}) (fun x => [(.s 1, .av (.val (vs s))), (.s 7, .av (.val (vi 2))), (.s 8, .av (.own (24, 0) 0 71 2 (x.1.2.map e5El))), (.k (24, 0), .row 71 2 (x.1.2.map e5El).length), (.s 9, .av (.val (vi x.1.1)))]) (fun x => s.length - x.1.1) ⟨(0, []), by simp, Nat.zero_le _, by rw [List.drop_zero, acc5_nil _ (go5_err 2 s)]⟩ ?_ (fun x => ?_)
    · simp (decide := true) (disch := omega) only [go_sem, ↓reduceIte, ↓put_at]
      kernel_rfl
    · obtain ⟨⟨j, out⟩, hq1, hq2, hq3⟩ := x
      dsimp only at hq1 hq2 hq3 ⊢
      by_cases hlt : j < s.length
      · obtain ⟨b, hb⟩ : ∃ b, b = s.getD j 0 := ⟨_, rfl⟩
        obtain ⟨t, ht⟩ : ∃ t, t = s.drop (j + 1) := ⟨_, rfl⟩
        have htl : t.length = s.length - (j + 1) := by rw [ht, List.length_drop]
        have hdr : s.drop j = b :: t := by rw [List.drop_eq_getElem_cons hlt, ht, hb, getD_at s j hlt]
        rw [hdr] at hq3
        have hbt : b.toNat < 256 := b.toNat_lt
        by_cases hb0 : b.toNat = 0
        · have hbz : b = 0 := UInt8.toNat_inj.1 (by rw [hb0]; rfl)
          rw [go5_cons, if_pos hbz] at hq3
          have hzi : t = zer t.length ↔ ∀ k, j + 1 ≤ k → k < s.length → (s.getD k 0).toNat = 0 := by
            have h := zer_iff s (j + 1) t.length (by omega)
            rw [← ht, List.take_length] at h
            unfold zer
            rw [h]
            constructor
            · intro h k h1 h2; exact h k h1 (by omega)
            · intro h k h1 h2; exact h k h1 (by omega)
          by_cases hz3 : t.length < 3
          · (repeat ((fail_if_success (refine stop_reg 18 ?_)); (first | refine aw_seq ?_ | refine aw_block ?_ | refine aw_reg hC (by kernel_rfl) ?_ | refine aw_regd hC Tryz.checked.mixed (by kernel_rfl) ?_ | refine chk_and (by kernel_rfl) ?_ | refine aw_skip ?_ | refine aw_if ?_ | refine And.intro (by first | omega | with_reducible assumption) ?_ | refine aw_exit ?_ | refine aw_ret ?_ | (simp (decide := true) (disch := omega) only [go_sem, ↓reduceIte, ↓put_at]))))
            simp only [← hb]
            (repeat ((fail_if_success (refine stop_reg 18 ?_)); (first | refine aw_seq ?_ | refine aw_block ?_ | refine aw_reg hC (by kernel_rfl) ?_ | refine aw_regd hC Tryz.checked.mixed (by kernel_rfl) ?_ | refine chk_and (by kernel_rfl) ?_ | refine aw_skip ?_ | refine aw_if ?_ | refine And.intro (by first | omega | with_reducible assumption) ?_ | refine aw_exit ?_ | refine aw_ret ?_ | (simp (decide := true) (disch := omega) only [go_sem, ↓reduceIte, ↓put_at]))))
            refine loop_s (α := {k : Nat // j ≤ k ∧ k ≤ s.length ∧ ∀ i, j ≤ i → i < k → (s.getD i 0).toNat = 0}) (fun k => [(.s 1, .av (.val (vs s))), (.s 7, .av (.val (vi 2))), (.s 8, .av (.own (24, 0) 0 71 2 (out.map e5El))), (.k (24, 0), .row 71 2 (out.map e5El).length), (.s 11, .av (.val (vi k.1)))]) (fun k => s.length - k.1) ⟨j, Nat.le_refl _, hq2, fun i h1 h2 => absurd h2 (by omega)⟩ ?_ (fun k => ?_)
            · simp (decide := true) (disch := omega) only [go_sem, ↓reduceIte, ↓put_at]
            · obtain ⟨k, hk1, hk2, hk3⟩ := k
              dsimp only at hk1 hk2 ⊢
              by_cases hkl : k < s.length
              · have hck : (s.getD k 0).toNat < 256 := UInt8.toNat_lt _
                by_cases hkz : (s.getD k 0).toNat = 0
                · (repeat (first | refine aw_seq ?_ | refine aw_block ?_ | refine aw_reg hC (by kernel_rfl) ?_ | refine aw_regd hC Tryz.checked.mixed (by kernel_rfl) ?_ | refine chk_and (by kernel_rfl) ?_ | refine aw_skip ?_ | refine aw_if ?_ | refine And.intro (by first | omega | with_reducible assumption) ?_ | refine aw_exit ?_ | refine aw_ret ?_ | (simp (decide := true) (disch := omega) only [go_sem, ↓reduceIte, ↓put_at])))
                  refine next_s ⟨k + 1, by omega, hkl, fun i h1 h2 => ?_⟩ ⟨?_, by dsimp only; omega⟩
                  · by_cases h3 : i = k
                    · rw [h3]; exact hkz
                    · exact hk3 i h1 (by omega)
                  · simp (decide := true) (disch := omega) only [go_sem, ↓reduceIte, ↓put_at]
                · have hnz : ¬ t = zer t.length := fun h => by
                    by_cases h3 : k = j
                    · rw [h3, ← hb] at hkz; exact hkz hb0
                    · exact hkz (hzi.1 h k (by omega) hkl)
                  rw [if_neg (fun h => hnz h.2)] at hq3
                  have hg2 : go5 2 s = ([], 1) := hq3
                  rw [hg2, if_neg (by decide)] at hR
                  subst hR
                  (repeat (first | refine aw_seq ?_ | refine aw_block ?_ | refine aw_reg hC (by kernel_rfl) ?_ | refine aw_regd hC Tryz.checked.mixed (by kernel_rfl) ?_ | refine chk_and (by kernel_rfl) ?_ | refine aw_skip ?_ | refine aw_if ?_ | refine And.intro (by first | omega | with_reducible assumption) ?_ | refine aw_exit ?_ | refine aw_ret ?_ | (simp (decide := true) (disch := omega) only [go_sem, ↓reduceIte, ↓put_at])))
                  (refine ret_s [] ?_; simp (decide := true) (disch := omega) only [go_sem, ↓reduceIte, ↓put_at])
              · have hzz : t = zer t.length := hzi.2 (fun i h1 h2 => hk3 i (by omega) (by omega))
                rw [if_pos ⟨hz3, hzz⟩] at hq3
                have hg2 : go5 2 s = (out, 0) := by rw [hq3]; simp [acc5]
                rw [hg2, if_pos rfl] at hR
                subst hR
                (repeat (first | refine aw_seq ?_ | refine aw_block ?_ | refine aw_reg hC (by kernel_rfl) ?_ | refine aw_regd hC Tryz.checked.mixed (by kernel_rfl) ?_ | refine chk_and (by kernel_rfl) ?_ | refine aw_skip ?_ | refine aw_if ?_ | refine And.intro (by first | omega | with_reducible assumption) ?_ | refine aw_exit ?_ | refine aw_ret ?_ | (simp (decide := true) (disch := omega) only [go_sem, ↓reduceIte, ↓put_at])))
                (refine ret_s [] ?_; simp (decide := true) (disch := omega) only [go_sem, ↓reduceIte, ↓put_at])
          · rw [if_neg (fun h => hz3 h.1)] at hq3
            have hg2 : go5 2 s = ([], 1) := hq3
            rw [hg2, if_neg (by decide)] at hR
            subst hR
            (repeat (first | refine aw_seq ?_ | refine aw_block ?_ | refine aw_reg hC (by kernel_rfl) ?_ | refine aw_regd hC Tryz.checked.mixed (by kernel_rfl) ?_ | refine chk_and (by kernel_rfl) ?_ | refine aw_skip ?_ | refine aw_if ?_ | refine And.intro (by first | omega | with_reducible assumption) ?_ | refine aw_exit ?_ | refine aw_ret ?_ | (simp (decide := true) (disch := omega) only [go_sem, ↓reduceIte, ↓put_at])))
            simp only [← hb]
            (repeat (first | refine aw_seq ?_ | refine aw_block ?_ | refine aw_reg hC (by kernel_rfl) ?_ | refine aw_regd hC Tryz.checked.mixed (by kernel_rfl) ?_ | refine chk_and (by kernel_rfl) ?_ | refine aw_skip ?_ | refine aw_if ?_ | refine And.intro (by first | omega | with_reducible assumption) ?_ | refine aw_exit ?_ | refine aw_ret ?_ | (simp (decide := true) (disch := omega) only [go_sem, ↓reduceIte, ↓put_at])))
            (refine ret_s [] ?_; simp (decide := true) (disch := omega) only [go_sem, ↓reduceIte, ↓put_at])
        · have hbz : ¬ b = 0 := by rintro rfl; exact hb0 rfl
          rw [go5_cons, if_neg hbz] at hq3
          have ei : id5 2 b = b.toNat := rfl
          have hi : ¬ (id5 2 b = 0 ∨ mostId 2 < (id5 2 b : Int)) := by omega
          rw [if_neg hi] at hq3
          by_cases hte : j + 1 = s.length
          · have htn : t = [] := List.length_eq_zero_iff.1 (by omega)
            rw [if_pos (show short5 2 b t from .inl ⟨by decide, htn⟩)] at hq3
            have hg2 : go5 2 s = ([], 2) := hq3
            rw [hg2, if_neg (by decide)] at hR
            subst hR
            (repeat (first | refine aw_seq ?_ | refine aw_block ?_ | refine aw_reg hC (by kernel_rfl) ?_ | refine aw_regd hC Tryz.checked.mixed (by kernel_rfl) ?_ | refine chk_and (by kernel_rfl) ?_ | refine aw_skip ?_ | refine aw_if ?_ | refine And.intro (by first | omega | with_reducible assumption) ?_ | refine aw_exit ?_ | refine aw_ret ?_ | (simp (decide := true) (disch := omega) only [go_sem, ↓reduceIte, ↓put_at])))
            simp only [← hb]
            (repeat (first | refine aw_seq ?_ | refine aw_block ?_ | refine aw_reg hC (by kernel_rfl) ?_ | refine aw_regd hC Tryz.checked.mixed (by kernel_rfl) ?_ | refine chk_and (by kernel_rfl) ?_ | refine aw_skip ?_ | refine aw_if ?_ | refine And.intro (by first | omega | with_reducible assumption) ?_ | refine aw_exit ?_ | refine aw_ret ?_ | (simp (decide := true) (disch := omega) only [go_sem, ↓reduceIte, ↓put_at])))
            (refine ret_s [] ?_; simp (decide := true) (disch := omega) only [go_sem, ↓reduceIte, ↓put_at])
          · obtain ⟨c, hc⟩ : ∃ c, c = s.getD (j + 1) 0 := ⟨_, rfl⟩
            obtain ⟨u, hu⟩ : ∃ u, u = s.drop (j + 2) := ⟨_, rfl⟩
            have hul : u.length = s.length - (j + 2) := by rw [hu, List.length_drop]
            have htc : t = c :: u := by rw [ht, List.drop_eq_getElem_cons (by omega), hu, hc, getD_at s (j + 1) (by omega)]
            have hct : c.toNat < 256 := c.toNat_lt
            have el : len5 2 b t = c.toNat := by rw [htc]; rfl
            have er : rest5 2 t = u := by rw [htc]; rfl
            have ej : ((j : Int) + 1).toNat = j + 1 := by omega
            by_cases hs : short5 2 b t
            · rw [if_pos hs] at hq3
              have hg2 : go5 2 s = ([], 2) := hq3
              rw [hg2, if_neg (by decide)] at hR
              have hs2 : u.length < c.toNat := by
                rcases hs with h | h
                · rw [htc] at h; cases h.2
                · rw [er, el] at h; exact h
              subst hR
              (repeat (first | refine aw_seq ?_ | refine aw_block ?_ | refine aw_reg hC (by kernel_rfl) ?_ | refine aw_regd hC Tryz.checked.mixed (by kernel_rfl) ?_ | refine chk_and (by kernel_rfl) ?_ | refine aw_skip ?_ | refine aw_if ?_ | refine And.intro (by first | omega | with_reducible assumption) ?_ | refine aw_exit ?_ | refine aw_ret ?_ | (simp (decide := true) (disch := omega) only [go_sem, ↓reduceIte, ↓put_at])))
              simp only [← hb]
              (repeat (first | refine aw_seq ?_ | refine aw_block ?_ | refine aw_reg hC (by kernel_rfl) ?_ | refine aw_regd hC Tryz.checked.mixed (by kernel_rfl) ?_ | refine chk_and (by kernel_rfl) ?_ | refine aw_skip ?_ | refine aw_if ?_ | refine And.intro (by first | omega | with_reducible assumption) ?_ | refine aw_exit ?_ | refine aw_ret ?_ | (simp (decide := true) (disch := omega) only [go_sem, ↓reduceIte, ↓put_at])))
              simp only [ej, ← hc]
              (repeat (first | refine aw_seq ?_ | refine aw_block ?_ | refine aw_reg hC (by kernel_rfl) ?_ | refine aw_regd hC Tryz.checked.mixed (by kernel_rfl) ?_ | refine chk_and (by kernel_rfl) ?_ | refine aw_skip ?_ | refine aw_if ?_ | refine And.intro (by first | omega | with_reducible assumption) ?_ | refine aw_exit ?_ | refine aw_ret ?_ | (simp (decide := true) (disch := omega) only [go_sem, ↓reduceIte, ↓put_at])))
              (refine ret_s [] ?_; simp (decide := true) (disch := omega) only [go_sem, ↓reduceIte, ↓put_at])
            · rw [if_neg hs, acc5_acc, er, el] at hq3
              have hs2 : c.toNat ≤ u.length := by
                apply Nat.le_of_not_lt
                intro h
                exact hs (.inr (by rw [er, el]; exact h))
              have hdd : u.drop c.toNat = s.drop (j + 2 + c.toNat) := by rw [hu, List.drop_drop]
              rw [hdd, ei] at hq3
              have hn : Ref5 2 s (j + 2 + c.toNat, out ++ [⟨(b.toNat : Nat), u.take c.toNat⟩]) := ⟨by dsimp only; rw [List.length_append, List.length_singleton]; omega, by dsimp only; omega, hq3⟩
              have hsl := sl_eq s ((j : Int) + 1 + 1) ((j : Int) + 1 + 1 + (c.toNat : Int)) (j + 2) c.toNat (by omega) (by omega)
              rw [← hu] at hsl
              (repeat (first | refine aw_seq ?_ | refine aw_block ?_ | refine aw_reg hC (by kernel_rfl) ?_ | refine aw_regd hC Tryz.checked.mixed (by kernel_rfl) ?_ | refine chk_and (by kernel_rfl) ?_ | refine aw_skip ?_ | refine aw_if ?_ | refine And.intro (by first | omega | with_reducible assumption) ?_ | refine aw_exit ?_ | refine aw_ret ?_ | (simp (decide := true) (disch := omega) only [go_sem, ↓reduceIte, ↓put_at])))
              simp only [← hb]
              (repeat (first | refine aw_seq ?_ | refine aw_block ?_ | refine aw_reg hC (by kernel_rfl) ?_ | refine aw_regd hC Tryz.checked.mixed (by kernel_rfl) ?_ | refine chk_and (by kernel_rfl) ?_ | refine aw_skip ?_ | refine aw_if ?_ | refine And.intro (by first | omega | with_reducible assumption) ?_ | refine aw_exit ?_ | refine aw_ret ?_ | (simp (decide := true) (disch := omega) only [go_sem, ↓reduceIte, ↓put_at])))
              simp only [ej, ← hc]
              (repeat (first | refine aw_seq ?_ | refine aw_block ?_ | refine aw_reg hC (by kernel_rfl) ?_ | refine aw_regd hC Tryz.checked.mixed (by kernel_rfl) ?_ | refine chk_and (by kernel_rfl) ?_ | refine aw_skip ?_ | refine aw_if ?_ | refine And.intro (by first | omega | with_reducible assumption) ?_ | refine aw_exit ?_ | refine aw_ret ?_ | (simp (decide := true) (disch := omega) only [go_sem, ↓reduceIte, ↓put_at])))
              simp only [hsl]
              refine next_s (α := {x : Nat × List E5 // Ref5 2 s x}) ⟨_, hn⟩ ⟨?_, by dsimp only; omega⟩
              rw [List.map_append]
              simp (decide := true) (disch := omega) only [go_sem, ↓reduceIte, ↓put_at]
              omega
      · have hd0 : s.drop j = [] := List.drop_eq_nil_of_le (by omega)
        rw [hd0, go5_nil] at hq3
        have hg2 : go5 2 s = (out, 0) := by rw [hq3]; simp [acc5]
        rw [hg2, if_pos rfl] at hR
        subst hR
        (repeat (first | refine aw_seq ?_ | refine aw_block ?_ | refine aw_reg hC (by kernel_rfl) ?_ | refine aw_regd hC Tryz.checked.mixed (by kernel_rfl) ?_ | refine chk_and (by kernel_rfl) ?_ | refine aw_skip ?_ | refine aw_if ?_ | refine And.intro (by first | omega | with_reducible assumption) ?_ | refine aw_exit ?_ | refine aw_ret ?_ | (simp (decide := true) (disch := omega) only [go_sem, ↓reduceIte, ↓put_at])))
        (refine ret_s [] ?_; simp (decide := true) (disch := omega) only [go_sem, ↓reduceIte, ↓put_at])
end Go.Proofs.YtojcjbaimdjhoaaGreatDoor
