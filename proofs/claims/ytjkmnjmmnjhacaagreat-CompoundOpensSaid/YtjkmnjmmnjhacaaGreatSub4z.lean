/- The document's layer 11: lines and adverts read; walked. -/
import Derived.Test.YtjkmnjmmnjhacaaGreatNack1z
namespace Go.Proofs.YtjkmnjmmnjhacaaGreat
open Go.RowKit
set_option linter.unusedVariables false
set_option linter.unusedSimpArgs false

theorem take1_at (s : List UInt8) (a : Nat) (h : a < s.length) : (s.drop a).take 1 = [s.getD a 0] := by
  rw [List.drop_eq_getElem_cons h, List.take_succ_cons, List.take_zero, List.getD_eq_getElem?_getD, List.getElem?_eq_getElem h]
  rfl
theorem take2_at (s : List UInt8) (a : Nat) (h : a + 1 < s.length) : (s.drop a).take 2 = [s.getD a 0, s.getD (a + 1) 0] := by
  rw [List.drop_eq_getElem_cons (by omega : a < s.length), List.drop_eq_getElem_cons h, List.take_succ_cons, List.take_succ_cons, List.take_zero, List.getD_eq_getElem?_getD, List.getD_eq_getElem?_getD, List.getElem?_eq_getElem (by omega : a < s.length), List.getElem?_eq_getElem h]
  rfl
theorem u8_zero (b : UInt8) : b = 0 ↔ b.toNat = 0 := ⟨fun h => by rw [h]; rfl, fun h => UInt8.toNat_inj.1 (by rw [h]; rfl)⟩
theorem goodLn_at (s : List UInt8) (h : s.length = 28) : goodLn s = decide ((s.getD 2 0).toNat = 0 ∧ (s.getD 3 0).toNat = 0 ∧ (s.getD 7 0).toNat = 0) := by
  unfold goodLn
  rw [take1_at s 7 (by omega), take2_at s 2 (by omega)]
  congr 1
  simp only [List.cons.injEq, and_true, u8_zero, and_assoc]
theorem goodAd_at (b : List UInt8) (j : Nat) (h : 4 + 4 * j + 4 ≤ b.length) : goodAd (blkN 4 b j) = decide ((b.getD (4 + 4 * j + 1) 0).toNat ≤ 1) ∧ rdAd (blkN 4 b j) = ⟨getN ((b.drop (4 + 4 * j)).take 1), decide ((b.getD (4 + 4 * j + 1) 0).toNat = 1), getN ((b.drop (4 + 4 * j + 2)).take 2)⟩ := by
  have h0 : (blkN 4 b j).take 1 = (b.drop (4 + 4 * j)).take 1 := by unfold blkN; rw [List.take_take]; rfl
  have h1 : ((blkN 4 b j).drop 1).take 1 = [b.getD (4 + 4 * j + 1) 0] := by
    unfold blkN
    rw [List.drop_take, List.take_take, List.drop_drop, Nat.min_eq_left (by omega), take1_at b _ (by omega)]
  have h2 : ((blkN 4 b j).drop 2).take 2 = (b.drop (4 + 4 * j + 2)).take 2 := by
    unfold blkN
    rw [List.drop_take, List.take_take, List.drop_drop, Nat.min_eq_left (by omega)]
  unfold goodAd rdAd
  rw [h0, h1, h2, getN_one]
  exact ⟨rfl, rfl⟩
abbrev blks11 (c : Nat) (b : List UInt8) (j : Nat) : List (List UInt8) := (List.range j).map (blkN c b)
theorem blks_snoc (c : Nat) (b : List UInt8) (j : Nat) : blks11 c b (j + 1) = blks11 c b j ++ [blkN c b j] := by
  unfold blks11
  rw [List.range_succ, List.map_append]
  rfl
theorem blks_take (c : Nat) (b : List UInt8) (j n : Nat) (h : j ≤ n) : (blks11 c b n).take j = blks11 c b j := by
  unfold blks11
  rw [← List.map_take, List.take_range, Nat.min_eq_left h]
theorem ok_pre {α : Type} {may : List UInt8 → Bool} {path : List UInt8 → Int} {c : Nat} {b : List UInt8} {j n : Nat} (h : j ≤ n) (hf : rises may path 0 (blks11 c b j) = false) : rises may path 0 (blks11 c b n) = false := by
  cases h2 : rises may path 0 (blks11 c b n) with
  | false => rfl
  | true =>
    have := rises_pre may path 0 _ j h2
    rw [blks_take c b j n h, hf] at this
    cases this
set_option maxRecDepth 100000 in
set_option maxHeartbeats 8000000 in
theorem ref_lines11 (p : Pc) (hp : p.2.2.length ≤ maxLen) : Spec Tryz.prog 53 [.ca (.val (pcV p))] [] (.ca (.val (.tup [vi (linesR p).src, .lst 8 ((linesR p).all.map zl11El), vi (linesE p)]))) [] := by
  obtain ⟨f, k, b⟩ := p
  dsimp only at hp
  obtain ⟨E, hE⟩ : ∃ E, E = linesE (f, k, b) := ⟨_, rfl⟩
  obtain ⟨R, hR⟩ : ∃ R, R = linesR (f, k, b) := ⟨_, rfl⟩
  have hR0 : E = 0 → R = ⟨getN (b.take 4), (List.range ((b.length - 4) / 28)).map fun i => rdLn (blkN 28 b i)⟩ := fun h => by rw [hR]; exact linesR_eq _ (hE.symm.trans h)
  have hR1 : E ≠ 0 → R = ⟨0, []⟩ := fun h => by rw [hR]; unfold linesR; rw [if_neg (fun h2 => h (hE.trans h2))]
  rw [← hE, ← hR]
  rw [linesE_eq] at hE
  clear hR
  dsimp only at hE
  by_cases hk : k = 211
  · by_cases hf : f = 1
    · rw [if_neg (by omega)] at hE
      subst hk hf
      by_cases h1 : b.length < 32
      · rw [if_pos (.inl h1)] at hE
        subst hE
        obtain rfl := hR1 (by decide)
        refine spec_of Tryz.func53 rfl Tryz.ntmps53 Tryz.results53 ⟨by decide, by simp⟩ fun C hC => ?_
        (repeat' ((first | refine sp_ ?_ | exact ex0 | (refine ret_s [] ?_; simp (decide := true) (disch := omega) only [go_sem, ↓reduceIte, ↓put_at]))))
      by_cases h2 : b.length % 28 ≠ 4
      · rw [if_pos (.inr h2)] at hE
        subst hE
        obtain rfl := hR1 (by decide)
        have h3 : ¬ (b.length : Int) % 28 = 4 := by omega
        refine spec_of Tryz.func53 rfl Tryz.ntmps53 Tryz.results53 ⟨by decide, by simp⟩ fun C hC => ?_
        (repeat' ((first | refine sp_ ?_ | exact ex0 | (refine ret_s [] ?_; simp (decide := true) (disch := omega) only [go_sem, ↓reduceIte, ↓put_at]))))
      rw [if_neg (by omega)] at hE
      have h3 : (b.length : Int) % 28 = 4 := by omega
      obtain ⟨N, hN⟩ : ∃ N, N = (b.length - 4) / 28 := ⟨_, rfl⟩
      rw [← hN] at hE hR0
      have hlen : b.length = 4 + 28 * N := by omega
      have hpn := hp
      unfold maxLen at hpn
      clear hN
      refine spec_of Tryz.func53 rfl Tryz.ntmps53 Tryz.results53 ⟨by decide, by simp⟩ fun C hC => ?_
      (repeat' ((fail_if_success (refine stop_reg 9 ?_)); (first | refine sp_ ?_ | exact ex0 | (refine ret_s [] ?_; simp (decide := true) (disch := omega) only [go_sem, ↓reduceIte, ↓put_at]))))
      refine loop_s (α := {j : Nat // j ≤ N ∧ okLn b j = true}) (fun j => [(.s 2, .av (.val (vi 0))), (.s 3, .av (.val (.sc (.slice none 0 0)))), (.s 4, .av (.val (vi 0))), (.s 5, .av (.val (vs b))), (.s 6, .av (.own (31, 0) 0 179 8 ((preLn b j.1).map zl11El))), (.k (31, 0), .row 179 8 (preLn b j.1).length), (.s 7, .av (.val (vi (lastP (fun s => (rdLn s).path) 0 (blks11 28 b j.1))))), (.s 8, .av (.val (vi (4 + 28 * j.1))))]) (fun j => N - j.1) ⟨0, Nat.zero_le _, rfl⟩ ?_ (fun j => ?_)
      · (try dsimp only)
        rw [show preLn b 0 = [] from rfl]
        simp (decide := true) (disch := omega) only [go_sem, ↓reduceIte, ↓put_at]
        refine ⟨?_, rfl⟩
        show _ = _
        kernel_rfl
      · obtain ⟨j, hj, hok⟩ := j
        dsimp only at hj hok ⊢
        have hpl := preLn_len b j
        by_cases hlt : j < N
        · have e1 : ((4 : Int) + 28 * (j : Int) + 28).toNat = 4 + 28 * j + 28 := by omega
          have e2 : ((4 : Int) + 28 * (j : Int)).toNat = 4 + 28 * j := by omega
          have hs1 : 4 + 28 * j + 28 - (4 + 28 * j) = 28 := by omega
          have hsu := preLn_succ b j
          have hsl := blkN_len 28 b j N hlt (by omega)
          have hgo := goodLn_at (blkN 28 b j) hsl
          have hok2 : rises (goodR rdLn (fun x => x.path) goodLn) (fun s => (rdLn s).path) 0 (blks11 28 b j) = true := hok
          have hrs : rises (goodR rdLn (fun x => x.path) goodLn) (fun s => (rdLn s).path) 0 (blks11 28 b (j + 1)) = ((goodLn (blkN 28 b j) && decide (((getN ((blkN 28 b j).take 1) : Nat) : Int) ≤ 15)) && decide (lastP (fun s => (rdLn s).path) 0 (blks11 28 b j) < ((getN ((blkN 28 b j).take 1) : Nat) : Int))) := by
            rw [blks_snoc, rises_snoc, hok2, Bool.true_and]
            rfl
          have hls : lastP (fun s => (rdLn s).path) 0 (blks11 28 b (j + 1)) = ((getN ((blkN 28 b j).take 1) : Nat) : Int) := by
            rw [blks_snoc]
            exact lastP_snoc (fun s => (rdLn s).path) 0 (blks11 28 b j) (blkN 28 b j)
          have hfew := rises_few (goodR rdLn (fun x => x.path) goodLn) (fun s => (rdLn s).path) (fun s hs => by
            simp only [goodR, Bool.and_eq_true, decide_eq_true_eq] at hs
            exact hs.2) 0 _ (by omega) hok2
          simp only [List.length_map, List.length_range] at hfew
          have hbad : rises (goodR rdLn (fun x => x.path) goodLn) (fun s => (rdLn s).path) 0 (blks11 28 b (j + 1)) = false → E = 1 := fun h => by
            have h3 := ok_pre (α := Unit) (n := N) hlt h
            rw [if_neg (fun h2 => Bool.noConfusion (h2.symm.trans h3))] at hE
            exact hE
          unfold rdLn at hsu
          have hbk : (b.drop (4 + 28 * j)).take 28 = blkN 28 b j := rfl
          obtain ⟨la, hla⟩ : ∃ la, la = lastP (fun s => (rdLn s).path) 0 (blks11 28 b j) := ⟨_, rfl⟩
          rw [← hla] at hrs ⊢
          clear hla
          (repeat' ((first | refine sp_ ?_ | exact ex0 | (refine ret_s [] ?_; simp (decide := true) (disch := omega) only [go_sem, ↓reduceIte, ↓put_at]))))
          simp only [e1, e2, hs1, hbk]
          generalize blkN 28 b j = s at *
          have w0 := q_get (s.take 1) (by rw [List.length_take]; omega)
          have w1 := q_getw s 1 1 (by decide)
          have w3 := q_getw s 4 3 (by decide)
          have w5 := q_getw s 8 4 (by decide)
          have w6 := q_getw s 12 4 (by decide)
          have w7 := q_getw s 16 4 (by decide)
          have w8 := q_getw s 20 4 (by decide)
          have w9 := q_getw s 24 4 (by decide)
          have hg := getN_lt ((s.drop 4).take 3)
          rw [List.length_take, List.length_drop, Nat.min_eq_left (by omega)] at hg
          generalize getN ((s.drop 4).take 3) = g at *
          (repeat' ((fail_if_success (refine stop_reg 13 ?_)); (first | refine sp_ ?_ | exact ex0 | refine call_u Tryz.call74 (w3) [] ex1 ?_ | (refine ret_s [] ?_; simp (decide := true) (disch := omega) only [go_sem, ↓reduceIte, ↓put_at]))))
          refine meet_s (α := {_x : Unit // True}) (fun _ => [(.s 2, .av (.val (vi 0))), (.s 3, .av (.val (.sc (.slice none 0 0)))), (.s 4, .av (.val (vi 0))), (.s 5, .av (.val (vs b))), (.s 6, .av (.own (31, 0) 0 179 8 ((preLn b j).map zl11El))), (.k (31, 0), .row 179 8 (preLn b j).length), (.s 7, .av (.val (vi la))), (.s 8, .av (.val (vi (4 + 28 * j)))), (.s 9, .av (.val (vs s))), (.s 10, .av (.val (vi (sg3 g))))]) ?_ (fun x => ?_)
          · unfold sg3
            by_cases hg2 : (8388608 : Int) ≤ (g : Int)
            · rw [if_pos hg2]
              (repeat' ((first | refine sp_ ?_ | exact ex0 | (refine ret_s [] ?_; simp (decide := true) (disch := omega) only [go_sem, ↓reduceIte, ↓put_at]))))
              refine at_meet ⟨(), trivial⟩ ?_
              simp (decide := true) (disch := omega) only [go_sem, ↓reduceIte, ↓put_at]
            · rw [if_neg hg2]
              (repeat' ((first | refine sp_ ?_ | exact ex0 | (refine ret_s [] ?_; simp (decide := true) (disch := omega) only [go_sem, ↓reduceIte, ↓put_at]))))
              refine at_meet ⟨(), trivial⟩ ?_
              simp (decide := true) (disch := omega) only [go_sem, ↓reduceIte, ↓put_at]
          clear x
          generalize sg3 (g : Int) = lost at *
          generalize getN (s.take 1) = v0 at *
          have k2 : (s.getD 2 0).toNat < 256 := UInt8.toNat_lt _
          have k3 : (s.getD 3 0).toNat < 256 := UInt8.toNat_lt _
          have k7 : (s.getD 7 0).toNat < 256 := UInt8.toNat_lt _
          obtain ⟨z2, hz2⟩ : ∃ z, z = (s.getD 2 0).toNat := ⟨_, rfl⟩
          obtain ⟨z3, hz3⟩ : ∃ z, z = (s.getD 3 0).toNat := ⟨_, rfl⟩
          obtain ⟨z7, hz7⟩ : ∃ z, z = (s.getD 7 0).toNat := ⟨_, rfl⟩
          rw [← hz2, ← hz3, ← hz7] at hgo
          rw [hgo] at hrs
          (repeat' ((fail_if_success (refine stop_reg 16 ?_)); (first | refine sp_ ?_ | exact ex0 | refine call_u Tryz.call74 (w0) [] ex1 ?_ | refine call_u Tryz.call74 (w1) [] ex1 ?_ | refine call_u Tryz.call74 (w5) [] ex1 ?_ | refine call_u Tryz.call74 (w6) [] ex1 ?_ | refine call_u Tryz.call74 (w7) [] ex1 ?_ | refine call_u Tryz.call74 (w8) [] ex1 ?_ | refine call_u Tryz.call74 (w9) [] ex1 ?_ | (refine ret_s [] ?_; simp (decide := true) (disch := omega) only [go_sem, ↓reduceIte, ↓put_at]))))
          by_cases q1 : la < (v0 : Int)
          · by_cases q2 : (v0 : Int) ≤ 15
            · by_cases y2 : z2 = 0
              · by_cases y3 : z3 = 0
                · by_cases y7 : z7 = 0
                  · rw [decide_eq_true q1, decide_eq_true q2, decide_eq_true ⟨y2, y3, y7⟩] at hrs
                    (repeat' ((first | refine sp_ ?_ | exact ex0 | (refine ret_s [] ?_; simp (decide := true) (disch := omega) only [go_sem, ↓reduceIte, ↓put_at]))))
                    refine next_s (α := {j : Nat // j ≤ N ∧ okLn b j = true}) ⟨j + 1, hlt, hrs⟩ ⟨?_, by (try dsimp only); omega⟩
                    (try dsimp only)
                    rw [hsu, hls]
                    simp (decide := true) (disch := omega) only [go_sem, ↓reduceIte, ↓put_at]
                    rw [List.map_append]
                    exact ⟨rfl, by omega⟩
                  · have := hbad (by rw [hrs]; simp [y7])
                    subst this
                    obtain rfl := hR1 (by decide)
                    (repeat' ((first | refine sp_ ?_ | exact ex0 | (refine ret_s [] ?_; simp (decide := true) (disch := omega) only [go_sem, ↓reduceIte, ↓put_at]))))
                · have := hbad (by rw [hrs]; simp [y3])
                  subst this
                  obtain rfl := hR1 (by decide)
                  (repeat' ((first | refine sp_ ?_ | exact ex0 | (refine ret_s [] ?_; simp (decide := true) (disch := omega) only [go_sem, ↓reduceIte, ↓put_at]))))
              · have := hbad (by rw [hrs]; simp [y2])
                subst this
                obtain rfl := hR1 (by decide)
                (repeat' ((first | refine sp_ ?_ | exact ex0 | (refine ret_s [] ?_; simp (decide := true) (disch := omega) only [go_sem, ↓reduceIte, ↓put_at]))))
            · have := hbad (by rw [hrs, decide_eq_false q2]; simp)
              subst this
              obtain rfl := hR1 (by decide)
              (repeat' ((first | refine sp_ ?_ | exact ex0 | (refine ret_s [] ?_; simp (decide := true) (disch := omega) only [go_sem, ↓reduceIte, ↓put_at]))))
          · have := hbad (by rw [hrs, decide_eq_false q1]; simp)
            subst this
            obtain rfl := hR1 (by decide)
            (repeat' ((first | refine sp_ ?_ | exact ex0 | (refine ret_s [] ?_; simp (decide := true) (disch := omega) only [go_sem, ↓reduceIte, ↓put_at]))))
        · obtain rfl : j = N := by omega
          have hok' : okLn b j = true := hok
          rw [if_pos hok'] at hE
          subst hE
          obtain rfl := hR0 rfl
          have c6 := q_get (b.take 4) (by rw [List.length_take]; omega)
          (repeat' ((first | refine sp_ ?_ | exact ex0 | refine call_u Tryz.call74 (c6) [] ex1 ?_ | (refine ret_s [] ?_; simp (decide := true) (disch := omega) only [go_sem, ↓reduceIte, ↓put_at]))))
          rfl
    · rw [if_pos (.inr hf)] at hE
      subst hE
      obtain rfl := hR1 (by decide)
      refine spec_of Tryz.func53 rfl Tryz.ntmps53 Tryz.results53 ⟨by decide, by simp⟩ fun C hC => ?_
      (repeat' ((first | refine sp_ ?_ | exact ex0 | (refine ret_s [] ?_; simp (decide := true) (disch := omega) only [go_sem, ↓reduceIte, ↓put_at]))))
  · rw [if_pos (.inl hk)] at hE
    subst hE
    obtain rfl := hR1 (by decide)
    refine spec_of Tryz.func53 rfl Tryz.ntmps53 Tryz.results53 ⟨by decide, by simp⟩ fun C hC => ?_
    (repeat' ((first | refine sp_ ?_ | exact ex0 | (refine ret_s [] ?_; simp (decide := true) (disch := omega) only [go_sem, ↓reduceIte, ↓put_at]))))
end Go.Proofs.YtjkmnjmmnjhacaaGreat

namespace Go.Proofs.YtjkmnjmmnjhacaaGreat
open Go.RowKit
set_option linter.unusedVariables false
set_option linter.unusedSimpArgs false

set_option maxRecDepth 100000 in
set_option maxHeartbeats 8000000 in
theorem ref_ads11 (p : Pc) (hp : p.2.2.length ≤ maxLen) : Spec Tryz.prog 54 [.ca (.val (pcV p))] [] (.ca (.val (.tup [vi (adsR p).src, .lst 3 ((adsR p).all.map a11El), vi (adsE p)]))) [] := by
  obtain ⟨f, k, b⟩ := p
  dsimp only at hp
  obtain ⟨E, hE⟩ : ∃ E, E = adsE (f, k, b) := ⟨_, rfl⟩
  obtain ⟨R, hR⟩ : ∃ R, R = adsR (f, k, b) := ⟨_, rfl⟩
  have hR0 : E = 0 → R = ⟨getN (b.take 4), (List.range ((b.length - 4) / 4)).map fun i => rdAd (blkN 4 b i)⟩ := fun h => by rw [hR]; exact adsR_eq _ (hE.symm.trans h)
  have hR1 : E ≠ 0 → R = ⟨0, []⟩ := fun h => by rw [hR]; unfold adsR; rw [if_neg (fun h2 => h (hE.trans h2))]
  rw [← hE, ← hR]
  rw [adsE_eq] at hE
  clear hR
  dsimp only at hE
  by_cases hk : k = 211
  · by_cases hf : f = 2
    · rw [if_neg (by omega)] at hE
      subst hk hf
      by_cases h1 : b.length < 4
      · rw [if_pos (.inl h1)] at hE
        subst hE
        obtain rfl := hR1 (by decide)
        refine spec_of Tryz.func54 rfl Tryz.ntmps54 Tryz.results54 ⟨by decide, by simp⟩ fun C hC => ?_
        (repeat' ((first | refine sp_ ?_ | exact ex0 | (refine ret_s [] ?_; simp (decide := true) (disch := omega) only [go_sem, ↓reduceIte, ↓put_at]))))
      by_cases h2 : b.length % 4 ≠ 0
      · rw [if_pos (.inr h2)] at hE
        subst hE
        obtain rfl := hR1 (by decide)
        have h3 : ¬ (b.length : Int) % 4 = 0 := by omega
        refine spec_of Tryz.func54 rfl Tryz.ntmps54 Tryz.results54 ⟨by decide, by simp⟩ fun C hC => ?_
        (repeat' ((first | refine sp_ ?_ | exact ex0 | (refine ret_s [] ?_; simp (decide := true) (disch := omega) only [go_sem, ↓reduceIte, ↓put_at]))))
      rw [if_neg (by omega)] at hE
      have h3 : (b.length : Int) % 4 = 0 := by omega
      obtain ⟨N, hN⟩ : ∃ N, N = (b.length - 4) / 4 := ⟨_, rfl⟩
      rw [← hN] at hE hR0
      have hlen : b.length = 4 + 4 * N := by omega
      clear hN
      refine spec_of Tryz.func54 rfl Tryz.ntmps54 Tryz.results54 ⟨by decide, by simp⟩ fun C hC => ?_
      (repeat' ((fail_if_success (refine stop_reg 9 ?_)); (first | refine sp_ ?_ | exact ex0 | (refine ret_s [] ?_; simp (decide := true) (disch := omega) only [go_sem, ↓reduceIte, ↓put_at]))))
      refine loop_s (α := {j : Nat // j ≤ N ∧ okAd b j = true}) (fun j => [(.s 2, .av (.val (vi 0))), (.s 3, .av (.val (.sc (.slice none 0 0)))), (.s 4, .av (.val (vi 0))), (.s 5, .av (.val (vs b))), (.s 6, .av (.own (29, 0) 0 181 3 ((preAd b j.1).map a11El))), (.k (29, 0), .row 181 3 (preAd b j.1).length), (.s 7, .av (.val (vi (lastP (fun s => (rdAd s).path) 0 (blks11 4 b j.1))))), (.s 8, .av (.val (vi (4 + 4 * j.1))))]) (fun j => N - j.1) ⟨0, Nat.zero_le _, rfl⟩ ?_ (fun j => ?_)
      · (try dsimp only)
        rw [show preAd b 0 = [] from rfl]
        simp (decide := true) (disch := omega) only [go_sem, ↓reduceIte, ↓put_at]
        refine ⟨?_, rfl⟩
        show _ = _
        kernel_rfl
      · obtain ⟨j, hj, hok⟩ := j
        dsimp only at hj hok ⊢
        have hpl := preAd_len b j
        by_cases hlt : j < N
        · have e1 : ((4 : Int) + 4 * (j : Int) + 1).toNat = 4 + 4 * j + 1 := by omega
          have e2 : ((4 : Int) + 4 * (j : Int)).toNat = 4 + 4 * j := by omega
          have e3 : ((4 : Int) + 4 * (j : Int) + 2).toNat = 4 + 4 * j + 2 := by omega
          have e4 : ((4 : Int) + 4 * (j : Int) + 4).toNat = 4 + 4 * j + 4 := by omega
          have hs1 : 4 + 4 * j + 1 - (4 + 4 * j) = 1 := by omega
          have hs2 : 4 + 4 * j + 4 - (4 + 4 * j + 2) = 2 := by omega
          have hsu := preAd_succ b j
          obtain ⟨hgo, hrd⟩ := goodAd_at b j (by omega)
          have hok2 : rises (goodR rdAd (fun x => x.path) goodAd) (fun s => (rdAd s).path) 0 (blks11 4 b j) = true := hok
          have hfew := rises_few (goodR rdAd (fun x => x.path) goodAd) (fun s => (rdAd s).path) (fun s hs => by
            simp only [goodR, Bool.and_eq_true, decide_eq_true_eq] at hs
            exact hs.2) 0 _ (by omega) hok2
          simp only [List.length_map, List.length_range] at hfew
          have hpa : (rdAd (blkN 4 b j)).path = ((getN ((b.drop (4 + 4 * j)).take 1) : Nat) : Int) := by rw [hrd]
          have hrs : rises (goodR rdAd (fun x => x.path) goodAd) (fun s => (rdAd s).path) 0 (blks11 4 b (j + 1)) = ((goodAd (blkN 4 b j) && decide (((getN ((b.drop (4 + 4 * j)).take 1) : Nat) : Int) ≤ 15)) && decide (lastP (fun s => (rdAd s).path) 0 (blks11 4 b j) < ((getN ((b.drop (4 + 4 * j)).take 1) : Nat) : Int))) := by
            rw [blks_snoc, rises_snoc, hok2, Bool.true_and, ← hpa]
            rfl
          have hls : lastP (fun s => (rdAd s).path) 0 (blks11 4 b (j + 1)) = ((getN ((b.drop (4 + 4 * j)).take 1) : Nat) : Int) := by
            rw [blks_snoc, ← hpa]
            exact lastP_snoc (fun s => (rdAd s).path) 0 (blks11 4 b j) (blkN 4 b j)
          have hbad : rises (goodR rdAd (fun x => x.path) goodAd) (fun s => (rdAd s).path) 0 (blks11 4 b (j + 1)) = false → E = 1 := fun h => by
            have h3 := ok_pre (α := Unit) (n := N) hlt h
            rw [if_neg (fun h2 => Bool.noConfusion (h2.symm.trans h3))] at hE
            exact hE
          rw [hrd] at hsu
          rw [hgo] at hrs
          obtain ⟨la, hla⟩ : ∃ la, la = lastP (fun s => (rdAd s).path) 0 (blks11 4 b j) := ⟨_, rfl⟩
          rw [← hla] at hrs ⊢
          clear hla hpa hrd hgo
          have w0 := q_getw b (4 + 4 * j) 1 (by decide)
          have w2 := q_getw b (4 + 4 * j + 2) 2 (by decide)
          have kz : (b.getD (4 + 4 * j + 1) 0).toNat < 256 := UInt8.toNat_lt _
          obtain ⟨z, hz⟩ : ∃ z, z = (b.getD (4 + 4 * j + 1) 0).toNat := ⟨_, rfl⟩
          have hz2 : (b.getD ((4 : Int) + 4 * (j : Int) + 1).toNat 0).toNat = z := by rw [e1, hz]
          rw [← hz] at hrs hsu kz
          (repeat' ((first | refine sp_ ?_ | exact ex0 | (refine ret_s [] ?_; simp (decide := true) (disch := omega) only [go_sem, ↓reduceIte, ↓put_at]))))
          simp only [e1, e2, hs1]
          generalize getN ((b.drop (4 + 4 * j)).take 1) = v0 at *
          generalize getN ((b.drop (4 + 4 * j + 2)).take 2) = v2 at *
          by_cases q1 : la < (v0 : Int)
          · by_cases q2 : (v0 : Int) ≤ 15
            · by_cases y : z ≤ 1
              · rw [decide_eq_true q1, decide_eq_true q2, decide_eq_true y] at hrs
                by_cases y1 : z = 1
                · rw [decide_eq_true y1] at hsu
                  (repeat' ((first | refine sp_ ?_ | exact ex0 | refine call_u Tryz.call74 (w0) [] ex1 ?_ | (refine ret_s [] ?_; simp (decide := true) (disch := omega) only [go_sem, ↓reduceIte, ↓put_at]))))
                  simp only [e1, e2, e3, e4, hs2]
                  (repeat' ((first | refine sp_ ?_ | exact ex0 | refine call_u Tryz.call74 (w2) [] ex1 ?_ | (refine ret_s [] ?_; simp (decide := true) (disch := omega) only [go_sem, ↓reduceIte, ↓put_at]))))
                  refine next_s (α := {j : Nat // j ≤ N ∧ okAd b j = true}) ⟨j + 1, hlt, hrs⟩ ⟨?_, by (try dsimp only); omega⟩
                  (try dsimp only)
                  rw [hsu, hls]
                  simp (decide := true) (disch := omega) only [go_sem, ↓reduceIte, ↓put_at]
                  rw [List.map_append]
                  exact ⟨rfl, by omega⟩
                · rw [decide_eq_false y1] at hsu
                  (repeat' ((first | refine sp_ ?_ | exact ex0 | refine call_u Tryz.call74 (w0) [] ex1 ?_ | (refine ret_s [] ?_; simp (decide := true) (disch := omega) only [go_sem, ↓reduceIte, ↓put_at]))))
                  simp only [e1, e2, e3, e4, hs2]
                  (repeat' ((first | refine sp_ ?_ | exact ex0 | refine call_u Tryz.call74 (w2) [] ex1 ?_ | (refine ret_s [] ?_; simp (decide := true) (disch := omega) only [go_sem, ↓reduceIte, ↓put_at]))))
                  refine next_s (α := {j : Nat // j ≤ N ∧ okAd b j = true}) ⟨j + 1, hlt, hrs⟩ ⟨?_, by (try dsimp only); omega⟩
                  (try dsimp only)
                  rw [hsu, hls]
                  simp (decide := true) (disch := omega) only [go_sem, ↓reduceIte, ↓put_at]
                  rw [List.map_append]
                  exact ⟨rfl, by omega⟩
              · have := hbad (by rw [hrs, decide_eq_false y]; simp)
                subst this
                obtain rfl := hR1 (by decide)
                (repeat' ((first | refine sp_ ?_ | exact ex0 | refine call_u Tryz.call74 (w0) [] ex1 ?_ | (refine ret_s [] ?_; simp (decide := true) (disch := omega) only [go_sem, ↓reduceIte, ↓put_at]))))
            · have := hbad (by rw [hrs, decide_eq_false q2]; simp)
              subst this
              obtain rfl := hR1 (by decide)
              (repeat' ((first | refine sp_ ?_ | exact ex0 | refine call_u Tryz.call74 (w0) [] ex1 ?_ | (refine ret_s [] ?_; simp (decide := true) (disch := omega) only [go_sem, ↓reduceIte, ↓put_at]))))
          · have := hbad (by rw [hrs, decide_eq_false q1]; simp)
            subst this
            obtain rfl := hR1 (by decide)
            (repeat' ((first | refine sp_ ?_ | exact ex0 | refine call_u Tryz.call74 (w0) [] ex1 ?_ | (refine ret_s [] ?_; simp (decide := true) (disch := omega) only [go_sem, ↓reduceIte, ↓put_at]))))
        · obtain rfl : j = N := by omega
          have hok' : okAd b j = true := hok
          rw [if_pos hok'] at hE
          subst hE
          obtain rfl := hR0 rfl
          have c6 := q_get (b.take 4) (by rw [List.length_take]; omega)
          (repeat' ((first | refine sp_ ?_ | exact ex0 | refine call_u Tryz.call74 (c6) [] ex1 ?_ | (refine ret_s [] ?_; simp (decide := true) (disch := omega) only [go_sem, ↓reduceIte, ↓put_at]))))
          rfl
    · rw [if_pos (.inr hf)] at hE
      subst hE
      obtain rfl := hR1 (by decide)
      refine spec_of Tryz.func54 rfl Tryz.ntmps54 Tryz.results54 ⟨by decide, by simp⟩ fun C hC => ?_
      (repeat' ((first | refine sp_ ?_ | exact ex0 | (refine ret_s [] ?_; simp (decide := true) (disch := omega) only [go_sem, ↓reduceIte, ↓put_at]))))
  · rw [if_pos (.inl hk)] at hE
    subst hE
    obtain rfl := hR1 (by decide)
    refine spec_of Tryz.func54 rfl Tryz.ntmps54 Tryz.results54 ⟨by decide, by simp⟩ fun C hC => ?_
    (repeat' ((first | refine sp_ ?_ | exact ex0 | (refine ret_s [] ?_; simp (decide := true) (disch := omega) only [go_sem, ↓reduceIte, ↓put_at]))))
end Go.Proofs.YtjkmnjmmnjhacaaGreat

