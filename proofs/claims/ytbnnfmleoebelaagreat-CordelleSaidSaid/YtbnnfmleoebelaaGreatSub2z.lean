/- Layer 11 (subflow): lines and adverts read; walked. -/
import Derived.Test.YtbnnfmleoebelaaGreatSub1z
namespace Go.Proofs.YtbnnfmleoebelaaGreat
open Go.RowKit
set_option linter.unusedVariables false
set_option linter.unusedSimpArgs false

theorem gx_sub (b : List UInt8) (T a k c : Nat) (h : T + a + k ≤ b.length) (hk : a + k ≤ c) : vl k (goX (T + a) b) = getN ((((b.drop T).take c).drop a).take k) := by
  rw [goX_vl k (T + a) b h, List.drop_take, List.take_take, List.drop_drop, Nat.min_eq_left (by omega)]
theorem get4_lt (l : List UInt8) (a : Nat) : getN ((l.drop a).take 4) < 4294967296 := by
  have h := getN_lt ((l.drop a).take 4)
  have h2 : ((l.drop a).take 4).length ≤ 4 := by rw [List.length_take]; omega
  exact Nat.lt_of_lt_of_le h (Nat.le_trans (Nat.pow_le_pow_right (by omega) h2) (by decide))
theorem rdLn_ok (s : List UInt8) : (rdLn s).Ok := by
  have h1 := get4_lt s 8
  have h2 := get4_lt s 12
  have h3 := get4_lt s 16
  have h4 := get4_lt s 20
  have h5 := get4_lt s 24
  unfold rdLn
  exact ⟨by dsimp only; omega, by dsimp only; omega, by dsimp only; omega, by dsimp only; omega, by dsimp only; omega⟩
set_option maxRecDepth 100000 in
set_option maxHeartbeats 8000000 in
theorem sub_line (b : List UInt8) (T : Nat) (hb : b.length ≤ maxLen) (h : T + 28 ≤ b.length) : Spec Tryz.prog 80 [.ptr 0 0] [inO (goX T b).1 (goX T b).2] (.ca (.val (.agg (l11L (rdLn ((b.drop T).take 28)))))) [inO (goX (T + 28) b).1 (goX (T + 28) b).2] := by
  have c0 := gx8 b T hb
  have c1 := gx8 b (T + 1) hb
  have c2 := gx16 b (T + 2) hb
  have c3 := gx24 b (T + 4) hb
  have c4 := gx8 b (T + 7) hb
  have c5 := gx32 b (T + 8) hb
  have c6 := gx32 b (T + 12) hb
  have c7 := gx32 b (T + 16) hb
  have c8 := gx32 b (T + 20) hb
  have c9 := gx32 b (T + 24) hb
  rw [show vl 1 (goX T b) = getN (((b.drop T).take 28).take 1) from gx_sub b T 0 1 28 (by omega) (by omega)] at c0
  rw [gx_sub b T 1 1 28 (by omega) (by omega)] at c1
  rw [gx_sub b T 4 3 28 (by omega) (by omega)] at c3
  rw [gx_sub b T 8 4 28 (by omega) (by omega)] at c5
  rw [gx_sub b T 12 4 28 (by omega) (by omega)] at c6
  rw [gx_sub b T 16 4 28 (by omega) (by omega)] at c7
  rw [gx_sub b T 20 4 28 (by omega) (by omega)] at c8
  rw [gx_sub b T 24 4 28 (by omega) (by omega)] at c9
  simp only [Nat.add_assoc, Nat.reduceAdd] at c1 c2 c3 c4 c5 c6 c7 c8 c9
  have hl : ((b.drop T).take 28).length = 28 := by rw [List.length_take, List.length_drop]; omega
  unfold rdLn
  generalize (b.drop T).take 28 = s at *
  have hg := getN_lt ((s.drop 4).take 3)
  rw [List.length_take, List.length_drop, Nat.min_eq_left (by omega)] at hg
  generalize getN (s.take 1) = v0 at *
  generalize getN ((s.drop 1).take 1) = v1 at *
  generalize getN ((s.drop 4).take 3) = g at *
  generalize getN ((s.drop 8).take 4) = v5 at *
  generalize getN ((s.drop 12).take 4) = v6 at *
  generalize getN ((s.drop 16).take 4) = v7 at *
  generalize getN ((s.drop 20).take 4) = v8 at *
  generalize getN ((s.drop 24).take 4) = v9 at *
  unfold sg3
  by_cases hq : (8388608 : Int) ≤ (g : Int)
  · rw [if_pos hq]
    refine spec_of Tryz.func80 rfl Tryz.ntmps80 Tryz.results80 ⟨by decide, by simp⟩ fun C hC => ?_
    (repeat' ((first | refine sp_ ?_ | exact ex0 | refine call_u Tryz.call68 (c0) [(1000, 0)] ex1 ?_ | refine call_u Tryz.call68 (c1) [(1000, 0)] ex1 ?_ | refine call_u Tryz.call69 (c2) [(1000, 0)] ex1 ?_ | refine call_u Tryz.call92 (c3) [(1000, 0)] ex1 ?_ | refine call_u Tryz.call68 (c4) [(1000, 0)] ex1 ?_ | refine call_u Tryz.call71 (c5) [(1000, 0)] ex1 ?_ | refine call_u Tryz.call71 (c6) [(1000, 0)] ex1 ?_ | refine call_u Tryz.call71 (c7) [(1000, 0)] ex1 ?_ | refine call_u Tryz.call71 (c8) [(1000, 0)] ex1 ?_ | refine call_u Tryz.call71 (c9) [(1000, 0)] ex1 ?_ | (refine ret_s [] ?_; simp (decide := true) (disch := omega) only [go_sem, ↓reduceIte, ↓put_at]))))
  · rw [if_neg hq]
    refine spec_of Tryz.func80 rfl Tryz.ntmps80 Tryz.results80 ⟨by decide, by simp⟩ fun C hC => ?_
    (repeat' ((first | refine sp_ ?_ | exact ex0 | refine call_u Tryz.call68 (c0) [(1000, 0)] ex1 ?_ | refine call_u Tryz.call68 (c1) [(1000, 0)] ex1 ?_ | refine call_u Tryz.call69 (c2) [(1000, 0)] ex1 ?_ | refine call_u Tryz.call92 (c3) [(1000, 0)] ex1 ?_ | refine call_u Tryz.call68 (c4) [(1000, 0)] ex1 ?_ | refine call_u Tryz.call71 (c5) [(1000, 0)] ex1 ?_ | refine call_u Tryz.call71 (c6) [(1000, 0)] ex1 ?_ | refine call_u Tryz.call71 (c7) [(1000, 0)] ex1 ?_ | refine call_u Tryz.call71 (c8) [(1000, 0)] ex1 ?_ | refine call_u Tryz.call71 (c9) [(1000, 0)] ex1 ?_ | (refine ret_s [] ?_; simp (decide := true) (disch := omega) only [go_sem, ↓reduceIte, ↓put_at]))))
set_option maxRecDepth 100000 in
set_option maxHeartbeats 8000000 in
theorem sub_tolines (p : Pc) (hp : p.2.2.length ≤ maxLen) : Spec Tryz.prog 59 [.ca (.val (pcV p))] [] (.ca (.val (.tup [.agg (r11L (linesR p)), vi (linesE p)]))) [] := by
  obtain ⟨f, k, b⟩ := p
  dsimp only at hp
  obtain ⟨E, hE⟩ : ∃ E, E = linesE (f, k, b) := ⟨_, rfl⟩
  obtain ⟨R, hR⟩ : ∃ R, R = linesR (f, k, b) := ⟨_, rfl⟩
  rw [← hE, ← hR]
  unfold linesR at hR
  rw [← hE] at hR
  unfold linesE at hE
  dsimp only at hE hR
  by_cases hk : k = 211
  · by_cases hf : f = 1
    · rw [if_neg (by omega)] at hE
      subst hk hf
      have c0 := gx_of b
      have c1 := gx32 b 0 hp
      rw [← goX_zero] at c1
      have hs := vl_lt 4 4294967296 (b, 0) (by decide)
      have hraw : linesRaw b = ⟨vl 4 (b, 0), preLn b (rawN11 28 b)⟩ := rfl
      have c5 := sub_lines (linesRaw b) (by rw [hraw]; exact hs) (by
        rw [hraw]
        intro x hx
        obtain ⟨i, _, rfl⟩ := List.mem_map.1 hx
        exact rdLn_ok _) (by rw [hraw]; dsimp only; rw [preLn_len]; unfold rawN11 maxLen; omega)
      obtain ⟨Q, hQ⟩ : ∃ Q, Q = linesP (linesRaw b) := ⟨_, rfl⟩
      rw [← hQ] at c5 hE
      rw [hraw] at c5 hR
      clear hQ hraw
      obtain ⟨qf, qk, qs⟩ := Q
      have hcm := pp_ne qf 1 qk 211 qs b
      rw [show (b, (0 : Int)) = goX 0 b from goX_zero b] at *
      generalize vl 4 (goX 0 b) = src at *
      obtain ⟨n, hn⟩ : ∃ n, n = rawN11 28 b := ⟨_, rfl⟩
      rw [← hn] at c5 hR
      unfold rawN11 at hn
      have hn15 : n ≤ 15 := by omega
      have hnd : n ≤ (b.length - 4) / 28 := by omega
      have hnx : n = 15 ∨ n = (b.length - 4) / 28 := by omega
      clear hn
      refine spec_of Tryz.func59 rfl Tryz.ntmps59 Tryz.results59 ⟨by decide, by simp⟩ fun C hC => ?_
      (repeat' ((fail_if_success (refine stop_reg 5 ?_)); (first | refine sp_ ?_ | exact ex0 | refine call_u Tryz.call43 (c0) [] ex1 ?_ | refine call_u Tryz.call71 (c1) [(17, 0)] ex1 ?_ | (refine ret_s [] ?_; simp (decide := true) (disch := omega) only [go_sem, ↓reduceIte, ↓put_at]))))
      refine own_c (5, 0) 1 (5, 2) 157 8 ?_
      simp (decide := true) (disch := omega) only [go_sem, ↓reduceIte, ↓put_at]
      refine loop_s (α := {j : Nat // j ≤ n}) (fun j => [(.o (1, 0), .num 3), (.c (1, 0) 0, .av (.val (vi 1))), (.c (1, 0) 1, .av (.val (vi 211))), (.c (1, 0) 2, .av (.val (vs b))), (.s 1, .av (.ptr (1, 0) 0 0)), (.o (2, 0), .num 2), (.c (2, 0) 0, .av (.val (vu 0))), (.c (2, 0) 1, .av (.val (.sc (.slice none 0 0)))), (.s 2, .av (.ptr (2, 0) 0 0)), (.s 3, .av (.val (vi 0))), (.s 4, .av (.ptr (17, 0) 0 0)), (.o (17, 0), .num 2), (.c (17, 0) 0, .av (.val (vs (goX (4 + 28 * j.1) b).1))), (.c (17, 0) 1, .av (.val (vi (goX (4 + 28 * j.1) b).2))), (.o (5, 0), .num 2), (.c (5, 0) 0, .av (.val (vu src))), (.c (5, 0) 1, .av (.own (5, 2) 0 157 8 ((preLn b j.1).map l11El))), (.k (5, 2), .row 157 8 (preLn b j.1).length), (.s 5, .av (.ptr (5, 0) 0 0))]) (fun j => n - j.1) ⟨0, Nat.zero_le _⟩ ?_ (fun j => ?_)
      · (try dsimp only)
        rw [show preLn b 0 = [] from rfl]
        simp (decide := true) (disch := omega) only [go_sem, ↓reduceIte, ↓put_at]
      · obtain ⟨j, hj⟩ := j
        dsimp only at hj ⊢
        have c3 := gx_left b (4 + 28 * j)
        have hpl := preLn_len b j
        by_cases hlt : j < n
        · have c4 := sub_line b (4 + 28 * j) hp (by omega)
          have hsu := preLn_succ b j
          have e4 : 4 + 28 * j + 28 = 4 + 28 * (j + 1) := by omega
          rw [e4] at c4
          have hbl : (b.drop (4 + 28 * j)).take 28 = blkN 28 b j := rfl
          rw [hbl] at c4
          generalize rdLn (blkN 28 b j) = x at *
          have hleft : (28 : Int) ≤ ((b.length - (4 + 28 * j) : Nat) : Int) := by omega
          (repeat' ((first | refine sp_ ?_ | exact ex0 | refine call_u Tryz.call44 (c3) [(17, 0)] ex1 ?_ | refine call_u Tryz.call80 (c4) [(17, 0)] ex1 ?_ | (refine ret_s [] ?_; simp (decide := true) (disch := omega) only [go_sem, ↓reduceIte, ↓put_at]))))
          refine next_s (α := {j : Nat // j ≤ n}) ⟨j + 1, hlt⟩ ⟨?_, by (try dsimp only); omega⟩
          (try dsimp only)
          rw [hsu]
          simp (decide := true) (disch := omega) only [go_sem, ↓reduceIte, ↓put_at]
          rw [List.map_append]
          rfl
        · obtain rfl : j = n := by omega
          by_cases hq : (qf, qk, qs) = (1, 211, b)
          · rw [if_pos hq] at hE
            subst hE
            rw [if_pos rfl] at hR
            subst hR
            simp only [Prod.mk.injEq] at hq
            rw [decide_eq_true hq] at hcm
            by_cases hleft : (28 : Int) ≤ ((b.length - (4 + 28 * j) : Nat) : Int)
            · obtain rfl : j = 15 := by omega
              (repeat' ((first | refine sp_ ?_ | exact ex0 | refine call_u Tryz.call44 (c3) [(17, 0)] ex1 ?_ | refine call_u Tryz.call81 (c5) [] ex1 ?_ | (refine ret_s [] ?_; simp (decide := true) (disch := omega) only [go_sem, ↓reduceIte, ↓put_at]))))
              refine cmpA_s _ _ _ (.inr rfl) (by simp (decide := true) (disch := omega) only [go_sem, ↓reduceIte, ↓put_at]) (by simp (decide := true) (disch := omega) only [go_sem, ↓reduceIte, ↓put_at]) (by kernel_rfl) hcm ?_
              (repeat' ((first | refine sp_ ?_ | exact ex0 | (refine ret_s [] ?_; simp (decide := true) (disch := omega) only [go_sem, ↓reduceIte, ↓put_at]))))
            · (repeat' ((first | refine sp_ ?_ | exact ex0 | refine call_u Tryz.call44 (c3) [(17, 0)] ex1 ?_ | refine call_u Tryz.call81 (c5) [] ex1 ?_ | (refine ret_s [] ?_; simp (decide := true) (disch := omega) only [go_sem, ↓reduceIte, ↓put_at]))))
              refine cmpA_s _ _ _ (.inr rfl) (by simp (decide := true) (disch := omega) only [go_sem, ↓reduceIte, ↓put_at]) (by simp (decide := true) (disch := omega) only [go_sem, ↓reduceIte, ↓put_at]) (by kernel_rfl) hcm ?_
              (repeat' ((first | refine sp_ ?_ | exact ex0 | (refine ret_s [] ?_; simp (decide := true) (disch := omega) only [go_sem, ↓reduceIte, ↓put_at]))))
          · rw [if_neg hq] at hE
            subst hE
            rw [if_neg (by decide)] at hR
            subst hR
            simp only [Prod.mk.injEq] at hq
            rw [decide_eq_false hq] at hcm
            by_cases hleft : (28 : Int) ≤ ((b.length - (4 + 28 * j) : Nat) : Int)
            · obtain rfl : j = 15 := by omega
              (repeat' ((first | refine sp_ ?_ | exact ex0 | refine call_u Tryz.call44 (c3) [(17, 0)] ex1 ?_ | refine call_u Tryz.call81 (c5) [] ex1 ?_ | (refine ret_s [] ?_; simp (decide := true) (disch := omega) only [go_sem, ↓reduceIte, ↓put_at]))))
              refine cmpA_s _ _ _ (.inr rfl) (by simp (decide := true) (disch := omega) only [go_sem, ↓reduceIte, ↓put_at]) (by simp (decide := true) (disch := omega) only [go_sem, ↓reduceIte, ↓put_at]) (by kernel_rfl) hcm ?_
              (repeat' ((first | refine sp_ ?_ | exact ex0 | (refine ret_s [] ?_; simp (decide := true) (disch := omega) only [go_sem, ↓reduceIte, ↓put_at]))))
            · (repeat' ((first | refine sp_ ?_ | exact ex0 | refine call_u Tryz.call44 (c3) [(17, 0)] ex1 ?_ | refine call_u Tryz.call81 (c5) [] ex1 ?_ | (refine ret_s [] ?_; simp (decide := true) (disch := omega) only [go_sem, ↓reduceIte, ↓put_at]))))
              refine cmpA_s _ _ _ (.inr rfl) (by simp (decide := true) (disch := omega) only [go_sem, ↓reduceIte, ↓put_at]) (by simp (decide := true) (disch := omega) only [go_sem, ↓reduceIte, ↓put_at]) (by kernel_rfl) hcm ?_
              (repeat' ((first | refine sp_ ?_ | exact ex0 | (refine ret_s [] ?_; simp (decide := true) (disch := omega) only [go_sem, ↓reduceIte, ↓put_at]))))
    · rw [if_pos (.inr hf)] at hE
      subst hE
      rw [if_neg (by decide)] at hR
      subst hR
      refine spec_of Tryz.func59 rfl Tryz.ntmps59 Tryz.results59 ⟨by decide, by simp⟩ fun C hC => ?_
      (repeat' ((first | refine sp_ ?_ | exact ex0 | (refine ret_s [] ?_; simp (decide := true) (disch := omega) only [go_sem, ↓reduceIte, ↓put_at]))))
  · rw [if_pos (.inl hk)] at hE
    subst hE
    rw [if_neg (by decide)] at hR
    subst hR
    refine spec_of Tryz.func59 rfl Tryz.ntmps59 Tryz.results59 ⟨by decide, by simp⟩ fun C hC => ?_
    (repeat' ((first | refine sp_ ?_ | exact ex0 | (refine ret_s [] ?_; simp (decide := true) (disch := omega) only [go_sem, ↓reduceIte, ↓put_at]))))
set_option maxRecDepth 100000 in
set_option maxHeartbeats 8000000 in
theorem sub_toads (p : Pc) (hp : p.2.2.length ≤ maxLen) : Spec Tryz.prog 61 [.ca (.val (pcV p))] [] (.ca (.val (.tup [.agg (s11L (adsR p)), vi (adsE p)]))) [] := by
  obtain ⟨f, k, b⟩ := p
  dsimp only at hp
  obtain ⟨E, hE⟩ : ∃ E, E = adsE (f, k, b) := ⟨_, rfl⟩
  obtain ⟨R, hR⟩ : ∃ R, R = adsR (f, k, b) := ⟨_, rfl⟩
  rw [← hE, ← hR]
  unfold adsR at hR
  rw [← hE] at hR
  unfold adsE at hE
  dsimp only at hE hR
  by_cases hk : k = 211
  · by_cases hf : f = 2
    · rw [if_neg (by omega)] at hE
      subst hk hf
      have c0 := gx_of b
      have c1 := gx32 b 0 hp
      rw [← goX_zero] at c1
      have hs := vl_lt 4 4294967296 (b, 0) (by decide)
      have hraw : adsRaw b = ⟨vl 4 (b, 0), preAd b (rawN11 4 b)⟩ := rfl
      have c5 := sub_ads (adsRaw b) (by rw [hraw]; exact hs) (by rw [hraw]; dsimp only; rw [preAd_len]; unfold rawN11 maxLen; omega)
      obtain ⟨Q, hQ⟩ : ∃ Q, Q = adsP (adsRaw b) := ⟨_, rfl⟩
      rw [← hQ] at c5 hE
      rw [hraw] at c5 hR
      clear hQ hraw
      obtain ⟨qf, qk, qs⟩ := Q
      have hcm := pp_ne qf 2 qk 211 qs b
      rw [show (b, (0 : Int)) = goX 0 b from goX_zero b] at *
      generalize vl 4 (goX 0 b) = src at *
      obtain ⟨n, hn⟩ : ∃ n, n = rawN11 4 b := ⟨_, rfl⟩
      rw [← hn] at c5 hR
      unfold rawN11 at hn
      have hn15 : n ≤ 15 := by omega
      have hnd : n ≤ (b.length - 4) / 4 := by omega
      have hnx : n = 15 ∨ n = (b.length - 4) / 4 := by omega
      clear hn
      refine spec_of Tryz.func61 rfl Tryz.ntmps61 Tryz.results61 ⟨by decide, by simp⟩ fun C hC => ?_
      (repeat' ((fail_if_success (refine stop_reg 5 ?_)); (first | refine sp_ ?_ | exact ex0 | refine call_u Tryz.call43 (c0) [] ex1 ?_ | refine call_u Tryz.call71 (c1) [(17, 0)] ex1 ?_ | (refine ret_s [] ?_; simp (decide := true) (disch := omega) only [go_sem, ↓reduceIte, ↓put_at]))))
      refine own_c (5, 0) 1 (5, 2) 160 3 ?_
      simp (decide := true) (disch := omega) only [go_sem, ↓reduceIte, ↓put_at]
      refine loop_s (α := {j : Nat // j ≤ n}) (fun j => [(.o (1, 0), .num 3), (.c (1, 0) 0, .av (.val (vi 2))), (.c (1, 0) 1, .av (.val (vi 211))), (.c (1, 0) 2, .av (.val (vs b))), (.s 1, .av (.ptr (1, 0) 0 0)), (.o (2, 0), .num 2), (.c (2, 0) 0, .av (.val (vu 0))), (.c (2, 0) 1, .av (.val (.sc (.slice none 0 0)))), (.s 2, .av (.ptr (2, 0) 0 0)), (.s 3, .av (.val (vi 0))), (.s 4, .av (.ptr (17, 0) 0 0)), (.o (17, 0), .num 2), (.c (17, 0) 0, .av (.val (vs (goX (4 + 4 * j.1) b).1))), (.c (17, 0) 1, .av (.val (vi (goX (4 + 4 * j.1) b).2))), (.o (5, 0), .num 2), (.c (5, 0) 0, .av (.val (vu src))), (.c (5, 0) 1, .av (.own (5, 2) 0 160 3 ((preAd b j.1).map a11El))), (.k (5, 2), .row 160 3 (preAd b j.1).length), (.s 5, .av (.ptr (5, 0) 0 0))]) (fun j => n - j.1) ⟨0, Nat.zero_le _⟩ ?_ (fun j => ?_)
      · (try dsimp only)
        rw [show preAd b 0 = [] from rfl]
        simp (decide := true) (disch := omega) only [go_sem, ↓reduceIte, ↓put_at]
      · obtain ⟨j, hj⟩ := j
        dsimp only at hj ⊢
        have c3 := gx_left b (4 + 4 * j)
        have hpl := preAd_len b j
        by_cases hlt : j < n
        · have c4 := gx8 b (4 + 4 * j) hp
          have c6 := gx8 b (4 + 4 * j + 1) hp
          have c7 := gx16 b (4 + 4 * j + 2) hp
          rw [show vl 1 (goX (4 + 4 * j) b) = getN ((blkN 4 b j).take 1) from gx_sub b (4 + 4 * j) 0 1 4 (by omega) (by omega)] at c4
          rw [show vl 1 (goX (4 + 4 * j + 1) b) = getN (((blkN 4 b j).drop 1).take 1) from gx_sub b (4 + 4 * j) 1 1 4 (by omega) (by omega)] at c6
          rw [show vl 2 (goX (4 + 4 * j + 2) b) = getN (((blkN 4 b j).drop 2).take 2) from gx_sub b (4 + 4 * j) 2 2 4 (by omega) (by omega)] at c7
          have hsu := preAd_succ b j
          have e4 : 4 + 4 * j + 2 + 2 = 4 + 4 * (j + 1) := by omega
          rw [e4] at c7
          unfold rdAd at hsu
          generalize getN ((blkN 4 b j).take 1) = v1 at *
          generalize getN (((blkN 4 b j).drop 1).take 1) = v2 at *
          generalize getN (((blkN 4 b j).drop 2).take 2) = v3 at *
          have hleft : (4 : Int) ≤ ((b.length - (4 + 4 * j) : Nat) : Int) := by omega
          by_cases hv : v2 = 1
          · rw [decide_eq_true hv] at hsu
            subst hv
            (repeat' ((first | refine sp_ ?_ | exact ex0 | refine call_u Tryz.call44 (c3) [(17, 0)] ex1 ?_ | refine call_u Tryz.call68 (c4) [(17, 0)] ex1 ?_ | refine call_u Tryz.call68 (c6) [(17, 0)] ex1 ?_ | refine call_u Tryz.call69 (c7) [(17, 0)] ex1 ?_ | (refine ret_s [] ?_; simp (decide := true) (disch := omega) only [go_sem, ↓reduceIte, ↓put_at]))))
            refine next_s (α := {j : Nat // j ≤ n}) ⟨j + 1, hlt⟩ ⟨?_, by (try dsimp only); omega⟩
            (try dsimp only)
            rw [hsu]
            simp (decide := true) (disch := omega) only [go_sem, ↓reduceIte, ↓put_at]
            rw [List.map_append]
            rfl
          · rw [decide_eq_false hv] at hsu
            have hv2 : ¬ (v2 : Int) = 1 := by omega
            (repeat' ((first | refine sp_ ?_ | exact ex0 | refine call_u Tryz.call44 (c3) [(17, 0)] ex1 ?_ | refine call_u Tryz.call68 (c4) [(17, 0)] ex1 ?_ | refine call_u Tryz.call68 (c6) [(17, 0)] ex1 ?_ | refine call_u Tryz.call69 (c7) [(17, 0)] ex1 ?_ | (refine ret_s [] ?_; simp (decide := true) (disch := omega) only [go_sem, ↓reduceIte, ↓put_at]))))
            refine next_s (α := {j : Nat // j ≤ n}) ⟨j + 1, hlt⟩ ⟨?_, by (try dsimp only); omega⟩
            (try dsimp only)
            rw [hsu]
            simp (decide := true) (disch := omega) only [go_sem, ↓reduceIte, ↓put_at]
            rw [List.map_append]
            rfl
        · obtain rfl : j = n := by omega
          by_cases hq : (qf, qk, qs) = (2, 211, b)
          · rw [if_pos hq] at hE
            subst hE
            rw [if_pos rfl] at hR
            subst hR
            simp only [Prod.mk.injEq] at hq
            rw [decide_eq_true hq] at hcm
            by_cases hleft : (4 : Int) ≤ ((b.length - (4 + 4 * j) : Nat) : Int)
            · obtain rfl : j = 15 := by omega
              (repeat' ((first | refine sp_ ?_ | exact ex0 | refine call_u Tryz.call44 (c3) [(17, 0)] ex1 ?_ | refine call_u Tryz.call82 (c5) [] ex1 ?_ | (refine ret_s [] ?_; simp (decide := true) (disch := omega) only [go_sem, ↓reduceIte, ↓put_at]))))
              refine cmpA_s _ _ _ (.inr rfl) (by simp (decide := true) (disch := omega) only [go_sem, ↓reduceIte, ↓put_at]) (by simp (decide := true) (disch := omega) only [go_sem, ↓reduceIte, ↓put_at]) (by kernel_rfl) hcm ?_
              (repeat' ((first | refine sp_ ?_ | exact ex0 | (refine ret_s [] ?_; simp (decide := true) (disch := omega) only [go_sem, ↓reduceIte, ↓put_at]))))
            · (repeat' ((first | refine sp_ ?_ | exact ex0 | refine call_u Tryz.call44 (c3) [(17, 0)] ex1 ?_ | refine call_u Tryz.call82 (c5) [] ex1 ?_ | (refine ret_s [] ?_; simp (decide := true) (disch := omega) only [go_sem, ↓reduceIte, ↓put_at]))))
              refine cmpA_s _ _ _ (.inr rfl) (by simp (decide := true) (disch := omega) only [go_sem, ↓reduceIte, ↓put_at]) (by simp (decide := true) (disch := omega) only [go_sem, ↓reduceIte, ↓put_at]) (by kernel_rfl) hcm ?_
              (repeat' ((first | refine sp_ ?_ | exact ex0 | (refine ret_s [] ?_; simp (decide := true) (disch := omega) only [go_sem, ↓reduceIte, ↓put_at]))))
          · rw [if_neg hq] at hE
            subst hE
            rw [if_neg (by decide)] at hR
            subst hR
            simp only [Prod.mk.injEq] at hq
            rw [decide_eq_false hq] at hcm
            by_cases hleft : (4 : Int) ≤ ((b.length - (4 + 4 * j) : Nat) : Int)
            · obtain rfl : j = 15 := by omega
              (repeat' ((first | refine sp_ ?_ | exact ex0 | refine call_u Tryz.call44 (c3) [(17, 0)] ex1 ?_ | refine call_u Tryz.call82 (c5) [] ex1 ?_ | (refine ret_s [] ?_; simp (decide := true) (disch := omega) only [go_sem, ↓reduceIte, ↓put_at]))))
              refine cmpA_s _ _ _ (.inr rfl) (by simp (decide := true) (disch := omega) only [go_sem, ↓reduceIte, ↓put_at]) (by simp (decide := true) (disch := omega) only [go_sem, ↓reduceIte, ↓put_at]) (by kernel_rfl) hcm ?_
              (repeat' ((first | refine sp_ ?_ | exact ex0 | (refine ret_s [] ?_; simp (decide := true) (disch := omega) only [go_sem, ↓reduceIte, ↓put_at]))))
            · (repeat' ((first | refine sp_ ?_ | exact ex0 | refine call_u Tryz.call44 (c3) [(17, 0)] ex1 ?_ | refine call_u Tryz.call82 (c5) [] ex1 ?_ | (refine ret_s [] ?_; simp (decide := true) (disch := omega) only [go_sem, ↓reduceIte, ↓put_at]))))
              refine cmpA_s _ _ _ (.inr rfl) (by simp (decide := true) (disch := omega) only [go_sem, ↓reduceIte, ↓put_at]) (by simp (decide := true) (disch := omega) only [go_sem, ↓reduceIte, ↓put_at]) (by kernel_rfl) hcm ?_
              (repeat' ((first | refine sp_ ?_ | exact ex0 | (refine ret_s [] ?_; simp (decide := true) (disch := omega) only [go_sem, ↓reduceIte, ↓put_at]))))
    · rw [if_pos (.inr hf)] at hE
      subst hE
      rw [if_neg (by decide)] at hR
      subst hR
      refine spec_of Tryz.func61 rfl Tryz.ntmps61 Tryz.results61 ⟨by decide, by simp⟩ fun C hC => ?_
      (repeat' ((first | refine sp_ ?_ | exact ex0 | (refine ret_s [] ?_; simp (decide := true) (disch := omega) only [go_sem, ↓reduceIte, ↓put_at]))))
  · rw [if_pos (.inl hk)] at hE
    subst hE
    rw [if_neg (by decide)] at hR
    subst hR
    refine spec_of Tryz.func61 rfl Tryz.ntmps61 Tryz.results61 ⟨by decide, by simp⟩ fun C hC => ?_
    (repeat' ((first | refine sp_ ?_ | exact ex0 | (refine ret_s [] ?_; simp (decide := true) (disch := omega) only [go_sem, ↓reduceIte, ↓put_at]))))
end Go.Proofs.YtbnnfmleoebelaaGreat

