/- Layer 10 (nack): Piece, Of; the document's Of; walked. -/
import Derived.Test.YthnbeodpckmjnaaGreatDoorOpenz
import Derived.Test.YthnbeodpckmjnaaGreatDoorQRefZz
import Derived.Test.YthnbeodpckmjnaaGreatDoorQRefZz
import Derived.Test.YthnbeodpckmjnaaGreatDoorRPz
namespace Go.Proofs.YthnbeodpckmjnaaGreatDoor
open Go.RowKit
set_option linter.unusedVariables false
set_option linter.unusedSimpArgs false

theorem gx_len (T : Nat) (l : List UInt8) : (goX T l).1.length = l.length - T := by
  unfold goX
  split
  · simp
  · simp; omega
theorem gx_le (T : Nat) (l : List UInt8) (h : l.length ≤ maxLen) : (goX T l).1.length ≤ maxLen := by rw [gx_len]; omega
theorem gx8 (s : List UInt8) (T : Nat) (h : s.length ≤ maxLen) : Spec Tryz.prog 50 [.ptr 0 0] [inO (goX T s).1 (goX T s).2] (.ca (.val (vi (vl 1 (goX T s))))) [inO (goX (T + 1) s).1 (goX (T + 1) s).2] := by
  have := rd8 (goX T s) (gx_le T s h)
  rwa [goX_nx 1 T s (by decide)] at this
theorem gx16 (s : List UInt8) (T : Nat) (h : s.length ≤ maxLen) : Spec Tryz.prog 51 [.ptr 0 0] [inO (goX T s).1 (goX T s).2] (.ca (.val (vi (vl 2 (goX T s))))) [inO (goX (T + 2) s).1 (goX (T + 2) s).2] := by
  have := in_u16 (goX T s).1 (goX T s).2 (gx_le T s h)
  have e := goX_nx 2 T s (by decide)
  unfold nx at e
  rw [← e]
  exact this
theorem gx24 (s : List UInt8) (T : Nat) (h : s.length ≤ maxLen) : Spec Tryz.prog 123 [.ptr 0 0] [inO (goX T s).1 (goX T s).2] (.ca (.val (vi (vl 3 (goX T s))))) [inO (goX (T + 3) s).1 (goX (T + 3) s).2] := by
  have := rd24 (goX T s) (gx_le T s h)
  rwa [goX_nx 3 T s (by decide)] at this
theorem gx32 (s : List UInt8) (T : Nat) (h : s.length ≤ maxLen) : Spec Tryz.prog 52 [.ptr 0 0] [inO (goX T s).1 (goX T s).2] (.ca (.val (vu (vl 4 (goX T s))))) [inO (goX (T + 4) s).1 (goX (T + 4) s).2] := by
  have := rd32 (goX T s) (gx_le T s h)
  rwa [goX_nx 4 T s (by decide)] at this
theorem gx_left (s : List UInt8) (T : Nat) : Spec Tryz.prog 44 [.ptr 0 0] [inO (goX T s).1 (goX T s).2] (.ca (.val (vi ((s.length - T : Nat) : Int)))) [inO (goX T s).1 (goX T s).2] := by
  have := in_left (goX T s).1 (goX T s).2
  rwa [gx_len] at this
theorem gx_of (s : List UInt8) : Spec Tryz.prog 43 [.ca (.val (vs s))] [] (.ptr 0 0) [inO (goX 0 s).1 (goX 0 s).2] := by
  have := pen_of s
  rwa [show inO s 0 = inO (goX 0 s).1 (goX 0 s).2 by rw [← goX_zero]] at this
structure N10.Ok (n : N10) : Prop where
  fr : 0 ≤ n.fr ∧ n.fr < 4294967296
  ab : 0 ≤ n.ab ∧ n.ab < 4294967296
  ps : ∀ x ∈ n.ps, (0 ≤ x.pid ∧ x.pid < 65536) ∧ 0 ≤ x.blp ∧ x.blp < 65536
set_option maxRecDepth 100000 in
set_option maxHeartbeats 4000000 in
theorem nack_of (p : Pc) (hp : p.2.2.length ≤ maxLen) : Spec Tryz.prog 80 [.ca (.val (pcV p))] [] (.ca (.val (.tup [.agg (n10L (nackR p)), vi (nackE p)]))) [] := by
  obtain ⟨c, k, b⟩ := p
  dsimp only at hp
  obtain ⟨E, hE⟩ : ∃ E, E = nackE (c, k, b) := ⟨_, rfl⟩
  obtain ⟨R, hR⟩ : ∃ R, R = nackR (c, k, b) := ⟨_, rfl⟩
  rw [← hE, ← hR]
  unfold nackR at hR
  rw [← hE] at hR
  unfold nackE at hE
  dsimp only at hE hR
  by_cases hk : k = 205
  · by_cases hc : c = 1
    · rw [if_neg (by omega)] at hE
      by_cases h1 : b.length < 12
      · rw [if_pos h1] at hE
        subst hE
        rw [if_neg (by decide)] at hR
        subst hR
        refine spec_of Tryz.func80 rfl Tryz.ntmps80 Tryz.results80 ⟨by decide, by simp⟩ fun C hC => ?_
        (repeat' ((first | refine sp_ ?_ | exact ex0 | (refine ret_s [] ?_; simp (decide := true) (disch := omega) only [go_sem, ↓reduceIte, ↓put_at]))))
      rw [if_neg h1] at hE
      by_cases h2 : b.length % 4 ≠ 0
      · rw [if_pos (.inl h2)] at hE
        subst hE
        rw [if_neg (by decide)] at hR
        subst hR
        have h3 : ¬ (b.length : Int) % 4 = 0 := by omega
        refine spec_of Tryz.func80 rfl Tryz.ntmps80 Tryz.results80 ⟨by decide, by simp⟩ fun C hC => ?_
        (repeat' ((first | refine sp_ ?_ | exact ex0 | (refine ret_s [] ?_; simp (decide := true) (disch := omega) only [go_sem, ↓reduceIte, ↓put_at]))))
      have h2' : (b.length : Int) % 4 = 0 := by omega
      by_cases h3 : 1208 < b.length
      · rw [if_pos (.inr h3)] at hE
        subst hE
        rw [if_neg (by decide)] at hR
        subst hR
        refine spec_of Tryz.func80 rfl Tryz.ntmps80 Tryz.results80 ⟨by decide, by simp⟩ fun C hC => ?_
        (repeat' ((first | refine sp_ ?_ | exact ex0 | (refine ret_s [] ?_; simp (decide := true) (disch := omega) only [go_sem, ↓reduceIte, ↓put_at]))))
      rw [if_neg (by omega)] at hE
      subst hE
      rw [if_pos rfl] at hR
      subst hR
      obtain ⟨N, hN⟩ : ∃ N, N = (b.length - 8) / 4 := ⟨_, rfl⟩
      have hlen : b.length = 8 + 4 * N := by omega
      have c0 := gx_of b
      have c1 := gx32 b 0 hp
      have c2 := gx32 b 4 hp
      rw [goX_vl 4 0 b (by omega), List.drop_zero] at c1
      rw [goX_vl 4 4 b (by omega)] at c2
      rw [← hN]
      clear hN
      subst hk hc
      generalize hfr : getN (b.take 4) = fr at *
      generalize hab : getN ((b.drop 4).take 4) = ab at *
      refine spec_of Tryz.func80 rfl Tryz.ntmps80 Tryz.results80 ⟨by decide, by simp⟩ fun C hC => ?_
      (repeat' ((fail_if_success (refine stop_reg 10 ?_)); (first | refine sp_ ?_ | exact ex0 | refine call_u Tryz.call43 (c0) [] ex1 ?_ | refine call_u Tryz.call52 (c1) [(35, 0)] ex1 ?_ | refine call_u Tryz.call52 (c2) [(35, 0)] ex1 ?_ | (refine ret_s [] ?_; simp (decide := true) (disch := omega) only [go_sem, ↓reduceIte, ↓put_at]))))
      refine own_c (6, 0) 2 (6, 3) 194 2 ?_
      simp (decide := true) (disch := omega) only [go_sem, ↓reduceIte, ↓put_at]
      refine loop_s (α := {j : Nat // j ≤ N}) (fun j => [(.o (2, 0), .num 3), (.c (2, 0) 0, .av (.val (vu 0))), (.c (2, 0) 1, .av (.val (vu 0))), (.c (2, 0) 2, .av (.val (.sc (.slice none 0 0)))), (.s 2, .av (.ptr (2, 0) 0 0)), (.s 3, .av (.val (vi 0))), (.s 5, .av (.ptr (35, 0) 0 0)), (.o (35, 0), .num 2), (.c (35, 0) 0, .av (.val (vs (goX (8 + 4 * j.1) b).1))), (.c (35, 0) 1, .av (.val (vi (goX (8 + 4 * j.1) b).2))), (.o (6, 0), .num 3), (.c (6, 0) 0, .av (.val (vu fr))), (.c (6, 0) 1, .av (.val (vu ab))), (.c (6, 0) 2, .av (.own (6, 3) 0 194 2 ((prs j.1 8 b).map p10El))), (.k (6, 3), .row 194 2 (prs j.1 8 b).length), (.s 6, .av (.ptr (6, 0) 0 0))]) (fun j => N - j.1) ⟨0, Nat.zero_le _⟩ ?_ (fun j => ?_)
      · (try dsimp only)
        rw [show prs 0 8 b = [] from rfl]
        simp (decide := true) (disch := omega) only [go_sem, ↓reduceIte, ↓put_at]
      · obtain ⟨j, hj⟩ := j
        dsimp only at hj ⊢
        have c3 := gx_left b (8 + 4 * j)
        have hpl := prs_len j 8 b
        by_cases hlt : j < N
        · have c4 := gx16 b (8 + 4 * j) hp
          have c5 := gx16 b (8 + 4 * j + 2) hp
          rw [goX_vl 2 _ b (by omega)] at c4 c5
          have v1 := getN_lt ((b.drop (8 + 4 * j)).take 2)
          have v2 := getN_lt ((b.drop (8 + 4 * j + 2)).take 2)
          rw [List.length_take, List.length_drop, Nat.min_eq_left (by omega)] at v1 v2
          have hs := prs_succ j 8 b
          have e4 : 8 + 4 * j + 2 + 2 = 8 + 4 * (j + 1) := by omega
          rw [e4] at c5
          generalize getN ((b.drop (8 + 4 * j)).take 2) = a1 at *
          generalize getN ((b.drop (8 + 4 * j + 2)).take 2) = a2 at *
          have hleft : (0 : Int) < ((b.length - (8 + 4 * j) : Nat) : Int) := by omega
          (repeat' ((first | refine sp_ ?_ | exact ex0 | refine call_u Tryz.call44 (c3) [(35, 0)] ex1 ?_ | refine call_u Tryz.call51 (c4) [(35, 0)] ex1 ?_ | refine call_u Tryz.call51 (c5) [(35, 0)] ex1 ?_ | (refine ret_s [] ?_; simp (decide := true) (disch := omega) only [go_sem, ↓reduceIte, ↓put_at]))))
          refine next_s (α := {j : Nat // j ≤ N}) ⟨j + 1, hlt⟩ ⟨?_, by (try dsimp only); omega⟩
          (try dsimp only)
          rw [hs]
          simp (decide := true) (disch := omega) only [go_sem, ↓reduceIte, ↓put_at]
          rw [List.map_append]
          rfl
        · obtain rfl : j = N := by omega
          have hleft : ¬ (0 : Int) < ((b.length - (8 + 4 * j) : Nat) : Int) := by omega
          (repeat' ((first | refine sp_ ?_ | exact ex0 | refine call_u Tryz.call44 (c3) [(35, 0)] ex1 ?_ | (refine ret_s [] ?_; simp (decide := true) (disch := omega) only [go_sem, ↓reduceIte, ↓put_at]))))
    · rw [if_pos (.inr hc)] at hE
      subst hE
      rw [if_neg (by decide)] at hR
      subst hR
      refine spec_of Tryz.func80 rfl Tryz.ntmps80 Tryz.results80 ⟨by decide, by simp⟩ fun C hC => ?_
      (repeat' ((first | refine sp_ ?_ | exact ex0 | (refine ret_s [] ?_; simp (decide := true) (disch := omega) only [go_sem, ↓reduceIte, ↓put_at]))))
  · rw [if_pos (.inl hk)] at hE
    subst hE
    rw [if_neg (by decide)] at hR
    subst hR
    refine spec_of Tryz.func80 rfl Tryz.ntmps80 Tryz.results80 ⟨by decide, by simp⟩ fun C hC => ?_
    (repeat' ((first | refine sp_ ?_ | exact ex0 | (refine ret_s [] ?_; simp (decide := true) (disch := omega) only [go_sem, ↓reduceIte, ↓put_at]))))
end Go.Proofs.YthnbeodpckmjnaaGreatDoor

