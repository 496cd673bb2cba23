/- Package rtp: Parse. Layer 4: awake; RtpControls, walked. -/
import Derived.Test.YtkclmofjlmeolaaGreatDoorRtp1z
import Derived.Test.YtkclmofjlmeolaaGreatDoorQRefZz
namespace Go.Proofs.YtkclmofjlmeolaaGreatDoor
open Go.RowKit
set_option linter.unusedVariables false
set_option linter.unusedSimpArgs false

theorem goX_len (T : Nat) (l : List UInt8) : (goX T l).1.length ≤ l.length := by
  unfold goX
  split
  · simp
  · simp
theorem go8 (s : List UInt8) (T : Nat) (h : s.length ≤ maxLen) : Spec Tryz.prog 48 [.ptr 0 0] [inO (goX T s).1 (goX T s).2] (.ca (.val (vi (vl 1 (goX T s))))) [inO (goX (T + 1) s).1 (goX (T + 1) s).2] := by
  have := rd8 (goX T s) (Nat.le_trans (goX_len T s) h)
  rwa [goX_nx 1 T s (by decide)] at this
theorem go16 (s : List UInt8) (T : Nat) (h : s.length ≤ maxLen) : Spec Tryz.prog 49 [.ptr 0 0] [inO (goX T s).1 (goX T s).2] (.ca (.val (vi (vl 2 (goX T s))))) [inO (goX (T + 2) s).1 (goX (T + 2) s).2] := by
  have := in_u16 (goX T s).1 (goX T s).2 (Nat.le_trans (goX_len T s) h)
  have e := goX_nx 2 T s (by decide)
  unfold nx at e
  rw [← e]
  exact this
theorem go32 (s : List UInt8) (T : Nat) (h : s.length ≤ maxLen) : Spec Tryz.prog 50 [.ptr 0 0] [inO (goX T s).1 (goX T s).2] (.ca (.val (vu (vl 4 (goX T s))))) [inO (goX (T + 4) s).1 (goX (T + 4) s).2] := by
  have := rd32 (goX T s) (Nat.le_trans (goX_len T s) h)
  rwa [goX_nx 4 T s (by decide)] at this
def rdO (s : List UInt8) (n : Nat) : List Int := (List.range n).map fun i => vl 4 (goX (12 + 4 * i) s)
theorem rdO_succ (s : List UInt8) (n : Nat) : rdO s (n + 1) = rdO s n ++ [vl 4 (goX (12 + 4 * n) s)] := by
  unfold rdO
  rw [List.range_succ, List.map_append]
  rfl
theorem rdO_len (s : List UInt8) (n : Nat) : (rdO s n).length = n := by simp [rdO]
theorem rdO_eq (s : List UInt8) (n : Nat) (h : 12 + 4 * n ≤ s.length) : rdO s n = wds n (s.drop 12) := by
  unfold rdO wds
  apply List.map_congr_left
  intro i hi
  have := List.mem_range.1 hi
  rw [goX_vl 4 _ s (by omega), List.drop_drop]
/-- What is left ahead of the data. -/
def r9 (s : List UInt8) : List UInt8 × Int := if hasX s = true then (rawL (goX (oth s + 4) s).1 (goX (oth s + 4) s).2 (4 * vl 2 (goX (oth s + 2) s)), rawE (goX (oth s + 4) s).1 (goX (oth s + 4) s).2 (4 * vl 2 (goX (oth s + 2) s))) else goX (oth s) s
def bad4 (s : List UInt8) : Prop := s.length < oth s ∨ (hasX s = true ∧ (s.length < oth s + 4 ∨ s.length < atD s))
theorem r9_bad (s : List UInt8) (h : bad4 s) : r9 s = ([], 2) := by
  unfold r9
  have key : ∀ n : Int, 0 ≤ n → (rawL ([] : List UInt8) 2 n, rawE ([] : List UInt8) 2 n) = ([], 2) := by
    intro n hn
    unfold rawL rawE failL failE
    by_cases h0 : n ≤ (([] : List UInt8).length : Int)
    · rw [if_pos h0, if_pos h0]; simp
    · rw [if_neg h0, if_neg h0]; simp
  by_cases hx : hasX s = true
  · rw [if_pos hx]
    by_cases h4 : s.length < oth s + 4
    · have e : goX (oth s + 4) s = ([], 2) := by unfold goX; rw [if_neg (by omega)]
      rw [e]
      exact key _ (by unfold vl; omega)
    · have e : goX (oth s + 4) s = (s.drop (oth s + 4), 0) := by unfold goX; rw [if_pos (by omega)]
      have ea : atD s = oth s + 4 + xlen s := by unfold atD; rw [if_pos hx]
      have hl : s.length < atD s := by
        rcases h with h | ⟨_, h | h⟩
        · omega
        · omega
        · exact h
      rw [e, goX_vl 2 _ s (by omega)]
      have hh : ¬ (4 * (getN ((s.drop (oth s + 2)).take 2) : Int)) ≤ ((s.drop (oth s + 4)).length : Int) := by
        rw [List.length_drop]; unfold xlen at ea; omega
      unfold rawL rawE failL failE
      dsimp only
      rw [if_neg hh, if_neg hh]
      rfl
  · rw [if_neg hx]
    have hl : s.length < oth s := by
      rcases h with h | ⟨h, _⟩
      · exact h
      · exact absurd h hx
    unfold goX
    rw [if_neg (by omega)]
theorem r9_good (s : List UInt8) (h : ¬ bad4 s) : r9 s = (s.drop (atD s), 0) ∧ oth s ≤ s.length ∧ atD s ≤ s.length ∧ (hasX s = true → oth s + 4 ≤ s.length ∧ rawT (goX (oth s + 4) s).1 (4 * vl 2 (goX (oth s + 2) s)) = (s.drop (oth s + 4)).take (xlen s)) := by
  unfold bad4 at h
  rw [not_or, not_and] at h
  obtain ⟨h1, h2⟩ := h
  unfold r9
  by_cases hx : hasX s = true
  · have h3 := h2 hx
    rw [not_or] at h3
    have e : goX (oth s + 4) s = (s.drop (oth s + 4), 0) := by unfold goX; rw [if_pos (by omega)]
    have ea : atD s = oth s + 4 + xlen s := by unfold atD; rw [if_pos hx]
    rw [if_pos hx, e, goX_vl 2 _ s (by omega)]
    have hx4 : (4 * (getN ((s.drop (oth s + 2)).take 2) : Int)) = ((xlen s : Nat) : Int) := by unfold xlen; omega
    have hh : ((xlen s : Nat) : Int) ≤ ((s.drop (oth s + 4)).length : Int) := by rw [List.length_drop]; omega
    refine ⟨?_, by omega, by omega, fun _ => ⟨by omega, ?_⟩⟩
    · unfold rawL rawE
      dsimp only
      rw [hx4, if_pos hh, if_pos hh, Int.toNat_natCast, List.drop_drop, ea]
    · unfold rawT
      dsimp only
      rw [hx4, if_pos hh, Int.toNat_natCast]
  · have ea : atD s = oth s := by unfold atD; rw [if_neg hx]
    rw [if_neg hx, ea]
    refine ⟨?_, by omega, by omega, fun hh => absurd hh hx⟩
    unfold goX
    rw [if_pos (by omega)]
theorem getN_one4 (x : UInt8) : getN [x] = x.toNat := by simp [getN]
theorem byte_at (s : List UInt8) (a : Nat) (h : a < s.length) : (getN ((s.drop a).take 1) : Int) = ((s.getD a 0).toNat : Nat) := by
  rw [List.drop_eq_getElem_cons h, List.take_succ_cons, List.take_zero, getN_one4, List.getD_eq_getElem?_getD, List.getElem?_eq_getElem h]
  rfl
set_option maxRecDepth 100000 in
set_option maxHeartbeats 8000000 in
theorem rtp_parse (s : List UInt8) (hl : s.length ≤ maxLen) : Spec Tryz.prog 22 [.ca (.val (vs s))] [] (.ca (.val (.tup [.agg (p4L (parse4 s).1), vi (parse4 s).2]))) [] := by
  obtain ⟨R, hR⟩ : ∃ R, R = parse4 s := ⟨_, rfl⟩
  rw [← hR]
  unfold parse4 at hR
  by_cases h12 : s.length < 12
  · rw [if_pos h12] at hR
    subst hR
    unfold no4
    refine spec_of Tryz.func22 rfl Tryz.ntmps22 Tryz.results22 ⟨by decide, by simp⟩ fun C hC => ?_
    (repeat (first | refine sp_ ?_ | exact ex0))
    (refine ret_s [] ?_; simp (decide := true) (disch := omega) only [go_sem, ↓reduceIte, ↓put_at])
  rw [if_neg h12] at hR
  have hb0 : b0 s < 256 := UInt8.toNat_lt _
  have hb1 : b1 s < 256 := UInt8.toNat_lt _
  have v0 : vl 1 (goX 0 s) = (b0 s : Int) := by rw [goX_vl 1 0 s (by omega)]; exact byte_at s 0 (by omega)
  have v1 : vl 1 (goX 1 s) = (b1 s : Int) := by rw [goX_vl 1 1 s (by omega)]; exact byte_at s 1 (by omega)
  have c0 := go8 s 0 hl
  rw [v0, ← goX_zero] at c0
  dsimp only [Nat.zero_add] at c0
  have c1 := go8 s 1 hl
  rw [v1] at c1
  dsimp only [Nat.reduceAdd] at c1
  have a192 := bit_192 (b0 s) hb0
  by_cases h64 : b0 s / 64 ≠ 2
  · rw [if_pos h64] at hR
    subst hR
    unfold no4
    refine spec_of Tryz.func22 rfl Tryz.ntmps22 Tryz.results22 ⟨by decide, by simp⟩ fun C hC => ?_
    (repeat (first | refine sp_ ?_ | exact ex0))
    refine call_s Tryz.call47 (pen_of s) [] ?_
    (repeat (first | refine sp_ ?_ | exact ex0))
    refine call_s Tryz.call48 c0 [(14, 0)] ?_
    (repeat (first | refine sp_ ?_ | exact ex0))
    refine call_s Tryz.call48 c1 [(14, 0)] ?_
    (repeat (first | refine sp_ ?_ | exact ex0))
    (refine ret_s [] ?_; simp (decide := true) (disch := omega) only [go_sem, ↓reduceIte, ↓put_at])
  rw [if_neg h64] at hR
  have h64' : b0 s / 64 = 2 := by omega
  refine spec_of Tryz.func22 rfl Tryz.ntmps22 Tryz.results22 ⟨by decide, by simp⟩ fun C hC => ?_
  (repeat (first | refine sp_ ?_ | exact ex0))
  refine call_s Tryz.call47 (pen_of s) [] ?_
  (repeat (first | refine sp_ ?_ | exact ex0))
  refine call_s Tryz.call48 c0 [(14, 0)] ?_
  (repeat (first | refine sp_ ?_ | exact ex0))
  refine call_s Tryz.call48 c1 [(14, 0)] ?_
  have v2 := vl_lt 2 65536 (goX 2 s) (by decide)
  have e2 : vl 2 (goX 2 s) = getN ((s.drop 2).take 2) := goX_vl 2 2 s (by omega)
  have e4 : vl 4 (goX 4 s) = getN ((s.drop 4).take 4) := goX_vl 4 4 s (by omega)
  have e8 : vl 4 (goX 8 s) = getN ((s.drop 8).take 4) := goX_vl 4 8 s (by omega)
  have c2 := go16 s 2 hl
  have c3 := go32 s 4 hl
  have c4 := go32 s 8 hl
  dsimp only [Nat.reduceAdd] at c2 c3 c4
  have m128 : (bits .and .i64 (b1 s : Int) 128 != 0) = decide (128 ≤ b1 s) := by
    rw [bit_128 (b1 s) hb1]
    by_cases h : 128 ≤ b1 s
    · rw [decide_eq_true h]; simp only [bne_iff_ne, ne_eq]; omega
    · rw [decide_eq_false h, show b1 s / 128 = 0 by omega]; rfl
  have m16 : (bits .and .i64 (b0 s : Int) 16 != 0) = hasX s := by
    rw [bit_16 (b0 s) hb0]
    unfold hasX
    by_cases h : b0 s / 16 % 2 = 1
    · rw [decide_eq_true h, h]; rfl
    · rw [decide_eq_false h, show b0 s / 16 % 2 = 0 by omega]; rfl
  have m127 : (b1 s : Int) % 128 = (b1 s % 128 : Nat) := by omega
  have m15 := bit_15 (b0 s) hb0
  obtain ⟨N, hN⟩ : ∃ N, N = b0 s % 16 := ⟨_, rfl⟩
  have hoth : oth s = 12 + 4 * N := by unfold oth; rw [hN]
  (repeat (first | refine sp_ ?_ | exact ex0))
  refine call_s Tryz.call49 c2 [(14, 0)] ?_
  (repeat (first | refine sp_ ?_ | exact ex0))
  refine call_s Tryz.call50 c3 [(14, 0)] ?_
  (repeat (first | refine sp_ ?_ | exact ex0))
  refine call_s Tryz.call50 c4 [(14, 0)] ?_
  (repeat ((fail_if_success (refine stop_reg 11 ?_)); (first | refine sp_ ?_ | exact ex0)))
  simp only [m128, m16, m127]
  refine own_c (7, 0) 5 (7, 6) 31 1 ?_
  simp (decide := true) (disch := omega) only [go_sem, ↓reduceIte, ↓put_at]
  refine loop_s (α := {j : Nat // j ≤ N}) (fun j => [(.s 2, .av (.ptr (2, 0) 0 0)), (.o (2, 0), .num 11), (.s 3, .av (.val (vi 0))), (.o (14, 0), .num 2), (.c (14, 0) 0, .av (.val (vs (goX (12 + 4 * j.1) s).1))), (.c (14, 0) 1, .av (.val (vi (goX (12 + 4 * j.1) s).2))), (.s 4, .av (.ptr (14, 0) 0 0)), (.s 5, .av (.val (vi (b0 s)))), (.o (7, 0), .num 11), (.c (7, 0) 0, .av (.val (vb (decide (128 ≤ b1 s))))), (.c (7, 0) 1, .av (.val (vi (b1 s % 128 : Nat)))), (.c (7, 0) 2, .av (.val (vh (vl 2 (goX 2 s))))), (.c (7, 0) 3, .av (.val (vu (vl 4 (goX 4 s))))), (.c (7, 0) 4, .av (.val (vu (vl 4 (goX 8 s))))), (.c (7, 0) 5, .av (.own (7, 6) 0 31 1 ((rdO s j.1).map u32El))), (.k (7, 6), .row 31 1 ((rdO s j.1).map u32El).length), (.c (7, 0) 6, .av (.val (vb (hasX s)))), (.c (7, 0) 7, .av (.val (vi 0))), (.c (7, 0) 8, .av (.val (vs []))), (.c (7, 0) 9, .av (.val (vs []))), (.c (7, 0) 10, .av (.val (vi 0))), (.s 7, .av (.ptr (7, 0) 0 0)), (.s 51, .av (.val (vi N))), (.s 52, .av (.val (vi j.1)))]) (fun j => N - j.1) ⟨0, Nat.zero_le _⟩ ?_ (fun j => ?_)
  · simp (decide := true) (disch := omega) only [go_sem, ↓reduceIte, ↓put_at]
    exact ⟨rfl, rfl, by omega⟩
  · obtain ⟨j, hj⟩ := j
    dsimp only at hj ⊢
    have hro := rdO_len s j
    by_cases hlt : j < N
    · have c5 := go32 s (12 + 4 * j) hl
      have e5 : 12 + 4 * j + 4 = 12 + 4 * (j + 1) := by omega
      rw [e5] at c5
      have e6 := rdO_succ s j
      (repeat (first | refine sp_ ?_ | exact ex0))
      refine call_s Tryz.call50 c5 [(14, 0)] ?_
      (repeat (first | refine sp_ ?_ | exact ex0))
      refine next_s ⟨j + 1, hlt⟩ ⟨?_, by dsimp only; omega⟩
      rw [e6, List.map_append]
      simp (decide := true) (disch := omega) only [go_sem, ↓reduceIte, ↓put_at]
    · obtain rfl : N = j := by omega
      rw [← hoth]
      have hol := goX_len (oth s) s
      (repeat ((fail_if_success (refine stop_reg 14 ?_)); (first | refine sp_ ?_ | exact ex0)))
      refine meet_s (α := {x : Int × List UInt8 // (¬ bad4 s → x.1 = (base4 s).profile ∧ x.2 = (base4 s).ext) ∧ x.2.length ≤ maxLen}) (fun x => [(.s 2, .av (.ptr (2, 0) 0 0)), (.o (2, 0), .num 11), (.s 3, .av (.val (vi 0))), (.o (14, 0), .num 2), (.c (14, 0) 0, .av (.val (vs (r9 s).1))), (.c (14, 0) 1, .av (.val (vi (r9 s).2))), (.s 4, .av (.ptr (14, 0) 0 0)), (.s 5, .av (.val (vi (b0 s)))), (.o (7, 0), .num 11), (.c (7, 0) 0, .av (.val (vb (decide (128 ≤ b1 s))))), (.c (7, 0) 1, .av (.val (vi (b1 s % 128 : Nat)))), (.c (7, 0) 2, .av (.val (vh (vl 2 (goX 2 s))))), (.c (7, 0) 3, .av (.val (vu (vl 4 (goX 4 s))))), (.c (7, 0) 4, .av (.val (vu (vl 4 (goX 8 s))))), (.c (7, 0) 5, .av (.own (7, 6) 0 31 1 ((rdO s N).map u32El))), (.k (7, 6), .row 31 1 ((rdO s N).map u32El).length), (.c (7, 0) 6, .av (.val (vb (hasX s)))), (.c (7, 0) 7, .av (.val (vi x.1.1))), (.c (7, 0) 8, .av (.val (vs x.1.2))), (.c (7, 0) 9, .av (.val (vs []))), (.c (7, 0) 10, .av (.val (vi 0))), (.s 7, .av (.ptr (7, 0) 0 0))]) ?_ (fun x => ?_)
      · have hbx : (base4 s).profile = if hasX s = true then (getN ((s.drop (oth s)).take 2) : Int) else 0 := rfl
        have hbe : (base4 s).ext = if hasX s = true then (s.drop (oth s + 4)).take (xlen s) else [] := rfl
        have hgood := r9_good s
        have hr9 : r9 s = if hasX s = true then (rawL (goX (oth s + 4) s).1 (goX (oth s + 4) s).2 (4 * vl 2 (goX (oth s + 2) s)), rawE (goX (oth s + 4) s).1 (goX (oth s + 4) s).2 (4 * vl 2 (goX (oth s + 2) s))) else goX (oth s) s := rfl
        cases hx : hasX s with
        | true =>
          rw [hx, if_pos rfl] at hbx hbe hr9
          have d1 := go16 s (oth s) hl
          have d2 := go16 s (oth s + 2) hl
          have w2 := vl_lt 2 65536 (goX (oth s + 2) s) (by decide)
          have e3 : oth s + 2 + 2 = oth s + 4 := by omega
          rw [e3] at d2
          have d3 := in_raw (goX (oth s + 4) s).1 (goX (oth s + 4) s).2 (4 * vl 2 (goX (oth s + 2) s)) (Nat.le_trans (goX_len _ s) hl) (by unfold maxLen; omega)
          have hel : (rawT (goX (oth s + 4) s).1 (4 * vl 2 (goX (oth s + 2) s))).length ≤ maxLen := by
            have := goX_len (oth s + 4) s
            unfold rawT
            split
            · rw [List.length_take]; omega
            · simp
          have hfe : ¬ bad4 s → vl 2 (goX (oth s) s) = (base4 s).profile ∧ rawT (goX (oth s + 4) s).1 (4 * vl 2 (goX (oth s + 2) s)) = (base4 s).ext := fun hb => by
            obtain ⟨_, _, _, h4⟩ := hgood hb
            have h5 := h4 hx
            refine ⟨?_, ?_⟩
            · rw [hbx]; exact goX_vl 2 _ s (by omega)
            · rw [hbe]; exact h5.2
          (repeat (first | refine sp_ ?_ | exact ex0))
          refine call_s Tryz.call49 d1 [(14, 0)] ?_
          (repeat (first | refine sp_ ?_ | exact ex0))
          refine call_s Tryz.call49 d2 [(14, 0)] ?_
          (repeat (first | refine sp_ ?_ | exact ex0))
          refine call_s Tryz.call51 d3 [(14, 0)] ?_
          (repeat (first | refine sp_ ?_ | exact ex0))
          refine at_meet ⟨(vl 2 (goX (oth s) s), rawT (goX (oth s + 4) s).1 (4 * vl 2 (goX (oth s + 2) s))), hfe, hel⟩ ?_
          dsimp only
          rw [hr9]
          simp (decide := true) (disch := omega) only [go_sem, ↓reduceIte, ↓put_at]
        | false =>
          rw [hx, if_neg (by decide)] at hbx hbe hr9
          (repeat (first | refine sp_ ?_ | exact ex0))
          have hfe : ¬ bad4 s → (0 : Int) = (base4 s).profile ∧ ([] : List UInt8) = (base4 s).ext := fun hb => ⟨hbx.symm, hbe.symm⟩
          refine at_meet ⟨(0, []), hfe, by simp⟩ ?_
          dsimp only
          rw [hr9]
          simp (decide := true) (disch := omega) only [go_sem, ↓reduceIte, ↓put_at]
      · obtain ⟨⟨F, E⟩, hFE, hEl⟩ := x
        dsimp only at hFE hEl ⊢
        obtain ⟨r1, hr1⟩ : ∃ r, r = (r9 s).1 := ⟨_, rfl⟩
        obtain ⟨r2, hr2⟩ : ∃ r, r = (r9 s).2 := ⟨_, rfl⟩
        rw [← hr1, ← hr2]
        have hr1l : r1.length ≤ maxLen := by
          rw [hr1]
          by_cases hb : bad4 s
          · rw [r9_bad s hb]; simp
          · rw [(r9_good s hb).1, List.length_drop]; omega
        have d1 := in_left r1 r2
        have d2 := in_raw r1 r2 r1.length hr1l (by unfold maxLen at *; omega)
        have t1 : rawT r1 r1.length = r1 := by unfold rawT; rw [if_pos (by omega), Int.toNat_natCast, List.take_length]
        have t2 : rawL r1 r2 r1.length = [] := by unfold rawL; rw [if_pos (by omega), Int.toNat_natCast, List.drop_length]
        have t3 : rawE r1 r2 r1.length = r2 := by unfold rawE; rw [if_pos (by omega)]
        rw [t1, t2, t3] at d2
        have d3 := in_err [] r2
        (repeat (first | refine sp_ ?_ | exact ex0))
        refine call_s Tryz.call52 d1 [(14, 0)] ?_
        (repeat (first | refine sp_ ?_ | exact ex0))
        refine call_s Tryz.call51 d2 [(14, 0)] ?_
        (repeat (first | refine sp_ ?_ | exact ex0))
        refine call_s Tryz.call53 d3 [(14, 0)] ?_
        by_cases hb : bad4 s
        · rw [r9_bad s hb] at hr1 hr2
          dsimp only at hr1 hr2
          subst hr1 hr2
          have hR2 : R = (no4, 2) := by
            rw [hR]
            unfold bad4 at hb
            split
            · rfl
            split
            · rfl
            split
            · rfl
            rename_i g1 g2 g3
            rcases hb with h | ⟨h1, h | h⟩
            · exact absurd h g1
            · exact absurd ⟨h1, h⟩ g2
            · exact absurd ⟨h1, h⟩ g3
          clear hR
          subst hR2
          unfold no4
          (repeat (first | refine sp_ ?_ | exact ex0))
          (refine ret_s [] ?_; simp (decide := true) (disch := omega) only [go_sem, ↓reduceIte, ↓put_at])
        · obtain ⟨g1, g2, g3, g4⟩ := r9_good s hb
          rw [g1] at hr1 hr2
          dsimp only at hr1 hr2
          obtain ⟨hF, hE⟩ := hFE hb
          unfold bad4 at hb
          rw [if_neg (fun h => hb (.inl h)), if_neg (fun h => hb (.inr ⟨h.1, .inl h.2⟩)), if_neg (fun h => hb (.inr ⟨h.1, .inr h.2⟩)), ← hr1] at hR
          have hro : rdO s N = wds (b0 s % 16) (s.drop 12) := by rw [← hN]; exact rdO_eq s N (by omega)
          have hbase : base4 s = ⟨decide (128 ≤ b1 s), (b1 s % 128 : Nat), vl 2 (goX 2 s), vl 4 (goX 4 s), vl 4 (goX 8 s), rdO s N, hasX s, F, E, r1, 0⟩ := by
            rw [hF, hE, hro, e2, e4, e8, hr1]
            rfl
          rw [hbase] at hR
          subst hr2
          have m32 := bit_32 (b0 s) hb0
          by_cases h32 : b0 s / 32 % 2 = 1
          · rw [if_pos h32] at hR
            have d4 := rtp_unpad r1 hr1l
            by_cases hpb : padBad r1
            · rw [if_pos hpb] at hR d4
              rw [if_pos hpb, if_pos hpb] at d4
              subst hR
              unfold no4
              (repeat (first | refine sp_ ?_ | exact ex0))
              refine call_s Tryz.call54 d4 [] ?_
              (repeat (first | refine sp_ ?_ | exact ex0))
              (refine ret_s [] ?_; simp (decide := true) (disch := omega) only [go_sem, ↓reduceIte, ↓put_at])
            · rw [if_neg hpb] at hR d4
              rw [if_neg hpb, if_neg hpb] at d4
              subst hR
              (repeat (first | refine sp_ ?_ | exact ex0))
              refine call_s Tryz.call54 d4 [] ?_
              (repeat (first | refine sp_ ?_ | exact ex0))
              (refine ret_s [] ?_; simp (decide := true) (disch := omega) only [go_sem, ↓reduceIte, ↓put_at])
          · rw [if_neg h32] at hR
            subst hR
            (repeat (first | refine sp_ ?_ | exact ex0))
            (refine ret_s [] ?_; simp (decide := true) (disch := omega) only [go_sem, ↓reduceIte, ↓put_at])
end Go.Proofs.YtkclmofjlmeolaaGreatDoor
namespace Go.Proofs.YtkclmofjlmeolaaGreatDoor
open Go.RowKit
set_option linter.unusedVariables false
set_option linter.unusedSimpArgs false

end Go.Proofs.YtkclmofjlmeolaaGreatDoor

