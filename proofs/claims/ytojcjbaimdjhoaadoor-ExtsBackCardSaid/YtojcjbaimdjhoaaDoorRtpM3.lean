
/- Packets, back and forth. -/
import Derived.Test.YtojcjbaimdjhoaaDoorRtpM2
namespace Go.Proofs.YtojcjbaimdjhoaaDoor
open Go.RowKit
set_option linter.unusedVariables false
set_option linter.unusedSimpArgs false

theorem mod_of (a m : Nat) (n : Int) (h : (a : Int) = n % m) (h0 : 0 ≤ n ∧ n < m) : (a : Int) = n := by rw [h, Int.emod_eq_of_lt h0.1 h0.2]
theorem get_put (n : Int) (k m : Nat) (hm : 256 ^ k = m) (h : 0 ≤ n ∧ n < m) : (getN (putZ n k) : Int) = n := by
  have := getN_putZ n k
  rw [← pow_cast, hm] at this
  rw [this, Int.emod_eq_of_lt h.1 h.2]
theorem parse_pack (p : P4) (ho : p.Ok) (hm : may4 p = true) : parse4 (body4 p) = (p, 0) := by
  have hf := first4_lt p hm
  have hg := second4_lt p hm
  have hmm := (may4_iff p).1 hm
  have hfe : first4 p = 128 + p.others.length + (if p.hasExt = true then 16 else 0) + (if 0 < p.pad then 32 else 0) := rfl
  have hge : second4 p = p.kind + (if p.marker = true then 128 else 0) := rfl
  obtain ⟨R, hR⟩ : ∃ R, R = puts' 4 p.others ++ (extB p ++ (p.data ++ tailB p.pad)) := ⟨_, rfl⟩
  have hb : body4 p = putZ (first4 p) 1 ++ (putZ (second4 p) 1 ++ (putZ p.seq 2 ++ (putZ p.time 4 ++ (putZ p.src 4 ++ R)))) := by
    rw [hR]
    unfold body4
    simp [puts']
  obtain ⟨s, hs⟩ : ∃ s, s = body4 p := ⟨_, rfl⟩
  rw [← hs]
  rw [hb] at hs
  have q0 : b0 s = (first4 p).toNat := by
    unfold b0
    rw [hs]
    have := byte_back (first4 p) (by omega)
    simpa [putZ] using this
  have q1 : b1 s = (second4 p).toNat := by
    unfold b1
    rw [hs]
    have := byte_back (second4 p) (by omega)
    simpa [putZ] using this
  have d12 : s.drop 12 = R := by rw [hs]; rfl
  have t2 : (s.drop 2).take 2 = putZ p.seq 2 := by rw [hs]; rfl
  have t4 : (s.drop 4).take 4 = putZ p.time 4 := by rw [hs]; rfl
  have t8 : (s.drop 8).take 4 = putZ p.src 4 := by rw [hs]; rfl
  have hsl : s.length = 12 + R.length := by rw [hs]; simp only [List.length_append, putZ_length]; omega
  have hpo := puts'_length 4 p.others
  have hRl : R.length = 4 * p.others.length + ((extB p).length + (p.data.length + (tailB p.pad).length)) := by rw [hR]; simp only [List.length_append, hpo]
  obtain ⟨a, ha⟩ : ∃ a, a = b0 s := ⟨_, rfl⟩
  have e1 : a / 64 = 2 := by rw [ha, q0]; omega
  have e2 : a % 16 = p.others.length := by
    rw [ha, q0, hfe]
    obtain ⟨_, h15, _⟩ := hmm
    split <;> split <;> omega
  have e3 : (a / 16 % 2 = 1) ↔ p.hasExt = true := by
    rw [ha, q0, hfe]
    obtain ⟨_, h15, _⟩ := hmm
    cases p.hasExt <;> simp only [Bool.false_eq_true, if_false, if_true, iff_true, iff_false] <;> split <;> omega
  have e4 : (a / 32 % 2 = 1) ↔ 0 < p.pad := by
    rw [ha, q0, hfe]
    obtain ⟨_, h15, _⟩ := hmm
    by_cases hp : 0 < p.pad
    · simp only [hp, if_true, iff_true]; split <;> omega
    · simp only [hp, if_false, iff_false]; split <;> omega
  have hoth : oth s = 12 + 4 * p.others.length := by unfold oth; rw [← ha, e2]
  have hhx : hasX s = p.hasExt := by
    unfold hasX
    rw [← ha]
    cases h : p.hasExt with
    | true => exact decide_eq_true (e3.2 h)
    | false => exact decide_eq_false fun hh => by rw [e3.1 hh] at h; cases h
  have hdo : s.drop (oth s) = extB p ++ (p.data ++ tailB p.pad) := by
    rw [hoth, ← List.drop_drop, d12, hR, List.drop_left' hpo]
  have hw : wds (b0 s % 16) (s.drop 12) = p.others := by
    rw [← ha, e2, d12, hR]
    exact wds_put p.others ho.others _
  have hmk : decide (128 ≤ b1 s) = p.marker := by
    rw [q1, hge]
    obtain ⟨hk, _⟩ := hmm
    cases p.marker <;> simp only [Bool.false_eq_true, if_false, if_true, decide_eq_true_eq, decide_eq_false_iff_not] <;> omega
  have hkd : ((b1 s % 128 : Nat) : Int) = p.kind := by
    rw [q1, hge]
    obtain ⟨hk, _⟩ := hmm
    split <;> omega
  have hx : (if hasX s = true then s.length ≥ oth s + 4 else True) ∧ atD s ≤ s.length ∧ s.drop (atD s) = p.data ++ tailB p.pad ∧ (if hasX s = true then (getN ((s.drop (oth s)).take 2) : Int) else 0) = p.profile ∧ (if hasX s = true then (s.drop (oth s + 4)).take (xlen s) else []) = p.ext := by
    cases hh : p.hasExt with
    | true =>
      rw [hh] at hhx
      have hex : extB p = putZ p.profile 2 ++ (putZ ((p.ext.length / 4 : Nat) : Int) 2 ++ p.ext) := by unfold extB; rw [if_pos hh]; simp [puts']
      obtain ⟨_, _, hpr, _, hxx⟩ := hmm
      rw [if_pos hh] at hxx
      have hel : (extB p).length = 4 + p.ext.length := by rw [hex]; simp only [List.length_append, putZ_length]; omega
      have g1 : (s.drop (oth s)).take 2 = putZ p.profile 2 := by rw [hdo, hex, List.append_assoc, List.take_left' (putZ_length _ _)]
      have g2 : (s.drop (oth s + 2)).take 2 = putZ ((p.ext.length / 4 : Nat) : Int) 2 := by
        rw [← List.drop_drop, hdo, hex, List.append_assoc, List.drop_left' (putZ_length _ _), List.append_assoc, List.take_left' (putZ_length _ _)]
      have g3 : s.drop (oth s + 4) = p.ext ++ (p.data ++ tailB p.pad) := by
        rw [show oth s + 4 = oth s + (2 + 2) by omega, ← List.drop_drop, hdo, hex, ← List.drop_drop, List.append_assoc, List.drop_left' (putZ_length _ _), List.append_assoc, List.drop_left' (putZ_length _ _)]
      have g4 : xlen s = p.ext.length := by
        have := get_put ((p.ext.length / 4 : Nat) : Int) 2 65536 (by decide) (by omega)
        unfold xlen
        rw [g2]
        omega
      have g5 : atD s = oth s + 4 + p.ext.length := by unfold atD; rw [if_pos hhx, g4]
      refine ⟨by rw [if_pos hhx]; omega, by omega, ?_, ?_, ?_⟩
      · rw [g5, ← List.drop_drop, g3, List.drop_left]
      · rw [if_pos hhx, g1]
        exact get_put p.profile 2 65536 (by decide) (by omega)
      · rw [if_pos hhx, g3, g4, List.take_left]
    | false =>
      rw [hh] at hhx
      have hex : extB p = [] := by unfold extB; rw [hh]; rfl
      obtain ⟨_, _, hpr, _, hxx⟩ := hmm
      rw [hh] at hxx
      simp only [Bool.false_eq_true, if_false] at hxx
      have g5 : atD s = oth s := by unfold atD; rw [hhx]; rfl
      refine ⟨by rw [hhx]; trivial, by omega, ?_, ?_, ?_⟩
      · rw [g5, hdo, hex]; rfl
      · rw [hhx]; exact hxx.1.symm
      · rw [hhx]; exact hxx.2.symm
  obtain ⟨x1, x2, x3, x4, x5⟩ := hx
  have hbase : base4 s = { p with data := p.data ++ tailB p.pad, pad := 0 } := by
    unfold base4
    rw [hmk, hkd, t2, t4, t8, hw, x3, x4, x5, hhx]
    rw [get_put p.seq 2 65536 (by decide) ho.seq, get_put p.time 4 4294967296 (by decide) ho.time, get_put p.src 4 4294967296 (by decide) ho.src]
  unfold parse4
  rw [if_neg (by omega), if_neg (by rw [← ha]; omega), if_neg (by omega), if_neg (fun h => by rw [if_pos h.1] at x1; omega), if_neg (fun h => by omega), x3, hbase]
  rw [← ha]
  obtain ⟨_, _, _, hpad, _⟩ := hmm
  by_cases hp : 0 < p.pad
  · obtain ⟨k1, k2, k3⟩ := tail_ok p.data p.pad ⟨hp, hpad.2⟩
    rw [if_pos (e4.2 hp), if_neg k1, k2, k3]
    congr 1
    cases p
    simp only [P4.mk.injEq, true_and]
    dsimp only at hp
    omega
  · rw [if_neg (fun h => hp (e4.1 h))]
    have : p.pad = 0 := by omega
    rw [this]
    have et : tailB 0 = [] := rfl
    rw [et, List.append_nil]
    congr 1
    cases p
    simp only [P4.mk.injEq, true_and]
    exact this.symm
theorem put_byte (n : Nat) (h : n < 256) : putZ (n : Int) 1 = [UInt8.ofNat n] := by
  simp only [putZ, Int.pow_zero, Int.ediv_one, List.append_nil, List.nil_append, List.cons.injEq, and_true]
  congr 1
  omega
theorem pad_back (d : List UInt8) (h : ¬ padBad d) : d.take (d.length - lastB d) ++ tailB (lastB d) = d ∧ 0 < lastB d ∧ lastB d ≤ 255 := by
  unfold padBad at h
  rw [not_or, not_or, not_or] at h
  obtain ⟨h1, h2, h3, h4⟩ := h
  have hlt : lastB d < 256 := UInt8.toNat_lt _
  have hd : 0 < d.length := List.length_pos_iff.2 h1
  have h4 : (d.drop (d.length - lastB d)).take (lastB d - 1) = List.replicate (lastB d - 1) 0 := Classical.not_not.1 h4
  have hl : d.drop (d.length - 1) = [UInt8.ofNat (lastB d)] := by
    rw [List.drop_eq_getElem_cons (by omega), List.drop_of_length_le (by omega)]
    have : lastB d = d[d.length - 1].toNat := by unfold lastB; rw [List.getD_eq_getElem?_getD, List.getElem?_eq_getElem (by omega)]; rfl
    rw [this]
    simp
  refine ⟨?_, by omega, by omega⟩
  unfold tailB
  rw [if_pos (by omega), put_byte _ hlt, ← hl, show ((lastB d : Int) - 1).toNat = lastB d - 1 by omega, ← h4, bchunk d (d.length - lastB d) (lastB d - 1) (d.length - 1) (by omega), List.take_append_drop]
theorem pack_parse (s : List UInt8) (p : P4) (h : parse4 s = (p, 0)) (hl : s.length ≤ 262140) : body4 p = s ∧ may4 p = true ∧ p.Ok := by
  unfold parse4 at h
  split at h
  · simp only [Prod.mk.injEq] at h; omega
  rename_i c1
  split at h
  · simp only [Prod.mk.injEq] at h; omega
  rename_i c2
  split at h
  · simp only [Prod.mk.injEq] at h; omega
  rename_i c3
  split at h
  · simp only [Prod.mk.injEq] at h; omega
  rename_i c4
  split at h
  · simp only [Prod.mk.injEq] at h; omega
  rename_i c5
  have key : ∀ (d : List UInt8) (n : Nat), d ++ tailB n = s.drop (atD s) → n ≤ 255 → ((0 < n) ↔ b0 s / 32 % 2 = 1) → body4 { base4 s with data := d, pad := n } = s ∧ may4 { base4 s with data := d, pad := n } = true ∧ P4.Ok { base4 s with data := d, pad := n } := by
    intro d n hd hn hn32
    have hb0 : b0 s < 256 := UInt8.toNat_lt _
    have hb1 : b1 s < 256 := UInt8.toNat_lt _
    have g2 := getN_lt ((s.drop 2).take 2)
    have g4 := getN_lt ((s.drop 4).take 4)
    have g8 := getN_lt ((s.drop 8).take 4)
    have go := getN_lt ((s.drop (oth s)).take 2)
    have gx := getN_lt ((s.drop (oth s + 2)).take 2)
    have e2 : ((s.drop 2).take 2).length = 2 := by rw [List.length_take, List.length_drop]; omega
    have e4 : ((s.drop 4).take 4).length = 4 := by rw [List.length_take, List.length_drop]; omega
    have e8 : ((s.drop 8).take 4).length = 4 := by rw [List.length_take, List.length_drop]; omega
    rw [e2, show (256 : Nat) ^ 2 = 65536 by decide] at g2
    rw [e4, show (256 : Nat) ^ 4 = 4294967296 by decide] at g4
    rw [e8, show (256 : Nat) ^ 4 = 4294967296 by decide] at g8
    have ho : P4.Ok { base4 s with data := d, pad := n } := ⟨by unfold base4; dsimp only; omega, by unfold base4; dsimp only; omega, by unfold base4; dsimp only; omega, by unfold base4; dsimp only; exact wds_in _ _⟩
    have hw : puts' 4 (wds (b0 s % 16) (s.drop 12)) = (s.drop 12).take (4 * (b0 s % 16)) := put_wds _ _ (by rw [List.length_drop]; unfold oth at c3; omega)
    have hother : oth s = 12 + 4 * (b0 s % 16) := rfl
    have hH : puts' 1 [first4 { base4 s with data := d, pad := n }, second4 { base4 s with data := d, pad := n }] = s.take 2 := by
      have ef : first4 { base4 s with data := d, pad := n } = (b0 s : Int) := by
        unfold first4 base4 hasX
        dsimp only
        rw [wds_len]
        by_cases h16 : b0 s / 16 % 2 = 1
        · rw [if_pos (decide_eq_true h16)]
          by_cases h32 : b0 s / 32 % 2 = 1
          · rw [if_pos (by have := hn32.2 h32; omega)]; omega
          · rw [if_neg (fun hh => h32 (hn32.1 (by omega)))]; omega
        · rw [if_neg (fun hh => h16 (of_decide_eq_true hh))]
          by_cases h32 : b0 s / 32 % 2 = 1
          · rw [if_pos (by have := hn32.2 h32; omega)]; omega
          · rw [if_neg (fun hh => h32 (hn32.1 (by omega)))]; omega
      have es : second4 { base4 s with data := d, pad := n } = (b1 s : Int) := by
        unfold second4 base4
        dsimp only
        by_cases h1 : 128 ≤ b1 s
        · rw [if_pos (decide_eq_true h1)]; omega
        · rw [if_neg (fun hh => h1 (of_decide_eq_true hh))]; omega
      rw [ef, es]
      have e : puts' 1 [(b0 s : Int), (b1 s : Int)] = [UInt8.ofNat (b0 s), UInt8.ofNat (b1 s)] := by simp [puts', put_byte _ hb0, put_byte _ hb1]
      rw [e]
      match s, c1 with
      | x :: y :: t, _ => simp [b0, b1]
      | [x], c1 => simp at c1
      | [], c1 => simp at c1
    have hX : extB { base4 s with data := d, pad := n } ++ (d ++ tailB n) = s.drop (oth s) := by
      rw [hd]
      unfold extB base4
      dsimp only
      by_cases hx : hasX s = true
      · have c4' : ¬ s.length < oth s + 4 := fun hh => c4 ⟨hx, hh⟩
        have c5' : ¬ s.length < atD s := fun hh => c5 ⟨hx, hh⟩
        have hat : atD s = oth s + 4 + xlen s := by unfold atD; rw [if_pos hx]
        simp only [hx, if_true]
        have ex : ((s.drop (oth s + 4)).take (xlen s)).length = xlen s := by rw [List.length_take, List.length_drop]; omega
        have ex4 : xlen s / 4 = getN ((s.drop (oth s + 2)).take 2) := by unfold xlen; omega
        rw [ex, ex4]
        have p2 : puts' 2 [(getN ((s.drop (oth s)).take 2) : Int), (getN ((s.drop (oth s + 2)).take 2) : Int)] = (s.drop (oth s)).take 2 ++ (s.drop (oth s + 2)).take 2 := by
          simp only [puts', List.flatMap_cons, List.flatMap_nil, List.append_nil]
          rw [putZ_take s (oth s) 2 (by omega), putZ_take s (oth s + 2) 2 (by omega)]
        rw [p2, hat]
        simp only [List.append_assoc]
        rw [bchunk s (oth s + 4) (xlen s) _ rfl, bchunk s (oth s + 2) 2 (oth s + 4) rfl, bchunk s (oth s) 2 (oth s + 2) rfl]
      · have hat : atD s = oth s := by unfold atD; rw [if_neg hx]
        rw [if_neg hx, hat]
        rfl
    refine ⟨?_, ?_, ho⟩
    · unfold body4
      rw [hH]
      have e1 : puts' 2 [({ base4 s with data := d, pad := n } : P4).seq] = (s.drop 2).take 2 := by
        rw [puts1]; unfold base4; dsimp only; exact putZ_take s 2 2 (by omega)
      have e2' : puts' 4 [({ base4 s with data := d, pad := n } : P4).time, ({ base4 s with data := d, pad := n } : P4).src] = (s.drop 4).take 4 ++ (s.drop 8).take 4 := by
        simp only [puts', List.flatMap_cons, List.flatMap_nil, List.append_nil]
        unfold base4
        dsimp only
        rw [putZ_take s 4 4 (by omega), putZ_take s 8 4 (by omega)]
      have e3 : puts' 4 ({ base4 s with data := d, pad := n } : P4).others = (s.drop 12).take (4 * (b0 s % 16)) := hw
      rw [e1, e2', e3]
      simp only [List.append_assoc]
      rw [hX, hother, bchunk s 12 (4 * (b0 s % 16)) _ rfl, bchunk s 8 4 12 rfl, bchunk s 4 4 8 rfl, bchunk s 2 2 4 rfl, List.take_append_drop]
    · rw [may4_iff]
      unfold base4
      dsimp only
      rw [wds_len]
      refine ⟨by omega, by omega, ?_, by omega, ?_⟩
      · by_cases hx : hasX s = true
        · rw [if_pos hx]
          have c4' : ¬ s.length < oth s + 4 := fun hh => c4 ⟨hx, hh⟩
          have : ((s.drop (oth s)).take 2).length = 2 := by rw [List.length_take, List.length_drop]; omega
          rw [this, show (256 : Nat) ^ 2 = 65536 by decide] at go
          omega
        · rw [if_neg hx]; omega
      · by_cases hx : hasX s = true
        · have c5' : ¬ s.length < atD s := fun hh => c5 ⟨hx, hh⟩
          have hat : atD s = oth s + 4 + xlen s := by unfold atD; rw [if_pos hx]
          have ex : ((s.drop (oth s + 4)).take (xlen s)).length = xlen s := by rw [List.length_take, List.length_drop]; omega
          simp only [hx, if_true]
          rw [ex]
          refine ⟨by unfold xlen; omega, by omega⟩
        · rw [if_neg hx, if_neg hx, if_neg hx]
          exact ⟨rfl, rfl⟩
  split at h
  · rename_i c6
    split at h
    · simp only [Prod.mk.injEq] at h; omega
    · rename_i c7
      obtain ⟨k1, k2, k3⟩ := pad_back _ c7
      simp only [Prod.mk.injEq, and_true] at h
      subst h
      exact key _ (lastB (s.drop (atD s))) k1 k3 ⟨fun _ => c6, fun _ => k2⟩
  · rename_i c6
    simp only [Prod.mk.injEq, and_true] at h
    subst h
    have e : base4 s = { base4 s with data := s.drop (atD s), pad := ((0 : Nat) : Int) } := rfl
    rw [e]
    exact key (s.drop (atD s)) 0 (by show s.drop (atD s) ++ [] = _; rw [List.append_nil]) (by omega) ⟨fun hh => by omega, fun hh => absurd hh c6⟩
end Go.Proofs.YtojcjbaimdjhoaaDoor
