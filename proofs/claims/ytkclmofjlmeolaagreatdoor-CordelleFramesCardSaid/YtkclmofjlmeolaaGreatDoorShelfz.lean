/- Packets: the plain law of layer 4. Packets read, and back: the plain law of layer 4. Packets, back and forth. -/
import Derived.Test.YtkclmofjlmeolaaGreatDoorQInz
import Derived.Shelf.Strings.Repeat
import Derived.Shelf.Strings.Trim
import Derived.Test.YtkclmofjlmeolaaGreatDoorProg
namespace Go.Proofs.YtkclmofjlmeolaaGreatDoor
open Go.RowKit
set_option linter.unusedVariables false
set_option linter.unusedSimpArgs false

structure P4 where
  marker : Bool
  kind : Int
  seq : Int
  time : Int
  src : Int
  others : List Int
  hasExt : Bool
  profile : Int
  ext : List UInt8
  data : List UInt8
  pad : Int
  deriving DecidableEq
def may4 (p : P4) : Bool := decide ((0 ≤ p.kind ∧ p.kind ≤ 127) ∧ p.others.length ≤ 15 ∧ (0 ≤ p.profile ∧ p.profile ≤ 65535) ∧ (0 ≤ p.pad ∧ p.pad ≤ 255) ∧ (if p.hasExt = true then p.ext.length % 4 = 0 ∧ p.ext.length ≤ 262140 else p.profile = 0 ∧ p.ext = []))
theorem may4_iff (p : P4) : may4 p = true ↔ ((0 ≤ p.kind ∧ p.kind ≤ 127) ∧ p.others.length ≤ 15 ∧ (0 ≤ p.profile ∧ p.profile ≤ 65535) ∧ (0 ≤ p.pad ∧ p.pad ≤ 255) ∧ (if p.hasExt = true then p.ext.length % 4 = 0 ∧ p.ext.length ≤ 262140 else p.profile = 0 ∧ p.ext = [])) := by unfold may4; rw [decide_eq_true_eq]
def first4 (p : P4) : Int := 128 + p.others.length + (if p.hasExt = true then 16 else 0) + (if 0 < p.pad then 32 else 0)
def second4 (p : P4) : Int := p.kind + (if p.marker = true then 128 else 0)
def extB (p : P4) : List UInt8 := if p.hasExt = true then puts' 2 [p.profile, ((p.ext.length / 4 : Nat) : Int)] ++ p.ext else []
def tailB (n : Int) : List UInt8 := if 0 < n then List.replicate (n - 1).toNat 0 ++ putZ n 1 else []
def body4 (p : P4) : List UInt8 := puts' 1 [first4 p, second4 p] ++ puts' 2 [p.seq] ++ puts' 4 [p.time, p.src] ++ puts' 4 p.others ++ extB p ++ p.data ++ tailB p.pad
def pack4 (p : P4) : List UInt8 := if may4 p = true then body4 p else []
structure P4.Ok (p : P4) : Prop where
  seq : 0 ≤ p.seq ∧ p.seq < 65536
  time : 0 ≤ p.time ∧ p.time < 4294967296
  src : 0 ≤ p.src ∧ p.src < 4294967296
  others : ∀ n ∈ p.others, 0 ≤ n ∧ n < 4294967296
theorem bit_or16 : ∀ n : Nat, n < 16 → bits .or .i64 (128 + (n : Int)) 16 = 128 + n + 16 := by decide +kernel
theorem bit_or32 : ∀ n : Nat, n < 32 → bits .or .i64 (128 + (n : Int)) 32 = 128 + n + 32 := by decide +kernel
theorem bit_or128 : ∀ n : Nat, n < 128 → bits .or .i64 (n : Int) 128 = n + 128 := by decide +kernel
theorem bit_192 : ∀ n : Nat, n < 256 → bits .and .i64 (n : Int) 192 = 64 * (n / 64 : Nat) := by decide +kernel
theorem bit_128 : ∀ n : Nat, n < 256 → bits .and .i64 (n : Int) 128 = 128 * (n / 128 : Nat) := by decide +kernel
theorem bit_16 : ∀ n : Nat, n < 256 → bits .and .i64 (n : Int) 16 = 16 * (n / 16 % 2 : Nat) := by decide +kernel
theorem bit_15 : ∀ n : Nat, n < 256 → bits .and .i64 (n : Int) 15 = (n % 16 : Nat) := by decide +kernel
theorem bit_32 : ∀ n : Nat, n < 256 → bits .and .i64 (n : Int) 32 = 32 * (n / 32 % 2 : Nat) := by decide +kernel
end Go.Proofs.YtkclmofjlmeolaaGreatDoor
namespace Go.Proofs.YtkclmofjlmeolaaGreatDoor
open Go.RowKit
set_option linter.unusedVariables false
set_option linter.unusedSimpArgs false

/-- So many numbers of four bytes. -/
def wds (n : Nat) (l : List UInt8) : List Int := (List.range n).map fun i => (getN ((l.drop (4 * i)).take 4) : Int)
theorem wds_len (n : Nat) (l : List UInt8) : (wds n l).length = n := by simp [wds]
theorem wds_in (n : Nat) (l : List UInt8) : ∀ m ∈ wds n l, 0 ≤ m ∧ m < 4294967296 := by
  intro m hm
  obtain ⟨i, _, rfl⟩ := List.mem_map.1 hm
  have h1 := getN_lt ((l.drop (4 * i)).take 4)
  have h2 : ((l.drop (4 * i)).take 4).length ≤ 4 := by rw [List.length_take]; omega
  have h3 : (256 : Nat) ^ ((l.drop (4 * i)).take 4).length ≤ 256 ^ 4 := Nat.pow_le_pow_right (by decide) h2
  have h4 : (256 : Nat) ^ 4 = 4294967296 := by decide
  omega
theorem wds_succ (n : Nat) (l : List UInt8) : wds (n + 1) l = wds n l ++ [(getN ((l.drop (4 * n)).take 4) : Int)] := by
  unfold wds
  rw [List.range_succ, List.map_append]
  rfl
theorem wds_cons (n : Nat) (l : List UInt8) : wds (n + 1) l = (getN (l.take 4) : Int) :: wds n (l.drop 4) := by
  unfold wds
  rw [List.range_succ_eq_map, List.map_cons, List.map_map]
  simp only [Nat.mul_zero, List.drop_zero]
  congr 1
  apply List.map_congr_left
  intro i _
  simp only [Function.comp, List.drop_drop]
  congr 4
  omega
theorem wds_put (l : List Int) (hl : ∀ n ∈ l, 0 ≤ n ∧ n < 4294967296) (r : List UInt8) : wds l.length (puts' 4 l ++ r) = l := by
  induction l with
  | nil => rfl
  | cons a l ih =>
    have e : puts' 4 (a :: l) ++ r = putZ a 4 ++ (puts' 4 l ++ r) := by simp [puts']
    have ha := hl a (by simp)
    rw [e, List.length_cons, wds_cons, List.take_left' (putZ_length a 4), List.drop_left' (putZ_length a 4), ih (fun n hn => hl n (by simp [hn])), getN_putZ]
    congr 1
    simp only [Int.reducePow]
    omega
theorem put_wds (n : Nat) (l : List UInt8) (h : 4 * n ≤ l.length) : puts' 4 (wds n l) = l.take (4 * n) := by
  induction n with
  | zero => simp [wds, puts']
  | succ n ih =>
    rw [wds_succ, puts'_snoc, ih (by omega), putZ_take l (4 * n) 4 (by omega), show 4 * (n + 1) = 4 * n + 4 by omega, List.take_add]
def no4 : P4 := ⟨false, 0, 0, 0, 0, [], false, 0, [], [], 0⟩
/-- What lies behind the header is padded wrongly. -/
def lastB (d : List UInt8) : Nat := (d.getD (d.length - 1) 0).toNat
def padBad (d : List UInt8) : Prop := d = [] ∨ lastB d = 0 ∨ d.length < lastB d ∨ (d.drop (d.length - lastB d)).take (lastB d - 1) ≠ List.replicate (lastB d - 1) 0
instance decPad (d : List UInt8) : Decidable (padBad d) := by unfold padBad; infer_instance
def b0 (s : List UInt8) : Nat := (s.getD 0 0).toNat
def b1 (s : List UInt8) : Nat := (s.getD 1 0).toNat
def oth (s : List UInt8) : Nat := 12 + 4 * (b0 s % 16)
def hasX (s : List UInt8) : Bool := decide (b0 s / 16 % 2 = 1)
def xlen (s : List UInt8) : Nat := 4 * getN ((s.drop (oth s + 2)).take 2)
def atD (s : List UInt8) : Nat := if hasX s = true then oth s + 4 + xlen s else oth s
def base4 (s : List UInt8) : P4 :=
  ⟨decide (128 ≤ b1 s), (b1 s % 128 : Nat), getN ((s.drop 2).take 2), getN ((s.drop 4).take 4), getN ((s.drop 8).take 4), wds (b0 s % 16) (s.drop 12), hasX s,
    if hasX s = true then getN ((s.drop (oth s)).take 2) else 0, if hasX s = true then (s.drop (oth s + 4)).take (xlen s) else [], s.drop (atD s), 0⟩
def parse4 (s : List UInt8) : P4 × Int :=
  if s.length < 12 then (no4, 2) else if b0 s / 64 ≠ 2 then (no4, 1) else if s.length < oth s then (no4, 2) else if hasX s = true ∧ s.length < oth s + 4 then (no4, 2)
  else if hasX s = true ∧ s.length < atD s then (no4, 2) else if b0 s / 32 % 2 = 1 then
    (if padBad (s.drop (atD s)) then (no4, 1) else ({ base4 s with data := (s.drop (atD s)).take ((s.drop (atD s)).length - lastB (s.drop (atD s))), pad := lastB (s.drop (atD s)) }, 0))
  else (base4 s, 0)
theorem first4_lt (p : P4) (h : may4 p = true) : 128 ≤ first4 p ∧ first4 p < 192 := by
  have := (may4_iff p).1 h
  unfold first4
  split <;> split <;> omega
theorem second4_lt (p : P4) (h : may4 p = true) : 0 ≤ second4 p ∧ second4 p < 256 := by
  have := (may4_iff p).1 h
  unfold second4
  split <;> omega
theorem byte_back (n : Int) (h : 0 ≤ n ∧ n < 256) : (UInt8.ofNat (n % 256).toNat).toNat = n.toNat := by
  rw [toNat_byte, Int.emod_eq_of_lt h.1 h.2]
theorem tail_ok (d : List UInt8) (n : Int) (h : 0 < n ∧ n ≤ 255) : ¬ padBad (d ++ tailB n) ∧ lastB (d ++ tailB n) = n.toNat ∧ (d ++ tailB n).take ((d ++ tailB n).length - n.toNat) = d := by
  obtain ⟨k, rfl⟩ : ∃ k : Nat, n = k + 1 := ⟨(n - 1).toNat, by omega⟩
  have et : tailB ((k : Int) + 1) = List.replicate k 0 ++ [UInt8.ofNat (k + 1)] := by
    unfold tailB
    rw [if_pos (by omega), show (((k : Int) + 1 - 1).toNat) = k by omega]
    congr 1
    simp only [putZ, Int.pow_zero, Int.ediv_one, List.append_nil, List.nil_append, List.cons.injEq, and_true]
    congr 1
    omega
  have el : (d ++ tailB ((k : Int) + 1)).length = d.length + k + 1 := by rw [et]; simp; omega
  have e1 : lastB (d ++ tailB ((k : Int) + 1)) = k + 1 := by
    unfold lastB
    rw [el, et, show d.length + k + 1 - 1 = (d ++ List.replicate k 0).length by simp, ← List.append_assoc]
    simp only [List.getD_eq_getElem?_getD, List.getElem?_append_right (Nat.le_refl _), Nat.sub_self]
    exact UInt8.toNat_ofNat_of_lt' (by show k + 1 < 256; omega)
  have en : ((k : Int) + 1).toNat = k + 1 := by omega
  refine ⟨?_, by rw [e1, en], ?_⟩
  · unfold padBad
    rw [e1, el]
    rintro (h | h | h | h)
    · have := congrArg List.length h; rw [el] at this; simp at this
    · omega
    · omega
    · apply h
      rw [show d.length + k + 1 - (k + 1) = d.length by omega, List.drop_left, et, show k + 1 - 1 = k by omega, List.take_left' (by simp)]
  · rw [el, en, show d.length + k + 1 - (k + 1) = d.length by omega, List.take_left]
end Go.Proofs.YtkclmofjlmeolaaGreatDoor
namespace Go.Proofs.YtkclmofjlmeolaaGreatDoor
open Go.RowKit
set_option linter.unusedVariables false
set_option linter.unusedSimpArgs false

theorem get_put (n : Int) (k m : Nat) (hm : 256 ^ k = m) (h : 0 ≤ n ∧ n < m) : (getN (putZ n k) : Int) = n := by
  have := getN_putZ n k
  rw [← pow_cast, hm] at this
  rw [this, Int.emod_eq_of_lt h.1 h.2]
theorem parse_pack (p : P4) (ho : p.Ok) (hm : may4 p = true) : parse4 (body4 p) = (p, 0) := by
  have hf := first4_lt p hm
  have hg := second4_lt p hm
  have hmm := (may4_iff p).1 hm
  have hfe : first4 p = 128 + p.others.length + (if p.hasExt = true then 16 else 0) + (if 0 < p.pad then 32 else 0) := rfl
  have hge : second4 p = p.kind + (if p.marker = true then 128 else 0) := rfl
  obtain ⟨R, hR⟩ : ∃ R, R = puts' 4 p.others ++ (extB p ++ (p.data ++ tailB p.pad)) := ⟨_, rfl⟩
  have hb : body4 p = putZ (first4 p) 1 ++ (putZ (second4 p) 1 ++ (putZ p.seq 2 ++ (putZ p.time 4 ++ (putZ p.src 4 ++ R)))) := by
    rw [hR]
    unfold body4
    simp [puts']
  obtain ⟨s, hs⟩ : ∃ s, s = body4 p := ⟨_, rfl⟩
  rw [← hs]
  rw [hb] at hs
  have q0 : b0 s = (first4 p).toNat := by
    unfold b0
    rw [hs]
    have := byte_back (first4 p) (by omega)
    simpa [putZ] using this
  have q1 : b1 s = (second4 p).toNat := by
    unfold b1
    rw [hs]
    have := byte_back (second4 p) (by omega)
    simpa [putZ] using this
  have d12 : s.drop 12 = R := by rw [hs]; rfl
  have t2 : (s.drop 2).take 2 = putZ p.seq 2 := by rw [hs]; rfl
  have t4 : (s.drop 4).take 4 = putZ p.time 4 := by rw [hs]; rfl
  have t8 : (s.drop 8).take 4 = putZ p.src 4 := by rw [hs]; rfl
  have hsl : s.length = 12 + R.length := by rw [hs]; simp only [List.length_append, putZ_length]; omega
  have hpo := puts'_length 4 p.others
  have hRl : R.length = 4 * p.others.length + ((extB p).length + (p.data.length + (tailB p.pad).length)) := by rw [hR]; simp only [List.length_append, hpo]
  obtain ⟨a, ha⟩ : ∃ a, a = b0 s := ⟨_, rfl⟩
  have e1 : a / 64 = 2 := by rw [ha, q0]; omega
  have e2 : a % 16 = p.others.length := by
    rw [ha, q0, hfe]
    obtain ⟨_, h15, _⟩ := hmm
    split <;> split <;> omega
  have e3 : (a / 16 % 2 = 1) ↔ p.hasExt = true := by
    rw [ha, q0, hfe]
    obtain ⟨_, h15, _⟩ := hmm
    cases p.hasExt <;> simp only [Bool.false_eq_true, if_false, if_true, iff_true, iff_false] <;> split <;> omega
  have e4 : (a / 32 % 2 = 1) ↔ 0 < p.pad := by
    rw [ha, q0, hfe]
    obtain ⟨_, h15, _⟩ := hmm
    by_cases hp : 0 < p.pad
    · simp only [hp, if_true, iff_true]; split <;> omega
    · simp only [hp, if_false, iff_false]; split <;> omega
  have hoth : oth s = 12 + 4 * p.others.length := by unfold oth; rw [← ha, e2]
  have hhx : hasX s = p.hasExt := by
    unfold hasX
    rw [← ha]
    cases h : p.hasExt with
    | true => exact decide_eq_true (e3.2 h)
    | false => exact decide_eq_false fun hh => by rw [e3.1 hh] at h; cases h
  have hdo : s.drop (oth s) = extB p ++ (p.data ++ tailB p.pad) := by
    rw [hoth, ← List.drop_drop, d12, hR, List.drop_left' hpo]
  have hw : wds (b0 s % 16) (s.drop 12) = p.others := by
    rw [← ha, e2, d12, hR]
    exact wds_put p.others ho.others _
  have hmk : decide (128 ≤ b1 s) = p.marker := by
    rw [q1, hge]
    obtain ⟨hk, _⟩ := hmm
    cases p.marker <;> simp only [Bool.false_eq_true, if_false, if_true, decide_eq_true_eq, decide_eq_false_iff_not] <;> omega
  have hkd : ((b1 s % 128 : Nat) : Int) = p.kind := by
    rw [q1, hge]
    obtain ⟨hk, _⟩ := hmm
    split <;> omega
  have hx : (if hasX s = true then s.length ≥ oth s + 4 else True) ∧ atD s ≤ s.length ∧ s.drop (atD s) = p.data ++ tailB p.pad ∧ (if hasX s = true then (getN ((s.drop (oth s)).take 2) : Int) else 0) = p.profile ∧ (if hasX s = true then (s.drop (oth s + 4)).take (xlen s) else []) = p.ext := by
    cases hh : p.hasExt with
    | true =>
      rw [hh] at hhx
      have hex : extB p = putZ p.profile 2 ++ (putZ ((p.ext.length / 4 : Nat) : Int) 2 ++ p.ext) := by unfold extB; rw [if_pos hh]; simp [puts']
      obtain ⟨_, _, hpr, _, hxx⟩ := hmm
      rw [if_pos hh] at hxx
      have hel : (extB p).length = 4 + p.ext.length := by rw [hex]; simp only [List.length_append, putZ_length]; omega
      have g1 : (s.drop (oth s)).take 2 = putZ p.profile 2 := by rw [hdo, hex, List.append_assoc, List.take_left' (putZ_length _ _)]
      have g2 : (s.drop (oth s + 2)).take 2 = putZ ((p.ext.length / 4 : Nat) : Int) 2 := by
        rw [← List.drop_drop, hdo, hex, List.append_assoc, List.drop_left' (putZ_length _ _), List.append_assoc, List.take_left' (putZ_length _ _)]
      have g3 : s.drop (oth s + 4) = p.ext ++ (p.data ++ tailB p.pad) := by
        rw [show oth s + 4 = oth s + (2 + 2) by omega, ← List.drop_drop, hdo, hex, ← List.drop_drop, List.append_assoc, List.drop_left' (putZ_length _ _), List.append_assoc, List.drop_left' (putZ_length _ _)]
      have g4 : xlen s = p.ext.length := by
        have := get_put ((p.ext.length / 4 : Nat) : Int) 2 65536 (by decide) (by omega)
        unfold xlen
        rw [g2]
        omega
      have g5 : atD s = oth s + 4 + p.ext.length := by unfold atD; rw [if_pos hhx, g4]
      refine ⟨by rw [if_pos hhx]; omega, by omega, ?_, ?_, ?_⟩
      · rw [g5, ← List.drop_drop, g3, List.drop_left]
      · rw [if_pos hhx, g1]
        exact get_put p.profile 2 65536 (by decide) (by omega)
      · rw [if_pos hhx, g3, g4, List.take_left]
    | false =>
      rw [hh] at hhx
      have hex : extB p = [] := by unfold extB; rw [hh]; rfl
      obtain ⟨_, _, hpr, _, hxx⟩ := hmm
      rw [hh] at hxx
      simp only [Bool.false_eq_true, if_false] at hxx
      have g5 : atD s = oth s := by unfold atD; rw [hhx]; rfl
      refine ⟨by rw [hhx]; trivial, by omega, ?_, ?_, ?_⟩
      · rw [g5, hdo, hex]; rfl
      · rw [hhx]; exact hxx.1.symm
      · rw [hhx]; exact hxx.2.symm
  obtain ⟨x1, x2, x3, x4, x5⟩ := hx
  have hbase : base4 s = { p with data := p.data ++ tailB p.pad, pad := 0 } := by
    unfold base4
    rw [hmk, hkd, t2, t4, t8, hw, x3, x4, x5, hhx]
    rw [get_put p.seq 2 65536 (by decide) ho.seq, get_put p.time 4 4294967296 (by decide) ho.time, get_put p.src 4 4294967296 (by decide) ho.src]
  unfold parse4
  rw [if_neg (by omega), if_neg (by rw [← ha]; omega), if_neg (by omega), if_neg (fun h => by rw [if_pos h.1] at x1; omega), if_neg (fun h => by omega), x3, hbase]
  rw [← ha]
  obtain ⟨_, _, _, hpad, _⟩ := hmm
  by_cases hp : 0 < p.pad
  · obtain ⟨k1, k2, k3⟩ := tail_ok p.data p.pad ⟨hp, hpad.2⟩
    rw [if_pos (e4.2 hp), if_neg k1, k2, k3]
    congr 1
    cases p
    simp only [P4.mk.injEq, true_and]
    dsimp only at hp
    omega
  · rw [if_neg (fun h => hp (e4.1 h))]
    have : p.pad = 0 := by omega
    rw [this]
    have et : tailB 0 = [] := rfl
    rw [et, List.append_nil]
    congr 1
    cases p
    simp only [P4.mk.injEq, true_and]
    exact this.symm
theorem put_byte (n : Nat) (h : n < 256) : putZ (n : Int) 1 = [UInt8.ofNat n] := by
  simp only [putZ, Int.pow_zero, Int.ediv_one, List.append_nil, List.nil_append, List.cons.injEq, and_true]
  congr 1
  omega
theorem pad_back (d : List UInt8) (h : ¬ padBad d) : d.take (d.length - lastB d) ++ tailB (lastB d) = d ∧ 0 < lastB d ∧ lastB d ≤ 255 := by
  unfold padBad at h
  rw [not_or, not_or, not_or] at h
  obtain ⟨h1, h2, h3, h4⟩ := h
  have hlt : lastB d < 256 := UInt8.toNat_lt _
  have hd : 0 < d.length := List.length_pos_iff.2 h1
  have h4 : (d.drop (d.length - lastB d)).take (lastB d - 1) = List.replicate (lastB d - 1) 0 := Classical.not_not.1 h4
  have hl : d.drop (d.length - 1) = [UInt8.ofNat (lastB d)] := by
    rw [List.drop_eq_getElem_cons (by omega), List.drop_of_length_le (by omega)]
    have : lastB d = d[d.length - 1].toNat := by unfold lastB; rw [List.getD_eq_getElem?_getD, List.getElem?_eq_getElem (by omega)]; rfl
    rw [this]
    simp
  refine ⟨?_, by omega, by omega⟩
  unfold tailB
  rw [if_pos (by omega), put_byte _ hlt, ← hl, show ((lastB d : Int) - 1).toNat = lastB d - 1 by omega, ← h4, bchunk d (d.length - lastB d) (lastB d - 1) (d.length - 1) (by omega), List.take_append_drop]
theorem pack_parse (s : List UInt8) (p : P4) (h : parse4 s = (p, 0)) (hl : s.length ≤ 262140) : body4 p = s ∧ may4 p = true ∧ p.Ok := by
  unfold parse4 at h
  split at h
  · simp only [Prod.mk.injEq] at h; omega
  rename_i c1
  split at h
  · simp only [Prod.mk.injEq] at h; omega
  rename_i c2
  split at h
  · simp only [Prod.mk.injEq] at h; omega
  rename_i c3
  split at h
  · simp only [Prod.mk.injEq] at h; omega
  rename_i c4
  split at h
  · simp only [Prod.mk.injEq] at h; omega
  rename_i c5
  have key : ∀ (d : List UInt8) (n : Nat), d ++ tailB n = s.drop (atD s) → n ≤ 255 → ((0 < n) ↔ b0 s / 32 % 2 = 1) → body4 { base4 s with data := d, pad := n } = s ∧ may4 { base4 s with data := d, pad := n } = true ∧ P4.Ok { base4 s with data := d, pad := n } := by
    intro d n hd hn hn32
    have hb0 : b0 s < 256 := UInt8.toNat_lt _
    have hb1 : b1 s < 256 := UInt8.toNat_lt _
    have g2 := getN_lt ((s.drop 2).take 2)
    have g4 := getN_lt ((s.drop 4).take 4)
    have g8 := getN_lt ((s.drop 8).take 4)
    have go := getN_lt ((s.drop (oth s)).take 2)
    have gx := getN_lt ((s.drop (oth s + 2)).take 2)
    have e2 : ((s.drop 2).take 2).length = 2 := by rw [List.length_take, List.length_drop]; omega
    have e4 : ((s.drop 4).take 4).length = 4 := by rw [List.length_take, List.length_drop]; omega
    have e8 : ((s.drop 8).take 4).length = 4 := by rw [List.length_take, List.length_drop]; omega
    rw [e2, show (256 : Nat) ^ 2 = 65536 by decide] at g2
    rw [e4, show (256 : Nat) ^ 4 = 4294967296 by decide] at g4
    rw [e8, show (256 : Nat) ^ 4 = 4294967296 by decide] at g8
    have ho : P4.Ok { base4 s with data := d, pad := n } := ⟨by unfold base4; dsimp only; omega, by unfold base4; dsimp only; omega, by unfold base4; dsimp only; omega, by unfold base4; dsimp only; exact wds_in _ _⟩
    have hw : puts' 4 (wds (b0 s % 16) (s.drop 12)) = (s.drop 12).take (4 * (b0 s % 16)) := put_wds _ _ (by rw [List.length_drop]; unfold oth at c3; omega)
    have hother : oth s = 12 + 4 * (b0 s % 16) := rfl
    have hH : puts' 1 [first4 { base4 s with data := d, pad := n }, second4 { base4 s with data := d, pad := n }] = s.take 2 := by
      have ef : first4 { base4 s with data := d, pad := n } = (b0 s : Int) := by
        unfold first4 base4 hasX
        dsimp only
        rw [wds_len]
        by_cases h16 : b0 s / 16 % 2 = 1
        · rw [if_pos (decide_eq_true h16)]
          by_cases h32 : b0 s / 32 % 2 = 1
          · rw [if_pos (by have := hn32.2 h32; omega)]; omega
          · rw [if_neg (fun hh => h32 (hn32.1 (by omega)))]; omega
        · rw [if_neg (fun hh => h16 (of_decide_eq_true hh))]
          by_cases h32 : b0 s / 32 % 2 = 1
          · rw [if_pos (by have := hn32.2 h32; omega)]; omega
          · rw [if_neg (fun hh => h32 (hn32.1 (by omega)))]; omega
      have es : second4 { base4 s with data := d, pad := n } = (b1 s : Int) := by
        unfold second4 base4
        dsimp only
        by_cases h1 : 128 ≤ b1 s
        · rw [if_pos (decide_eq_true h1)]; omega
        · rw [if_neg (fun hh => h1 (of_decide_eq_true hh))]; omega
      rw [ef, es]
      have e : puts' 1 [(b0 s : Int), (b1 s : Int)] = [UInt8.ofNat (b0 s), UInt8.ofNat (b1 s)] := by simp [puts', put_byte _ hb0, put_byte _ hb1]
      rw [e]
      match s, c1 with
      | x :: y :: t, _ => simp [b0, b1]
      | [x], c1 => simp at c1
      | [], c1 => simp at c1
    have hX : extB { base4 s with data := d, pad := n } ++ (d ++ tailB n) = s.drop (oth s) := by
      rw [hd]
      unfold extB base4
      dsimp only
      by_cases hx : hasX s = true
      · have c4' : ¬ s.length < oth s + 4 := fun hh => c4 ⟨hx, hh⟩
        have c5' : ¬ s.length < atD s := fun hh => c5 ⟨hx, hh⟩
        have hat : atD s = oth s + 4 + xlen s := by unfold atD; rw [if_pos hx]
        simp only [hx, if_true]
        have ex : ((s.drop (oth s + 4)).take (xlen s)).length = xlen s := by rw [List.length_take, List.length_drop]; omega
        have ex4 : xlen s / 4 = getN ((s.drop (oth s + 2)).take 2) := by unfold xlen; omega
        rw [ex, ex4]
        have p2 : puts' 2 [(getN ((s.drop (oth s)).take 2) : Int), (getN ((s.drop (oth s + 2)).take 2) : Int)] = (s.drop (oth s)).take 2 ++ (s.drop (oth s + 2)).take 2 := by
          simp only [puts', List.flatMap_cons, List.flatMap_nil, List.append_nil]
          rw [putZ_take s (oth s) 2 (by omega), putZ_take s (oth s + 2) 2 (by omega)]
        rw [p2, hat]
        simp only [List.append_assoc]
        rw [bchunk s (oth s + 4) (xlen s) _ rfl, bchunk s (oth s + 2) 2 (oth s + 4) rfl, bchunk s (oth s) 2 (oth s + 2) rfl]
      · have hat : atD s = oth s := by unfold atD; rw [if_neg hx]
        rw [if_neg hx, hat]
        rfl
    refine ⟨?_, ?_, ho⟩
    · unfold body4
      rw [hH]
      have e1 : puts' 2 [({ base4 s with data := d, pad := n } : P4).seq] = (s.drop 2).take 2 := by
        rw [puts1]; unfold base4; dsimp only; exact putZ_take s 2 2 (by omega)
      have e2' : puts' 4 [({ base4 s with data := d, pad := n } : P4).time, ({ base4 s with data := d, pad := n } : P4).src] = (s.drop 4).take 4 ++ (s.drop 8).take 4 := by
        simp only [puts', List.flatMap_cons, List.flatMap_nil, List.append_nil]
        unfold base4
        dsimp only
        rw [putZ_take s 4 4 (by omega), putZ_take s 8 4 (by omega)]
      have e3 : puts' 4 ({ base4 s with data := d, pad := n } : P4).others = (s.drop 12).take (4 * (b0 s % 16)) := hw
      rw [e1, e2', e3]
      simp only [List.append_assoc]
      rw [hX, hother, bchunk s 12 (4 * (b0 s % 16)) _ rfl, bchunk s 8 4 12 rfl, bchunk s 4 4 8 rfl, bchunk s 2 2 4 rfl, List.take_append_drop]
    · rw [may4_iff]
      unfold base4
      dsimp only
      rw [wds_len]
      refine ⟨by omega, by omega, ?_, by omega, ?_⟩
      · by_cases hx : hasX s = true
        · rw [if_pos hx]
          have c4' : ¬ s.length < oth s + 4 := fun hh => c4 ⟨hx, hh⟩
          have : ((s.drop (oth s)).take 2).length = 2 := by rw [List.length_take, List.length_drop]; omega
          rw [this, show (256 : Nat) ^ 2 = 65536 by decide] at go
          omega
        · rw [if_neg hx]; omega
      · by_cases hx : hasX s = true
        · have c5' : ¬ s.length < atD s := fun hh => c5 ⟨hx, hh⟩
          have hat : atD s = oth s + 4 + xlen s := by unfold atD; rw [if_pos hx]
          have ex : ((s.drop (oth s + 4)).take (xlen s)).length = xlen s := by rw [List.length_take, List.length_drop]; omega
          simp only [hx, if_true]
          rw [ex]
          refine ⟨by unfold xlen; omega, by omega⟩
        · rw [if_neg hx, if_neg hx, if_neg hx]
          exact ⟨rfl, rfl⟩
  split at h
  · rename_i c6
    split at h
    · simp only [Prod.mk.injEq] at h; omega
    · rename_i c7
      obtain ⟨k1, k2, k3⟩ := pad_back _ c7
      simp only [Prod.mk.injEq, and_true] at h
      subst h
      exact key _ (lastB (s.drop (atD s))) k1 k3 ⟨fun _ => c6, fun _ => k2⟩
  · rename_i c6
    simp only [Prod.mk.injEq, and_true] at h
    subst h
    have e : base4 s = { base4 s with data := s.drop (atD s), pad := ((0 : Nat) : Int) } := rfl
    rw [e]
    exact key (s.drop (atD s)) 0 (by show s.drop (atD s) ++ [] = _; rw [List.append_nil]) (by omega) ⟨fun hh => by omega, fun hh => absurd hh c6⟩
end Go.Proofs.YtkclmofjlmeolaaGreatDoor

namespace Go.Proofs
open Go.Shelf
def Tryz.lays160_ren : Go.Shelf.Ren := ⟨fun | 160 => 80 | 232 => 98 | 231 => 97 | 227 => 99 | 234 => 101 | 233 => 100 | 236 => 103 | 235 => 102 | 228 => 109 | 271 => 112 | 151 => 111 | 197 => 110 | 120 => 116 | 152 => 115 | 260 => 114 | 137 => 117 | 119 => 118 | 224 => 119 | 225 => 120 | 217 => 121 | 266 => 122 | n => n, fun | 9 => 9 | 4 => 4 | 3 => 3 | 5 => 5 | 117 => 160 | 116 => 159 | 0 => 0 | 124 => 163 | 21 => 21 | 105 => 170 | 46 => 98 | 119 => 175 | 139 => 178 | 138 => 177 | n => n, fun | 3 => 1 | 4 => 2 | n => n⟩
theorem Tryz.lays160 : Go.Proofs.Lays.n160 Tryz.prog Tryz.lays160_ren := {
  mixed := by kernel_rfl
  f119 := Tryz.func118.trans (congrArg some (by kernel_rfl))
  f120 := Tryz.func116.trans (congrArg some (by kernel_rfl))
  f137 := Tryz.func117.trans (congrArg some (by kernel_rfl))
  f151 := Tryz.func111.trans (congrArg some (by kernel_rfl))
  f152 := Tryz.func115.trans (congrArg some (by kernel_rfl))
  f160 := Tryz.func80.trans (congrArg some (by kernel_rfl))
  f197 := Tryz.func110.trans (congrArg some (by kernel_rfl))
  f217 := Tryz.func121.trans (congrArg some (by kernel_rfl))
  f224 := Tryz.func119.trans (congrArg some (by kernel_rfl))
  f225 := Tryz.func120.trans (congrArg some (by kernel_rfl))
  f227 := Tryz.func99.trans (congrArg some (by kernel_rfl))
  f228 := Tryz.func109.trans (congrArg some (by kernel_rfl))
  f231 := Tryz.func97.trans (congrArg some (by kernel_rfl))
  f232 := Tryz.func98.trans (congrArg some (by kernel_rfl))
  f233 := Tryz.func100.trans (congrArg some (by kernel_rfl))
  f234 := Tryz.func101.trans (congrArg some (by kernel_rfl))
  f235 := Tryz.func102.trans (congrArg some (by kernel_rfl))
  f236 := Tryz.func103.trans (congrArg some (by kernel_rfl))
  f260 := Tryz.func114.trans (congrArg some (by kernel_rfl))
  f266 := Tryz.func122.trans (congrArg some (by kernel_rfl))
  f271 := Tryz.func112.trans (congrArg some (by kernel_rfl))
  t0 := Tryz.underlying0
  a0 := Tryz.isAgg0
  z0 := Tryz.sizeOf0
  v0 := Tryz.zeroValue0
  t3 := Tryz.underlying3
  a3 := Tryz.isAgg3
  z3 := Tryz.sizeOf3
  v3 := Tryz.zeroValue3
  t4 := Tryz.underlying4
  a4 := Tryz.isAgg4
  z4 := Tryz.sizeOf4
  v4 := Tryz.zeroValue4
  t5 := Tryz.underlying5
  a5 := Tryz.isAgg5
  z5 := Tryz.sizeOf5
  v5 := Tryz.zeroValue5
  t9 := Tryz.underlying9
  a9 := Tryz.isAgg9
  z9 := Tryz.sizeOf9
  v9 := Tryz.zeroValue9
  t21 := Tryz.underlying21
  a21 := Tryz.isAgg21
  z21 := Tryz.sizeOf21
  v21 := Tryz.zeroValue21
  t46 := Tryz.underlying98
  a46 := Tryz.isAgg98
  z46 := Tryz.sizeOf98
  v46 := Tryz.zeroValue98
  t105 := Tryz.underlying170
  a105 := Tryz.isAgg170
  z105 := Tryz.sizeOf170
  v105 := Tryz.zeroValue170
  t116 := Tryz.underlying159
  a116 := Tryz.isAgg159
  z116 := Tryz.sizeOf159
  t117 := Tryz.underlying160
  a117 := Tryz.isAgg160
  z117 := Tryz.sizeOf160
  v117 := Tryz.zeroValue160
  t119 := Tryz.underlying175
  a119 := Tryz.isAgg175
  z119 := Tryz.sizeOf175
  t124 := Tryz.underlying163
  a124 := Tryz.isAgg163
  z124 := Tryz.sizeOf163
  v124 := Tryz.zeroValue163
  t138 := Tryz.underlying177
  a138 := Tryz.isAgg177
  z138 := Tryz.sizeOf177
  v138 := Tryz.zeroValue177
  t139 := Tryz.underlying178
  a139 := Tryz.isAgg178
  z139 := Tryz.sizeOf178
  v139 := Tryz.zeroValue178
  g3 := by kernel_rfl
  g4 := by kernel_rfl }
open Go.RowKit in
theorem Tryz.strings_Trim_one (s : ByteArray) (c : UInt8) (hc : c.toNat < 128) (w : World) (hs : s.size ≤ 9223372036854775807) :
    Calls Tryz.prog 80 #[.string s, .string ⟨#[c]⟩] w fun e w' => e = .returned (.string ⟨(Lib.trimB s.data.toList c).toArray⟩) ∧ (w' = w ∨ w' = w.drew) := Any.strings_Trim_one Tryz.lays160 s c hc w hs
def Tryz.lays105_ren : Go.Shelf.Ren := ⟨fun | 105 => 43 | 212 => 74 | 99 => 75 | 165 => 76 | 166 => 66 | 170 => 77 | 169 => 67 | 263 => 93 | 264 => 94 | 206 => 95 | 240 => 87 | 241 => 96 | 276 => 107 | 277 => 108 | n => n, fun | 9 => 9 | 3 => 3 | 4 => 4 | 20 => 20 | 0 => 0 | 46 => 98 | 109 => 137 | 5 => 5 | 72 => 121 | 76 => 124 | 51 => 31 | 146 => 152 | 53 => 154 | 148 => 155 | 70 => 119 | 37 => 60 | 75 => 123 | 127 => 151 | 164 => 166 | 80 => 38 | n => n, fun | n => n⟩
theorem Tryz.lays105 : Go.Proofs.Lays.n105 Tryz.prog Tryz.lays105_ren := {
  mixed := by kernel_rfl
  f99 := Tryz.func75.trans (congrArg some (by kernel_rfl))
  f105 := Tryz.func43.trans (congrArg some (by kernel_rfl))
  f165 := Tryz.func76.trans (congrArg some (by kernel_rfl))
  f166 := Tryz.func66.trans (congrArg some (by kernel_rfl))
  f169 := Tryz.func67.trans (congrArg some (by kernel_rfl))
  f170 := Tryz.func77.trans (congrArg some (by kernel_rfl))
  f206 := Tryz.func95.trans (congrArg some (by kernel_rfl))
  f212 := Tryz.func74.trans (congrArg some (by kernel_rfl))
  f240 := Tryz.func87.trans (congrArg some (by kernel_rfl))
  f241 := Tryz.func96.trans (congrArg some (by kernel_rfl))
  f263 := Tryz.func93.trans (congrArg some (by kernel_rfl))
  f264 := Tryz.func94.trans (congrArg some (by kernel_rfl))
  f276 := Tryz.func107.trans (congrArg some (by kernel_rfl))
  f277 := Tryz.func108.trans (congrArg some (by kernel_rfl))
  t0 := Tryz.underlying0
  a0 := Tryz.isAgg0
  z0 := Tryz.sizeOf0
  v0 := Tryz.zeroValue0
  t3 := Tryz.underlying3
  a3 := Tryz.isAgg3
  z3 := Tryz.sizeOf3
  v3 := Tryz.zeroValue3
  t4 := Tryz.underlying4
  a4 := Tryz.isAgg4
  z4 := Tryz.sizeOf4
  v4 := Tryz.zeroValue4
  t5 := Tryz.underlying5
  a5 := Tryz.isAgg5
  z5 := Tryz.sizeOf5
  v5 := Tryz.zeroValue5
  t9 := Tryz.underlying9
  a9 := Tryz.isAgg9
  z9 := Tryz.sizeOf9
  v9 := Tryz.zeroValue9
  t20 := Tryz.underlying20
  a20 := Tryz.isAgg20
  z20 := Tryz.sizeOf20
  v20 := Tryz.zeroValue20
  t37 := Tryz.underlying60
  a37 := Tryz.isAgg60
  z37 := Tryz.sizeOf60
  v37 := Tryz.zeroValue60
  t46 := Tryz.underlying98
  a46 := Tryz.isAgg98
  z46 := Tryz.sizeOf98
  v46 := Tryz.zeroValue98
  t51 := Tryz.underlying31
  a51 := Tryz.isAgg31
  z51 := Tryz.sizeOf31
  v51 := Tryz.zeroValue31
  t53 := Tryz.underlying154
  a53 := Tryz.isAgg154
  z53 := Tryz.sizeOf154
  v53 := Tryz.zeroValue154
  t70 := Tryz.underlying119
  a70 := Tryz.isAgg119
  z70 := Tryz.sizeOf119
  v70 := Tryz.zeroValue119
  t72 := Tryz.underlying121
  a72 := Tryz.isAgg121
  z72 := Tryz.sizeOf121
  v72 := Tryz.zeroValue121
  t75 := Tryz.underlying123
  a75 := Tryz.isAgg123
  z75 := Tryz.sizeOf123
  v75 := Tryz.zeroValue123
  t76 := Tryz.underlying124
  a76 := Tryz.isAgg124
  z76 := Tryz.sizeOf124
  v76 := Tryz.zeroValue124
  t109 := Tryz.underlying137
  a109 := Tryz.isAgg137
  z109 := Tryz.sizeOf137
  v109 := Tryz.zeroValue137
  t127 := Tryz.underlying151
  a127 := Tryz.isAgg151
  z127 := Tryz.sizeOf151
  v127 := Tryz.zeroValue151
  t146 := Tryz.underlying152
  a146 := Tryz.isAgg152
  z146 := Tryz.sizeOf152
  v146 := Tryz.zeroValue152
  t148 := Tryz.underlying155
  a148 := Tryz.isAgg155
  z148 := Tryz.sizeOf155
  v148 := Tryz.zeroValue155
  t164 := Tryz.underlying166
  a164 := Tryz.isAgg166
  z164 := Tryz.sizeOf166
  v164 := Tryz.zeroValue166 }
theorem Tryz.Builder_Extra_105 : Builder.Extra Tryz.prog Tryz.lays105_ren := {
  sizeBuilder := by kernel_rfl
  liesBuilder := by kernel_rfl
  t5 := Tryz.underlying5
  a5 := Tryz.isAgg5
  z5 := Tryz.sizeOf5
  v5 := Tryz.zeroValue5
  infoByte := by kernel_rfl
  cellsByte := by kernel_rfl
  sizeByte := by kernel_rfl
  neB5 := by decide }
open Go.RowKit Go.Lib in
theorem Tryz.strings_Repeat (s : ByteArray) (c : Nat) (w : World) (hc : c ≤ 9223372036854775807) (hlen : s.size * c ≤ 140737488355328) :
    Calls Tryz.prog 43 #[.string s, .int .i64 c] w fun e w' => e = .returned (.string ⟨(Lib.repeatL s.data.toList c).toArray⟩) ∧ Below w.heap.size w w' := Any.strings_Repeat Tryz.lays105 Tryz.Builder_Extra_105 s c w hc hlen
end Go.Proofs

