
/- Packets read, and back: the plain law of layer 4. -/
import Derived.Test.YtojcjbaimdjhoaaDoorRtpM
namespace Go.Proofs.YtojcjbaimdjhoaaDoor
open Go.RowKit
set_option linter.unusedVariables false
set_option linter.unusedSimpArgs false

/-- So many numbers of four bytes. -/
def wds (n : Nat) (l : List UInt8) : List Int := (List.range n).map fun i => (getN ((l.drop (4 * i)).take 4) : Int)
theorem wds_len (n : Nat) (l : List UInt8) : (wds n l).length = n := by simp [wds]
theorem wds_in (n : Nat) (l : List UInt8) : ∀ m ∈ wds n l, 0 ≤ m ∧ m < 4294967296 := by
  intro m hm
  obtain ⟨i, _, rfl⟩ := List.mem_map.1 hm
  have h1 := getN_lt ((l.drop (4 * i)).take 4)
  have h2 : ((l.drop (4 * i)).take 4).length ≤ 4 := by rw [List.length_take]; omega
  have h3 : (256 : Nat) ^ ((l.drop (4 * i)).take 4).length ≤ 256 ^ 4 := Nat.pow_le_pow_right (by decide) h2
  have h4 : (256 : Nat) ^ 4 = 4294967296 := by decide
  omega
theorem wds_succ (n : Nat) (l : List UInt8) : wds (n + 1) l = wds n l ++ [(getN ((l.drop (4 * n)).take 4) : Int)] := by
  unfold wds
  rw [List.range_succ, List.map_append]
  rfl
theorem wds_cons (n : Nat) (l : List UInt8) : wds (n + 1) l = (getN (l.take 4) : Int) :: wds n (l.drop 4) := by
  unfold wds
  rw [List.range_succ_eq_map, List.map_cons, List.map_map]
  simp only [Nat.mul_zero, List.drop_zero]
  congr 1
  apply List.map_congr_left
  intro i _
  simp only [Function.comp, List.drop_drop]
  congr 4
  omega
theorem wds_put (l : List Int) (hl : ∀ n ∈ l, 0 ≤ n ∧ n < 4294967296) (r : List UInt8) : wds l.length (puts' 4 l ++ r) = l := by
  induction l with
  | nil => rfl
  | cons a l ih =>
    have e : puts' 4 (a :: l) ++ r = putZ a 4 ++ (puts' 4 l ++ r) := by simp [puts']
    have ha := hl a (by simp)
    rw [e, List.length_cons, wds_cons, List.take_left' (putZ_length a 4), List.drop_left' (putZ_length a 4), ih (fun n hn => hl n (by simp [hn])), getN_putZ]
    congr 1
    simp only [Int.reducePow]
    omega
theorem put_wds (n : Nat) (l : List UInt8) (h : 4 * n ≤ l.length) : puts' 4 (wds n l) = l.take (4 * n) := by
  induction n with
  | zero => simp [wds, puts']
  | succ n ih =>
    rw [wds_succ, puts'_snoc, ih (by omega), putZ_take l (4 * n) 4 (by omega), show 4 * (n + 1) = 4 * n + 4 by omega, List.take_add]
def no4 : P4 := ⟨false, 0, 0, 0, 0, [], false, 0, [], [], 0⟩
/-- What lies behind the header is padded wrongly. -/
def lastB (d : List UInt8) : Nat := (d.getD (d.length - 1) 0).toNat
def padBad (d : List UInt8) : Prop := d = [] ∨ lastB d = 0 ∨ d.length < lastB d ∨ (d.drop (d.length - lastB d)).take (lastB d - 1) ≠ List.replicate (lastB d - 1) 0
instance decPad (d : List UInt8) : Decidable (padBad d) := by unfold padBad; infer_instance
def b0 (s : List UInt8) : Nat := (s.getD 0 0).toNat
def b1 (s : List UInt8) : Nat := (s.getD 1 0).toNat
def oth (s : List UInt8) : Nat := 12 + 4 * (b0 s % 16)
def hasX (s : List UInt8) : Bool := decide (b0 s / 16 % 2 = 1)
def xlen (s : List UInt8) : Nat := 4 * getN ((s.drop (oth s + 2)).take 2)
def atD (s : List UInt8) : Nat := if hasX s = true then oth s + 4 + xlen s else oth s
def base4 (s : List UInt8) : P4 :=
  ⟨decide (128 ≤ b1 s), (b1 s % 128 : Nat), getN ((s.drop 2).take 2), getN ((s.drop 4).take 4), getN ((s.drop 8).take 4), wds (b0 s % 16) (s.drop 12), hasX s,
    if hasX s = true then getN ((s.drop (oth s)).take 2) else 0, if hasX s = true then (s.drop (oth s + 4)).take (xlen s) else [], s.drop (atD s), 0⟩
def parse4 (s : List UInt8) : P4 × Int :=
  if s.length < 12 then (no4, 2) else if b0 s / 64 ≠ 2 then (no4, 1) else if s.length < oth s then (no4, 2) else if hasX s = true ∧ s.length < oth s + 4 then (no4, 2)
  else if hasX s = true ∧ s.length < atD s then (no4, 2) else if b0 s / 32 % 2 = 1 then
    (if padBad (s.drop (atD s)) then (no4, 1) else ({ base4 s with data := (s.drop (atD s)).take ((s.drop (atD s)).length - lastB (s.drop (atD s))), pad := lastB (s.drop (atD s)) }, 0))
  else (base4 s, 0)
theorem first4_lt (p : P4) (h : may4 p = true) : 128 ≤ first4 p ∧ first4 p < 192 := by
  have := (may4_iff p).1 h
  unfold first4
  split <;> split <;> omega
theorem second4_lt (p : P4) (h : may4 p = true) : 0 ≤ second4 p ∧ second4 p < 256 := by
  have := (may4_iff p).1 h
  unfold second4
  split <;> omega
theorem byte_back (n : Int) (h : 0 ≤ n ∧ n < 256) : (UInt8.ofNat (n % 256).toNat).toNat = n.toNat := by
  rw [toNat_byte, Int.emod_eq_of_lt h.1 h.2]
theorem tail_ok (d : List UInt8) (n : Int) (h : 0 < n ∧ n ≤ 255) : ¬ padBad (d ++ tailB n) ∧ lastB (d ++ tailB n) = n.toNat ∧ (d ++ tailB n).take ((d ++ tailB n).length - n.toNat) = d := by
  obtain ⟨k, rfl⟩ : ∃ k : Nat, n = k + 1 := ⟨(n - 1).toNat, by omega⟩
  have et : tailB ((k : Int) + 1) = List.replicate k 0 ++ [UInt8.ofNat (k + 1)] := by
    unfold tailB
    rw [if_pos (by omega), show (((k : Int) + 1 - 1).toNat) = k by omega]
    congr 1
    simp only [putZ, Int.pow_zero, Int.ediv_one, List.append_nil, List.nil_append, List.cons.injEq, and_true]
    congr 1
    omega
  have el : (d ++ tailB ((k : Int) + 1)).length = d.length + k + 1 := by rw [et]; simp; omega
  have e1 : lastB (d ++ tailB ((k : Int) + 1)) = k + 1 := by
    unfold lastB
    rw [el, et, show d.length + k + 1 - 1 = (d ++ List.replicate k 0).length by simp, ← List.append_assoc]
    simp only [List.getD_eq_getElem?_getD, List.getElem?_append_right (Nat.le_refl _), Nat.sub_self]
    exact UInt8.toNat_ofNat_of_lt' (by show k + 1 < 256; omega)
  have en : ((k : Int) + 1).toNat = k + 1 := by omega
  refine ⟨?_, by rw [e1, en], ?_⟩
  · unfold padBad
    rw [e1, el]
    rintro (h | h | h | h)
    · have := congrArg List.length h; rw [el] at this; simp at this
    · omega
    · omega
    · apply h
      rw [show d.length + k + 1 - (k + 1) = d.length by omega, List.drop_left, et, show k + 1 - 1 = k by omega, List.take_left' (by simp)]
  · rw [el, en, show d.length + k + 1 - (k + 1) = d.length by omega, List.take_left]
end Go.Proofs.YtojcjbaimdjhoaaDoor
