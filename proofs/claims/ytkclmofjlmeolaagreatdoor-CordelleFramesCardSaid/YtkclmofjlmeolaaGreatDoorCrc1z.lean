/- Remainders of bits, bursts, sums laid in a text: plain mathematics. -/
import Derived.Below
import Derived.WalkKit
import Derived.Test.YtkclmofjlmeolaaGreatDoorQInz
import Derived.Test.YtkclmofjlmeolaaGreatDoorKitz
import Derived.Test.YtkclmofjlmeolaaGreatDoorRLz
namespace Go.Proofs.YtkclmofjlmeolaaGreatDoor
set_option linter.unusedVariables false
set_option linter.unusedSimpArgs false

def poly : Nat := 79764919
def up (r : Nat) : Nat := ((r <<< 1) % 2 ^ 32) ^^^ (if r.testBit 31 = true then poly else 0)
def stepC (r : Nat) (b : Bool) : Nat := up r ^^^ b.toNat
def remB (l : List Bool) : Nat := l.foldl stepC 0
theorem xor_lc (a b c : Nat) : a ^^^ (b ^^^ c) = b ^^^ (a ^^^ c) := by rw [← Nat.xor_assoc, Nat.xor_comm a b, Nat.xor_assoc]
theorem xor_cancel (a b : Nat) : a ^^^ (b ^^^ a) = b := by rw [Nat.xor_comm b a, ← Nat.xor_assoc, Nat.xor_self, Nat.zero_xor]
theorem xor_cancel' (a b : Nat) : a ^^^ (a ^^^ b) = b := by rw [← Nat.xor_assoc, Nat.xor_self, Nat.zero_xor]
theorem up_zero : up 0 = 0 := by decide
theorem up_xor (a b : Nat) : up (a ^^^ b) = up a ^^^ up b := by
  unfold up
  rw [Nat.shiftLeft_xor_distrib, Nat.xor_mod_two_pow, Nat.testBit_xor]
  generalize (a <<< 1) % 2 ^ 32 = A
  generalize (b <<< 1) % 2 ^ 32 = B
  cases a.testBit 31 <;> cases b.testBit 31 <;> simp [Nat.xor_assoc, xor_lc, Nat.xor_comm, xor_cancel, xor_cancel']
theorem stepC_xor (r s : Nat) (x y : Bool) : stepC (r ^^^ s) (x ^^ y) = stepC r x ^^^ stepC s y := by
  unfold stepC
  rw [up_xor]
  have : (x ^^ y).toNat = x.toNat ^^^ y.toNat := by cases x <;> cases y <;> rfl
  rw [this]
  simp only [Nat.xor_assoc]
  rw [xor_lc (up s)]
theorem fold_xor : ∀ (a b : List Bool) (r s : Nat), a.length = b.length → (List.zipWith Bool.xor a b).foldl stepC (r ^^^ s) = a.foldl stepC r ^^^ b.foldl stepC s
  | [], [], r, s, _ => rfl
  | x :: a, y :: b, r, s, h => by
    rw [List.zipWith_cons_cons, List.foldl_cons, List.foldl_cons, List.foldl_cons, stepC_xor]
    exact fold_xor a b _ _ (by simpa using h)
theorem rem_xor (a b : List Bool) (h : a.length = b.length) : remB (List.zipWith Bool.xor a b) = remB a ^^^ remB b := fold_xor a b 0 0 h
theorem up_lt (r : Nat) : up r < 4294967296 := by
  unfold up
  have h1 : (r <<< 1) % 2 ^ 32 < 2 ^ 32 := Nat.mod_lt _ (by decide)
  have h2 : (if r.testBit 31 = true then poly else 0) < 2 ^ 32 := by split <;> decide
  exact Nat.xor_lt_two_pow h1 h2
theorem stepC_lt (r : Nat) (b : Bool) : stepC r b < 4294967296 := by
  unfold stepC
  have h1 : up r < 2 ^ 32 := up_lt r
  have h2 : b.toNat < 2 ^ 32 := by cases b <;> decide
  exact Nat.xor_lt_two_pow h1 h2
theorem fold_lt : ∀ (l : List Bool) (r : Nat), r < 4294967296 → l.foldl stepC r < 4294967296
  | [], r, h => h
  | b :: l, r, h => by rw [List.foldl_cons]; exact fold_lt l _ (stepC_lt r b)
theorem rem_lt (l : List Bool) : remB l < 4294967296 := fold_lt l 0 (by decide)
theorem bit31 (r : Nat) (h : r < 4294967296) : r.testBit 31 = decide (2147483648 ≤ r) := by
  rw [Nat.testBit_eq_decide_div_mod_eq]
  congr 1
  apply propext
  have : 2 ^ 31 = 2147483648 := by decide
  rw [this]
  omega
theorem up_small (r : Nat) (h : r < 2147483648) : up r = 2 * r := by
  unfold up
  rw [bit31 r (by omega), if_neg (by simp; omega), Nat.xor_zero, Nat.shiftLeft_eq]
  omega
def upN : Nat → Nat → Nat
  | 0, r => r
  | n + 1, r => upN n (up r)
theorem stepC_false (r : Nat) : stepC r false = up r := Nat.xor_zero _
theorem fold_zeros : ∀ (n r : Nat), (List.replicate n false).foldl stepC r = upN n r
  | 0, r => rfl
  | n + 1, r => by
    rw [List.replicate_succ, List.foldl_cons, fold_zeros n, stepC_false]
    rfl
theorem upN_zero : ∀ n, upN n 0 = 0
  | 0 => rfl
  | n + 1 => by unfold upN; rw [up_zero]; exact upN_zero n
theorem xor_bit (a : Nat) (b : Bool) : (2 * a) ^^^ b.toNat = 2 * a + b.toNat := by
  cases b with
  | false => simp
  | true =>
    apply Nat.eq_of_testBit_eq
    intro i
    rw [Nat.testBit_xor]
    cases i with
    | zero => simp [Nat.testBit_zero]
    | succ i =>
      rw [Nat.testBit_succ, Nat.testBit_succ, Nat.testBit_succ]
      have h1 : 2 * a / 2 = a := by omega
      have h2 : (2 * a + true.toNat) / 2 = a := by simp; omega
      have h3 : true.toNat / 2 = 0 := by decide
      rw [h1, h2, h3]; simp
/-- So many bits go into the remainder as they are. -/
theorem short : ∀ (l : List Bool) (k r : Nat), r < 2 ^ k → k + l.length ≤ 32 → l.foldl stepC r = l.foldl (fun n b => 2 * n + b.toNat) r
  | [], k, r, _, _ => rfl
  | b :: l, k, r, hr, hk => by
    rw [List.length_cons] at hk
    have h1 : 2 ^ k ≤ 2 ^ 31 := Nat.pow_le_pow_right (by decide) (by omega)
    have h2 : (2 : Nat) ^ 31 = 2147483648 := by decide
    have h3 : stepC r b = 2 * r + b.toNat := by
      unfold stepC
      rw [up_small r (by omega), xor_bit]
    rw [List.foldl_cons, List.foldl_cons, h3]
    refine short l (k + 1) _ ?_ (by omega)
    have : b.toNat ≤ 1 := by cases b <;> decide
    rw [Nat.pow_succ]
    omega
/-! ### Bytes -/
def bits8 (b : UInt8) : List Bool := [b.toNat.testBit 7, b.toNat.testBit 6, b.toNat.testBit 5, b.toNat.testBit 4, b.toNat.testBit 3, b.toNat.testBit 2, b.toNat.testBit 1, b.toNat.testBit 0]
def bitsL (l : List UInt8) : List Bool := l.flatMap bits8
def rem (l : List UInt8) : Nat := remB (bitsL l)
theorem bitsL_len (l : List UInt8) : (bitsL l).length = 8 * l.length := by
  induction l with
  | nil => rfl
  | cons b l ih =>
    unfold bitsL at ih ⊢
    rw [List.flatMap_cons, List.length_append, ih]
    simp [bits8]; omega
theorem bitsL_app (a b : List UInt8) : bitsL (a ++ b) = bitsL a ++ bitsL b := by unfold bitsL; simp
/-! ### Downwards -/
def down (r : Nat) : Nat := if r % 2 = 1 then (r ^^^ poly) / 2 + 2147483648 else r / 2
theorem up_high (x : Nat) (h : x < 2147483648) : up (x + 2147483648) = (2 * x) ^^^ poly := by
  have h1 : (x + 2147483648).testBit 31 = true := by
    rw [bit31 _ (by omega)]
    exact decide_eq_true (by omega)
  have h2 : ((x + 2147483648) <<< 1) % 2 ^ 32 = 2 * x := by
    rw [Nat.shiftLeft_eq]
    omega
  unfold up
  rw [h2, if_pos h1]
theorem xor_odd (r : Nat) (h : r % 2 = 1) : (r ^^^ poly) % 2 = 0 := by
  have h1 : (r ^^^ poly).testBit 0 = false := by
    rw [Nat.testBit_xor, Nat.testBit_zero, Nat.testBit_zero, h]
    rfl
  rw [Nat.testBit_zero] at h1
  have := of_decide_eq_false h1
  omega
theorem up_down (r : Nat) (h : r < 4294967296) : up (down r) = r := by
  unfold down
  by_cases h1 : r % 2 = 1
  · rw [if_pos h1]
    have h2 : (r ^^^ poly) < 2 ^ 32 := Nat.xor_lt_two_pow (by omega) (by decide)
    have h3 := xor_odd r h1
    rw [up_high _ (by omega), show 2 * ((r ^^^ poly) / 2) = r ^^^ poly by omega, Nat.xor_assoc, Nat.xor_self, Nat.xor_zero]
  · rw [if_neg h1, up_small _ (by omega)]
    omega
theorem down_lt (r : Nat) (h : r < 4294967296) : down r < 4294967296 := by
  unfold down
  have h2 : (r ^^^ poly) < 2 ^ 32 := Nat.xor_lt_two_pow (by omega) (by decide)
  split <;> omega
def downN : Nat → Nat → Nat
  | 0, r => r
  | n + 1, r => down (downN n r)
theorem downN_lt : ∀ (n r : Nat), r < 4294967296 → downN n r < 4294967296
  | 0, r, h => h
  | n + 1, r, h => down_lt _ (downN_lt n r h)
theorem upN_downN : ∀ (n r : Nat), r < 4294967296 → upN n (downN n r) = r
  | 0, r, _ => rfl
  | n + 1, r, h => by
    unfold upN downN
    rw [up_down _ (downN_lt n r h)]
    exact upN_downN n r h
end Go.Proofs.YtkclmofjlmeolaaGreatDoor

namespace Go.Proofs.YtkclmofjlmeolaaGreatDoor
set_option linter.unusedVariables false
set_option linter.unusedSimpArgs false

theorem val8 (n : Nat) (b : UInt8) : (bits8 b).foldl (fun n b => 2 * n + b.toNat) n = 256 * n + b.toNat := by
  have hb := b.toNat_lt
  simp only [bits8, List.foldl_cons, List.foldl_nil, Nat.toNat_testBit]
  omega
theorem valL : ∀ (l : List UInt8) (n : Nat), (bitsL l).foldl (fun n b => 2 * n + b.toNat) n = l.foldl (fun n b => 256 * n + b.toNat) n
  | [], n => rfl
  | b :: l, n => by
    have e : bitsL (b :: l) = bits8 b ++ bitsL l := rfl
    rw [e, List.foldl_append, val8, List.foldl_cons]
    exact valL l _
theorem rem_field (l : List UInt8) (h : l.length = 4) : remB (bitsL l) = getN l := by
  unfold remB
  rw [short _ 0 0 (by decide) (by rw [bitsL_len]; omega), valL]
  rfl
theorem zip_zeros : ∀ (l : List Bool), List.zipWith Bool.xor l (List.replicate l.length false) = l
  | [] => rfl
  | b :: l => by
    rw [List.length_cons, List.replicate_succ, List.zipWith_cons_cons, zip_zeros l, Bool.xor_false]
theorem zeros_zip : ∀ (l : List Bool), List.zipWith Bool.xor (List.replicate l.length false) l = l
  | [] => rfl
  | b :: l => by
    rw [List.length_cons, List.replicate_succ, List.zipWith_cons_cons, zeros_zip l, Bool.false_xor]
def fieldB (h t : List UInt8) : List UInt8 := putZ (downN (8 * t.length) (rem (h ++ [0, 0, 0, 0] ++ t)) : Nat) 4
def sealB (h t : List UInt8) : List UInt8 := h ++ fieldB h t ++ t
theorem fieldB_len (h t : List UInt8) : (fieldB h t).length = 4 := putZ_length _ 4
theorem sealB_rem (h t : List UInt8) : rem (sealB h t) = 0 := by
  obtain ⟨R, hR⟩ : ∃ R, R = rem (h ++ [0, 0, 0, 0] ++ t) := ⟨_, rfl⟩
  have hRl : R < 4294967296 := by rw [hR]; exact rem_lt _
  obtain ⟨r, hr⟩ : ∃ r, r = downN (8 * t.length) R := ⟨_, rfl⟩
  have hrl : r < 4294967296 := by rw [hr]; exact downN_lt _ _ hRl
  have hup : upN (8 * t.length) r = R := by rw [hr]; exact upN_downN _ _ hRl
  have hf : fieldB h t = putZ (r : Nat) 4 := by unfold fieldB; rw [← hR, ← hr]
  have hfl := fieldB_len h t
  have hfr : remB (bitsL (fieldB h t)) = r := by
    rw [rem_field _ hfl, hf]
    have := getN_putZ (r : Int) 4
    have e : (r : Int) % 256 ^ 4 = r := Int.emod_eq_of_lt (by omega) (by
      have : (256 : Int) ^ 4 = 4294967296 := by decide
      omega)
    rw [e] at this
    exact Int.ofNat.inj this
  have hz4 : bitsL [0, 0, 0, 0] = List.replicate 32 false := by decide
  have hl4 : (bitsL (fieldB h t)).length = 32 := by rw [bitsL_len, hfl]
  have hx := rem_xor (bitsL h ++ bitsL [0, 0, 0, 0] ++ bitsL t) (List.replicate (bitsL h).length false ++ bitsL (fieldB h t) ++ List.replicate (bitsL t).length false) (by
    simp only [List.length_append, List.length_replicate, hl4, hz4])
  rw [List.zipWith_append (by simp only [List.length_append, List.length_replicate, hl4, hz4]), List.zipWith_append (by simp), zip_zeros, zip_zeros, hz4] at hx
  have e1 : List.zipWith Bool.xor (List.replicate 32 false) (bitsL (fieldB h t)) = bitsL (fieldB h t) := by
    have := zeros_zip (bitsL (fieldB h t))
    rwa [hl4] at this
  rw [e1] at hx
  have e2 : remB (List.replicate (bitsL h).length false ++ bitsL (fieldB h t) ++ List.replicate (bitsL t).length false) = R := by
    unfold remB
    rw [List.foldl_append, List.foldl_append, fold_zeros, fold_zeros, upN_zero, bitsL_len t]
    show upN (8 * t.length) (remB (bitsL (fieldB h t))) = R
    rw [hfr, hup]
  have e3 : remB (bitsL h ++ List.replicate 32 false ++ bitsL t) = R := by
    rw [hR]
    unfold rem
    rw [bitsL_app, bitsL_app, hz4]
  rw [e2, e3, Nat.xor_self] at hx
  unfold rem sealB
  rw [bitsL_app, bitsL_app]
  exact hx

/-! ### Numbers of 32 bits -/
theorem ofInt_nat (a : Nat) (h : a < 4294967296) : (BitVec.ofInt 32 (a : Int)).toNat = a := by
  rw [BitVec.toNat_ofInt]
  omega
theorem u32_xor (a b : Nat) (ha : a < 4294967296) (hb : b < 4294967296) : bits .xor .u32 (a : Int) (b : Int) = ((a ^^^ b : Nat) : Int) := by
  have h : a ^^^ b < 2 ^ 32 := Nat.xor_lt_two_pow ha hb
  show IntKind.u32.wrap ((BitVec.ofInt 32 (a : Int) ^^^ BitVec.ofInt 32 (b : Int)).toNat : Int) = _
  rw [BitVec.toNat_xor, ofInt_nat a ha, ofInt_nat b hb]
  exact u32_wraps _ (by omega) (by omega)
theorem u32_and (a b : Nat) (ha : a < 4294967296) (hb : b < 4294967296) : bits .and .u32 (a : Int) (b : Int) = ((a &&& b : Nat) : Int) := by
  have h : a &&& b ≤ a := Nat.and_le_left
  show IntKind.u32.wrap ((BitVec.ofInt 32 (a : Int) &&& BitVec.ofInt 32 (b : Int)).toNat : Int) = _
  rw [BitVec.toNat_and, ofInt_nat a ha, ofInt_nat b hb]
  exact u32_wraps _ (by omega) (by omega)
theorem top_bit (r : Nat) (h : r < 4294967296) : (bits .and .u32 (r : Int) 2147483648 != 0) = r.testBit 31 := by
  rw [show (2147483648 : Int) = ((2147483648 : Nat) : Int) from rfl, u32_and r 2147483648 h (by decide), bit31 r h]
  have e : r &&& 2147483648 = if 2147483648 ≤ r then 2147483648 else 0 := by
    apply Nat.eq_of_testBit_eq
    intro i
    have hp : (2147483648 : Nat) = 2 ^ 31 := by decide
    rw [Nat.testBit_and]
    have h2 : (2147483648 : Nat).testBit i = decide (i = 31) := by rw [hp, Nat.testBit_two_pow]; exact decide_eq_decide.2 ⟨fun h => h.symm, fun h => h.symm⟩
    rw [h2]
    by_cases hi : i = 31
    · subst hi
      rw [bit31 r h]
      by_cases hr : 2147483648 ≤ r
      · rw [if_pos hr, h2, decide_eq_true hr]; rfl
      · rw [if_neg hr, decide_eq_false hr]; simp
    · rw [decide_eq_false hi, Bool.and_false]
      split
      · rw [h2, decide_eq_false hi]
      · simp
  rw [e]
  by_cases hr : 2147483648 ≤ r
  · rw [if_pos hr, decide_eq_true hr]; rfl
  · rw [if_neg hr, decide_eq_false hr]; rfl
theorem low_bit (r : Nat) (h : r < 4294967296) : (bits .and .u32 (r : Int) 1 != 0) = decide (r % 2 = 1) := by
  rw [show (1 : Int) = ((1 : Nat) : Int) from rfl, u32_and r 1 h (by decide), Nat.and_one_is_mod]
  by_cases hr : r % 2 = 1
  · rw [decide_eq_true hr, hr]; rfl
  · rw [decide_eq_false hr, show r % 2 = 0 by omega]; rfl
theorem up_t (r : Nat) (h : r < 4294967296) (hb : r.testBit 31 = true) : bits .xor .u32 (IntKind.u32.wrap ((r : Int) * 2)) 79764919 = ((up r : Nat) : Int) := by
  have e : IntKind.u32.wrap ((r : Int) * 2) = (((r <<< 1) % 2 ^ 32 : Nat) : Int) := by
    rw [IntKind.wrap_u32, Nat.shiftLeft_eq]; omega
  rw [e, show (79764919 : Int) = ((79764919 : Nat) : Int) from rfl, u32_xor _ _ (Nat.mod_lt _ (by decide)) (by decide)]
  unfold up
  rw [if_pos hb]
  rfl
theorem up_f (r : Nat) (h : r < 4294967296) (hb : r.testBit 31 = false) : (r : Int) * 2 = ((up r : Nat) : Int) := by
  rw [bit31 r h] at hb
  have := of_decide_eq_false hb
  rw [up_small r (by omega)]
  omega
theorem down_t (r : Nat) (h : r < 4294967296) (hb : r % 2 = 1) : bits .or .u32 (bits .xor .u32 (r : Int) 79764919 / 2) 2147483648 = ((down r : Nat) : Int) := by
  have h2 : (r ^^^ poly) < 2 ^ 32 := Nat.xor_lt_two_pow (by omega) (by decide)
  rw [show (79764919 : Int) = ((poly : Nat) : Int) from rfl, u32_xor r poly h (by decide)]
  unfold down
  rw [if_pos hb]
  generalize r ^^^ poly = x at *
  have e : bits .or .u32 (2147483648 : Int) (((x : Int)) / 2) = 2147483648 + (x : Int) / 2 := u32_join 31 _ _ (by omega) (by decide) (by omega) (by omega) (by omega) (by omega)
  have ec : bits .or .u32 ((x : Int) / 2) 2147483648 = bits .or .u32 2147483648 ((x : Int) / 2) := by
    show IntKind.u32.wrap ((BitVec.ofInt 32 ((x : Int) / 2) ||| BitVec.ofInt 32 2147483648).toNat : Int) = IntKind.u32.wrap ((BitVec.ofInt 32 2147483648 ||| BitVec.ofInt 32 ((x : Int) / 2)).toNat : Int)
    rw [BitVec.or_comm]
  rw [ec, e]
  omega
theorem down_f (r : Nat) (hb : ¬ r % 2 = 1) : (r : Int) / 2 = ((down r : Nat) : Int) := by
  unfold down
  rw [if_neg hb]
  omega
end Go.Proofs.YtkclmofjlmeolaaGreatDoor

namespace Go.Proofs.YtkclmofjlmeolaaGreatDoor
open Go.RowKit
set_option linter.unusedVariables false
set_option linter.unusedSimpArgs false

set_option maxRecDepth 100000 in
set_option maxHeartbeats 8000000 in
theorem crc_up (r : Nat) (h : r < 4294967296) : Spec Tryz.prog 92 [.ca (.val (vu r))] [] (.ca (.val (vu (up r)))) [] := by
  have hb := top_bit r h
  cases ht : r.testBit 31 with
  | true =>
    rw [ht] at hb
    have hb2 : (bits .and .u32 (r : Int) 2147483648 == 0) = false := by simpa [bne] using hb
    have e := up_t r h ht
    refine spec_of Tryz.func92 rfl Tryz.ntmps92 Tryz.results92 ⟨by decide, by simp⟩ fun C hC => ?_
    (repeat (first | refine sp_ ?_ | exact ex0))
    simp only [hb, hb2]
    (repeat (first | refine sp_ ?_ | exact ex0))
    (refine ret_s [] ?_; simp (decide := true) (disch := omega) only [go_sem, ↓reduceIte, ↓put_at])
    exact e
  | false =>
    rw [ht] at hb
    have hb2 : (bits .and .u32 (r : Int) 2147483648 == 0) = true := by simpa [bne] using hb
    have e := up_f r h ht
    have hl := up_lt r
    refine spec_of Tryz.func92 rfl Tryz.ntmps92 Tryz.results92 ⟨by decide, by simp⟩ fun C hC => ?_
    (repeat (first | refine sp_ ?_ | exact ex0))
    simp only [hb, hb2]
    (repeat (first | refine sp_ ?_ | exact ex0))
    (refine ret_s [] ?_; simp (decide := true) (disch := omega) only [go_sem, ↓reduceIte, ↓put_at])
    exact e
set_option maxRecDepth 100000 in
set_option maxHeartbeats 8000000 in
theorem crc_down (r : Nat) (h : r < 4294967296) : Spec Tryz.prog 40 [.ca (.val (vu r))] [] (.ca (.val (vu (down r)))) [] := by
  have hb := low_bit r h
  by_cases ht : r % 2 = 1
  · rw [decide_eq_true ht] at hb
    have hb2 : (bits .and .u32 (r : Int) 1 == 0) = false := by simpa [bne] using hb
    have e := down_t r h ht
    refine spec_of Tryz.func40 rfl Tryz.ntmps40 Tryz.results40 ⟨by decide, by simp⟩ fun C hC => ?_
    (repeat (first | refine sp_ ?_ | exact ex0))
    simp only [hb, hb2]
    (repeat (first | refine sp_ ?_ | exact ex0))
    (refine ret_s [] ?_; simp (decide := true) (disch := omega) only [go_sem, ↓reduceIte, ↓put_at])
    exact e
  · rw [decide_eq_false ht] at hb
    have hb2 : (bits .and .u32 (r : Int) 1 == 0) = true := by simpa [bne] using hb
    have e := down_f r ht
    refine spec_of Tryz.func40 rfl Tryz.ntmps40 Tryz.results40 ⟨by decide, by simp⟩ fun C hC => ?_
    (repeat (first | refine sp_ ?_ | exact ex0))
    simp only [hb, hb2]
    (repeat (first | refine sp_ ?_ | exact ex0))
    (refine ret_s [] ?_; simp (decide := true) (disch := omega) only [go_sem, ↓reduceIte, ↓put_at])
    exact e
def Bv (b : UInt8) (j : Nat) : Nat := b.toNat * 2 ^ j % 256
theorem Bv_succ (b : UInt8) (j : Nat) : Bv b (j + 1) = Bv b j * 2 % 256 := by
  unfold Bv
  rw [Nat.pow_succ, ← Nat.mul_assoc]
  omega
theorem Bv_bit (b : UInt8) (j : Nat) (h : j < 8) : Bv b j / 128 = (b.toNat.testBit (7 - j)).toNat := by
  have hb := b.toNat_lt
  rw [Nat.toNat_testBit]
  unfold Bv
  have : j = 0 ∨ j = 1 ∨ j = 2 ∨ j = 3 ∨ j = 4 ∨ j = 5 ∨ j = 6 ∨ j = 7 := by omega
  rcases this with rfl | rfl | rfl | rfl | rfl | rfl | rfl | rfl <;> omega
theorem bits8_take (b : UInt8) (j : Nat) (h : j < 8) : (bits8 b).take (j + 1) = (bits8 b).take j ++ [b.toNat.testBit (7 - j)] := by
  have : j = 0 ∨ j = 1 ∨ j = 2 ∨ j = 3 ∨ j = 4 ∨ j = 5 ∨ j = 6 ∨ j = 7 := by omega
  rcases this with rfl | rfl | rfl | rfl | rfl | rfl | rfl | rfl <;> rfl
set_option maxRecDepth 100000 in
set_option maxHeartbeats 8000000 in
theorem crc_one (r : Nat) (b : UInt8) (h : r < 4294967296) : Spec Tryz.prog 71 [.ca (.val (vu r)), .ca (.val (.sc (.int .u8 b.toNat)))] [] (.ca (.val (vu (((bits8 b).foldl stepC r : Nat) : Int)))) [] := by
  have hb := b.toNat_lt
  refine spec_of Tryz.func71 rfl Tryz.ntmps71 Tryz.results71 ⟨by decide, by simp⟩ fun C hC => ?_
  (repeat (first | refine sp_ ?_ | exact ex0))
  refine loop_s (α := {j : Nat // j ≤ 8}) (fun j => [(.s 0, .av (.val (vu ((((bits8 b).take j.1).foldl stepC r : Nat) : Int)))), (.s 1, .av (.val (.sc (.int .u8 (Bv b j.1))))), (.s 5, .av (.val (vi j.1)))]) (fun j => 8 - j.1) ⟨0, by decide⟩ ?_ (fun j => ?_)
  · have e : Bv b 0 = b.toNat := by unfold Bv; omega
    rw [e]
    simp (decide := true) (disch := omega) only [go_sem, ↓reduceIte, ↓put_at]
    rfl
  · obtain ⟨j, hj⟩ := j
    dsimp only at hj ⊢
    have hR := fold_lt ((bits8 b).take j) r h
    by_cases hlt : j < 8
    · have hs := bits8_take b j hlt
      have hbt := Bv_bit b j hlt
      have hsc := Bv_succ b j
      have hv : Bv b j < 256 := Nat.mod_lt _ (by decide)
      generalize hRR : ((bits8 b).take j).foldl stepC r = R at *
      have hst : stepC R (b.toNat.testBit (7 - j)) = up R ^^^ (Bv b j / 128) := by rw [hbt]; rfl
      have hx := u32_xor (up R) (Bv b j / 128) (up_lt R) (by omega)
      have hc : ((Bv b j / 128 : Nat) : Int) = (Bv b j : Int) / 128 := by omega
      rw [hc, ← hst] at hx
      (repeat (first | refine sp_ ?_ | exact ex0))
      refine call_s Tryz.call92 (crc_up R hR) [] ?_
      (repeat (first | refine sp_ ?_ | exact ex0))
      simp only [hx]
      refine next_s (α := {j : Nat // j ≤ 8}) ⟨j + 1, hlt⟩ ⟨?_, by dsimp only; omega⟩
      rw [hs, List.foldl_append, hRR, hsc]
      simp (decide := true) (disch := omega) only [go_sem, ↓reduceIte, ↓put_at]
      exact ⟨rfl, by rw [IntKind.wrap_u8]; omega⟩
    · obtain rfl : j = 8 := by omega
      (repeat (first | refine sp_ ?_ | exact ex0))
      (refine ret_s [] ?_; simp (decide := true) (disch := omega) only [go_sem, ↓reduceIte, ↓put_at])
      rfl
theorem rem_snoc (l : List UInt8) (b : UInt8) : rem (l ++ [b]) = (bits8 b).foldl stepC (rem l) := by
  unfold rem
  rw [bitsL_app]
  unfold remB
  rw [List.foldl_append]
  have : bitsL [b] = bits8 b := by simp [bitsL]
  rw [this]
set_option maxRecDepth 100000 in
set_option maxHeartbeats 4000000 in
theorem crc_rem (ls : List (List UInt8)) (hl : ls.length ≤ maxLen) (hd : ∀ l ∈ ls, l.length ≤ maxLen) : Spec Tryz.prog 39 [.ca (.val (.lst 1 (ls.map strEl)))] [] (.ca (.val (vu (rem ls.flatten)))) [] := by
  unfold maxLen at hl
  refine spec_of Tryz.func39 rfl Tryz.ntmps39 Tryz.results39 ⟨by decide, by simp⟩ fun C hC => ?_
  (repeat (first | refine sp_ ?_ | exact ex0))
  refine loop_s (α := {j : Nat // j ≤ ls.length}) (fun j => [(.s 3, .av (.val (vu (rem (ls.take j.1).flatten)))), (.s 7, .av (.val (.lst 1 (ls.map strEl)))), (.s 8, .av (.val (vi ls.length))), (.s 9, .av (.val (vi j.1)))]) (fun j => ls.length - j.1) ⟨0, Nat.zero_le _⟩ ?_ (fun j => ?_)
  · have e : rem (ls.take 0).flatten = 0 := rfl
    rw [e]
    simp (decide := true) (disch := omega) only [go_sem, ↓reduceIte, ↓put_at]
  · obtain ⟨j, hj⟩ := j
    dsimp only at hj ⊢
    by_cases hlt : j < ls.length
    · have hs : ls.take (j + 1) = ls.take j ++ [ls[j]] := List.take_succ_eq_append_getElem hlt
      have hlj := hd _ (List.getElem_mem hlt)
      unfold maxLen at hlj
      have hfl : (ls.take (j + 1)).flatten = (ls.take j).flatten ++ ls[j] := by rw [hs, List.flatten_append, List.flatten_singleton]
      (repeat ((fail_if_success (refine stop_reg 6 ?_)); (first | refine sp_ ?_ | exact ex0)))
      generalize hL : ls[j] = L at *
      refine loop_s (α := {i : Nat // i ≤ L.length}) (fun i => [(.s 3, .av (.val (vu (rem ((ls.take j).flatten ++ L.take i.1))))), (.s 5, .av (.val (vs L))), (.s 7, .av (.val (.lst 1 (ls.map strEl)))), (.s 8, .av (.val (vi ls.length))), (.s 9, .av (.val (vi j))), (.s 14, .av (.val (vi L.length))), (.s 15, .av (.val (vi i.1)))]) (fun i => L.length - i.1) ⟨0, Nat.zero_le _⟩ ?_ (fun i => ?_)
      · rw [List.take_zero, List.append_nil]
        simp (decide := true) (disch := omega) only [go_sem, ↓reduceIte, ↓put_at]
      · obtain ⟨i, hi⟩ := i
        dsimp only at hi ⊢
        by_cases hlt2 : i < L.length
        · have hs2 : L.take (i + 1) = L.take i ++ [L[i]] := List.take_succ_eq_append_getElem hlt2
          have hR := rem_lt (bitsL ((ls.take j).flatten ++ L.take i))
          have hg : L.getD i 0 = L[i] := by simp [hlt2]
          have c1 := crc_one (rem ((ls.take j).flatten ++ L.take i)) L[i] hR
          have e1 : rem ((ls.take j).flatten ++ L.take (i + 1)) = (bits8 L[i]).foldl stepC (rem ((ls.take j).flatten ++ L.take i)) := by rw [hs2, ← List.append_assoc, rem_snoc]
          rw [← e1] at c1
          (repeat (first | refine sp_ ?_ | exact ex0))
          simp only [hg]
          refine call_s Tryz.call71 c1 [] ?_
          (repeat (first | refine sp_ ?_ | exact ex0))
          refine next_s (α := {i : Nat // i ≤ L.length}) ⟨i + 1, hlt2⟩ ⟨?_, by dsimp only; omega⟩
          simp (decide := true) (disch := omega) only [go_sem, ↓reduceIte, ↓put_at]
        · have hi2 : L.take i = L := List.take_of_length_le (by omega)
          rw [hi2, ← hfl]
          (repeat (first | refine sp_ ?_ | exact ex0))
          refine next_s (α := {j : Nat // j ≤ ls.length}) ⟨j + 1, hlt⟩ ⟨?_, by dsimp only; omega⟩
          simp (decide := true) (disch := omega) only [go_sem, ↓reduceIte, ↓put_at]
    · have hj2 : ls.take j = ls := List.take_of_length_le (by omega)
      rw [hj2]
      (repeat (first | refine sp_ ?_ | exact ex0))
      (refine ret_s [] ?_; simp (decide := true) (disch := omega) only [go_sem, ↓reduceIte, ↓put_at])
set_option maxRecDepth 100000 in
set_option maxHeartbeats 8000000 in
theorem crc_right (s : List UInt8) (hl : s.length ≤ maxLen) : Spec Tryz.prog 21 [.ca (.val (vs s))] [] (.ca (.val (vb (decide (rem s = 0))))) [] := by
  have c := crc_rem [s] (by unfold maxLen; simp) (fun l hl2 => by simp at hl2; subst hl2; exact hl)
  have e : [s].flatten = s := by simp
  rw [e] at c
  refine spec_of Tryz.func21 rfl Tryz.ntmps21 Tryz.results21 ⟨by decide, by simp⟩ fun C hC => ?_
  by_cases h : rem s = 0
  · rw [decide_eq_true h]
    (repeat (first | refine sp_ ?_ | exact ex0))
    refine call_s Tryz.call39 c [] ?_
    (repeat (first | refine sp_ ?_ | exact ex0))
    (refine ret_s [] ?_; simp (decide := true) (disch := omega) only [go_sem, ↓reduceIte, ↓put_at])
  · rw [decide_eq_false h]
    (repeat (first | refine sp_ ?_ | exact ex0))
    refine call_s Tryz.call39 c [] ?_
    (repeat (first | refine sp_ ?_ | exact ex0))
    (refine ret_s [] ?_; simp (decide := true) (disch := omega) only [go_sem, ↓reduceIte, ↓put_at])
theorem field_els (r : Nat) (h : r < 4294967296) : [[V.sc (.int .u8 ((r : Int) / 16777216))], [V.sc (.int .u8 (IntKind.u8.wrap ((r : Int) / 65536)))], [V.sc (.int .u8 (IntKind.u8.wrap ((r : Int) / 256)))], [V.sc (.int .u8 (IntKind.u8.wrap (r : Int)))]] = (putZ (r : Int) 4).map byteEl := by
  have e : IntKind.u8.wrap ((r : Int) / 16777216) = (r : Int) / 16777216 := wrap_u8 (by omega) (by omega)
  have h1 := byte_of ((r : Int) / 16777216)
  rw [e] at h1
  rw [h1, byte_of, byte_of, byte_of]
  unfold putZ putZ putZ putZ putZ
  simp
def sealOk (s : List UInt8) (a : Int) : Bool := decide (0 ≤ a ∧ a ≤ (s.length : Int) - 4)
def sealS (s : List UInt8) (a : Int) : List UInt8 := if sealOk s a = true then sealB (s.take a.toNat) (s.drop (a.toNat + 4)) else []
set_option maxRecDepth 100000 in
set_option maxHeartbeats 4000000 in
theorem crc_seal (s : List UInt8) (a : Int) (hl : s.length ≤ 1099511627776) : Spec Tryz.prog 19 [.ca (.val (vs s)), .ca (.val (vi a))] [] (.ca (.val (.tup [vs (sealS s a), vb (sealOk s a)]))) [] := by
  unfold sealS
  by_cases h1 : 0 ≤ a
  · by_cases h2 : a ≤ (s.length : Int) - 4
    · have ho : sealOk s a = true := decide_eq_true ⟨h1, h2⟩
      rw [ho, if_pos rfl]
      obtain ⟨n, rfl⟩ : ∃ n : Nat, a = n := ⟨a.toNat, by omega⟩
      obtain ⟨H, hH⟩ : ∃ H, H = s.take n := ⟨_, rfl⟩
      obtain ⟨T, hT⟩ : ∃ T, T = s.drop (n + 4) := ⟨_, rfl⟩
      have hHl : H.length = n := by rw [hH, List.length_take]; omega
      have hTl : T.length = s.length - (n + 4) := by rw [hT, List.length_drop]
      have c1 := crc_rem [H, [0, 0, 0, 0], T] (by unfold maxLen; simp) (fun l hl2 => by
        unfold maxLen
        simp at hl2
        rcases hl2 with rfl | rfl | rfl
        · omega
        · simp
        · omega)
      have e1 : [H, [0, 0, 0, 0], T].flatten = H ++ [0, 0, 0, 0] ++ T := by simp
      rw [e1] at c1
      have en : ((n : Int)).toNat = n := by omega
      have en4 : ((n : Int) + 4).toNat = n + 4 := by omega
      rw [Int.toNat_natCast, ← hH, ← hT]
      refine spec_of Tryz.func19 rfl Tryz.ntmps19 Tryz.results19 ⟨by decide, by simp⟩ fun C hC => ?_
      (repeat (first | refine sp_ ?_ | exact ex0))
      simp only [en4, ← hH, ← hT]
      refine call_s Tryz.call39 c1 [] ?_
      obtain ⟨R, hR⟩ : ∃ R, R = rem (H ++ [0, 0, 0, 0] ++ T) := ⟨_, rfl⟩
      have hRl : R < 4294967296 := by rw [hR]; exact rem_lt _
      have hfb : fieldB H T = putZ ((downN (8 * T.length) R : Nat) : Int) 4 := by unfold fieldB; rw [hR]
      rw [← hR]
      (repeat (first | refine sp_ ?_ | exact ex0))
      refine loop_s (α := {k : Nat // k ≤ 8 * T.length}) (fun k => [(.s 6, .av (.val (vs H))), (.s 7, .av (.val (vs T))), (.s 8, .av (.val (vu (downN k.1 R : Nat)))), (.s 32, .av (.val (vi (8 * T.length : Nat)))), (.s 33, .av (.val (vi k.1)))]) (fun k => 8 * T.length - k.1) ⟨0, Nat.zero_le _⟩ ?_ (fun k => ?_)
      · have e0 : downN 0 R = R := rfl
        rw [e0]
        simp (decide := true) (disch := omega) only [go_sem, ↓reduceIte, ↓put_at]
        omega
      · obtain ⟨k, hk⟩ := k
        dsimp only at hk ⊢
        have hdl := downN_lt k R hRl
        by_cases hlt : k < 8 * T.length
        · have hds : downN (k + 1) R = down (downN k R) := rfl
          (repeat (first | refine sp_ ?_ | exact ex0))
          refine call_s Tryz.call40 (crc_down (downN k R) hdl) [] ?_
          (repeat (first | refine sp_ ?_ | exact ex0))
          refine next_s (α := {k : Nat // k ≤ 8 * T.length}) ⟨k + 1, hlt⟩ ⟨?_, by dsimp only; omega⟩
          rw [hds]
          simp (decide := true) (disch := omega) only [go_sem, ↓reduceIte, ↓put_at]
        · obtain rfl : k = 8 * T.length := by omega
          generalize downN (8 * T.length) R = r at *
          have hz := putZ_length (r : Int) 4
          have hfe := field_els r hdl
          (repeat (first | refine sp_ ?_ | exact ex0))
          simp only [hfe]
          refine convBS_s (putZ (r : Int) 4) (by simp (decide := true) (disch := omega) only [go_sem, ↓reduceIte, ↓put_at]) (by simp (decide := true) (disch := omega) only [go_sem, ↓reduceIte, ↓put_at]) (by simp (decide := true) (disch := omega) only [go_sem, ↓reduceIte, ↓put_at]) ?_
          (repeat (first | refine sp_ ?_ | exact ex0))
          (refine ret_s [] ?_; simp (decide := true) (disch := omega) only [go_sem, ↓reduceIte, ↓put_at])
          unfold sealB
          rw [hfb]
          all_goals (try simp)
    · have ho : sealOk s a = false := decide_eq_false (fun h => h2 h.2)
      rw [ho, if_neg (by decide)]
      refine spec_of Tryz.func19 rfl Tryz.ntmps19 Tryz.results19 ⟨by decide, by simp⟩ fun C hC => ?_
      (repeat (first | refine sp_ ?_ | exact ex0))
      (refine ret_s [] ?_; simp (decide := true) (disch := omega) only [go_sem, ↓reduceIte, ↓put_at])
  · have ho : sealOk s a = false := decide_eq_false (fun h => h1 h.1)
    rw [ho, if_neg (by decide)]
    refine spec_of Tryz.func19 rfl Tryz.ntmps19 Tryz.results19 ⟨by decide, by simp⟩ fun C hC => ?_
    (repeat (first | refine sp_ ?_ | exact ex0))
    (refine ret_s [] ?_; simp (decide := true) (disch := omega) only [go_sem, ↓reduceIte, ↓put_at])
end Go.Proofs.YtkclmofjlmeolaaGreatDoor

