
/- A sum laid in a text; bits of numbers of 32 bits: plain mathematics. -/
import Derived.Test.YtdkgnlmojmafbaaCrcM
import Derived.Test.YtdkgnlmojmafbaaByte
import Derived.Test.YtdkgnlmojmafbaaBits
namespace Go.Proofs.Ytdkgnlmojmafbaa
set_option linter.unusedVariables false
set_option linter.unusedSimpArgs false

theorem val8 (n : Nat) (b : UInt8) : (bits8 b).foldl (fun n b => 2 * n + b.toNat) n = 256 * n + b.toNat := by
  have hb := b.toNat_lt
  simp only [bits8, List.foldl_cons, List.foldl_nil, Nat.toNat_testBit]
  omega
theorem valL : ∀ (l : List UInt8) (n : Nat), (bitsL l).foldl (fun n b => 2 * n + b.toNat) n = l.foldl (fun n b => 256 * n + b.toNat) n
  | [], n => rfl
  | b :: l, n => by
    have e : bitsL (b :: l) = bits8 b ++ bitsL l := rfl
    rw [e, List.foldl_append, val8, List.foldl_cons]
    exact valL l _
theorem rem_field (l : List UInt8) (h : l.length = 4) : remB (bitsL l) = getN l := by
  unfold remB
  rw [short _ 0 0 (by decide) (by rw [bitsL_len]; omega), valL]
  rfl
theorem zip_zeros : ∀ (l : List Bool), List.zipWith Bool.xor l (List.replicate l.length false) = l
  | [] => rfl
  | b :: l => by
    rw [List.length_cons, List.replicate_succ, List.zipWith_cons_cons, zip_zeros l, Bool.xor_false]
theorem zeros_zip : ∀ (l : List Bool), List.zipWith Bool.xor (List.replicate l.length false) l = l
  | [] => rfl
  | b :: l => by
    rw [List.length_cons, List.replicate_succ, List.zipWith_cons_cons, zeros_zip l, Bool.false_xor]
def fieldB (h t : List UInt8) : List UInt8 := putZ (downN (8 * t.length) (rem (h ++ [0, 0, 0, 0] ++ t)) : Nat) 4
def sealB (h t : List UInt8) : List UInt8 := h ++ fieldB h t ++ t
theorem fieldB_len (h t : List UInt8) : (fieldB h t).length = 4 := putZ_length _ 4
theorem sealB_rem (h t : List UInt8) : rem (sealB h t) = 0 := by
  obtain ⟨R, hR⟩ : ∃ R, R = rem (h ++ [0, 0, 0, 0] ++ t) := ⟨_, rfl⟩
  have hRl : R < 4294967296 := by rw [hR]; exact rem_lt _
  obtain ⟨r, hr⟩ : ∃ r, r = downN (8 * t.length) R := ⟨_, rfl⟩
  have hrl : r < 4294967296 := by rw [hr]; exact downN_lt _ _ hRl
  have hup : upN (8 * t.length) r = R := by rw [hr]; exact upN_downN _ _ hRl
  have hf : fieldB h t = putZ (r : Nat) 4 := by unfold fieldB; rw [← hR, ← hr]
  have hfl := fieldB_len h t
  have hfr : remB (bitsL (fieldB h t)) = r := by
    rw [rem_field _ hfl, hf]
    have := getN_putZ (r : Int) 4
    have e : (r : Int) % 256 ^ 4 = r := Int.emod_eq_of_lt (by omega) (by
      have : (256 : Int) ^ 4 = 4294967296 := by decide
      omega)
    rw [e] at this
    exact Int.ofNat.inj this
  have hz4 : bitsL [0, 0, 0, 0] = List.replicate 32 false := by decide
  have hl4 : (bitsL (fieldB h t)).length = 32 := by rw [bitsL_len, hfl]
  have hx := rem_xor (bitsL h ++ bitsL [0, 0, 0, 0] ++ bitsL t) (List.replicate (bitsL h).length false ++ bitsL (fieldB h t) ++ List.replicate (bitsL t).length false) (by
    simp only [List.length_append, List.length_replicate, hl4, hz4])
  rw [List.zipWith_append (by simp only [List.length_append, List.length_replicate, hl4, hz4]), List.zipWith_append (by simp), zip_zeros, zip_zeros, hz4] at hx
  have e1 : List.zipWith Bool.xor (List.replicate 32 false) (bitsL (fieldB h t)) = bitsL (fieldB h t) := by
    have := zeros_zip (bitsL (fieldB h t))
    rwa [hl4] at this
  rw [e1] at hx
  have e2 : remB (List.replicate (bitsL h).length false ++ bitsL (fieldB h t) ++ List.replicate (bitsL t).length false) = R := by
    unfold remB
    rw [List.foldl_append, List.foldl_append, fold_zeros, fold_zeros, upN_zero, bitsL_len t]
    show upN (8 * t.length) (remB (bitsL (fieldB h t))) = R
    rw [hfr, hup]
  have e3 : remB (bitsL h ++ List.replicate 32 false ++ bitsL t) = R := by
    rw [hR]
    unfold rem
    rw [bitsL_app, bitsL_app, hz4]
  rw [e2, e3, Nat.xor_self] at hx
  unfold rem sealB
  rw [bitsL_app, bitsL_app]
  exact hx

/-! ### Numbers of 32 bits -/
theorem ofInt_nat (a : Nat) (h : a < 4294967296) : (BitVec.ofInt 32 (a : Int)).toNat = a := by
  rw [BitVec.toNat_ofInt]
  omega
theorem u32_xor (a b : Nat) (ha : a < 4294967296) (hb : b < 4294967296) : bits .xor .u32 (a : Int) (b : Int) = ((a ^^^ b : Nat) : Int) := by
  have h : a ^^^ b < 2 ^ 32 := Nat.xor_lt_two_pow ha hb
  show IntKind.u32.wrap ((BitVec.ofInt 32 (a : Int) ^^^ BitVec.ofInt 32 (b : Int)).toNat : Int) = _
  rw [BitVec.toNat_xor, ofInt_nat a ha, ofInt_nat b hb]
  exact u32_wraps _ (by omega) (by omega)
theorem u32_and (a b : Nat) (ha : a < 4294967296) (hb : b < 4294967296) : bits .and .u32 (a : Int) (b : Int) = ((a &&& b : Nat) : Int) := by
  have h : a &&& b ≤ a := Nat.and_le_left
  show IntKind.u32.wrap ((BitVec.ofInt 32 (a : Int) &&& BitVec.ofInt 32 (b : Int)).toNat : Int) = _
  rw [BitVec.toNat_and, ofInt_nat a ha, ofInt_nat b hb]
  exact u32_wraps _ (by omega) (by omega)
theorem top_bit (r : Nat) (h : r < 4294967296) : (bits .and .u32 (r : Int) 2147483648 != 0) = r.testBit 31 := by
  rw [show (2147483648 : Int) = ((2147483648 : Nat) : Int) from rfl, u32_and r 2147483648 h (by decide), bit31 r h]
  have e : r &&& 2147483648 = if 2147483648 ≤ r then 2147483648 else 0 := by
    apply Nat.eq_of_testBit_eq
    intro i
    have hp : (2147483648 : Nat) = 2 ^ 31 := by decide
    rw [Nat.testBit_and]
    have h2 : (2147483648 : Nat).testBit i = decide (i = 31) := by rw [hp, Nat.testBit_two_pow]; exact decide_eq_decide.2 ⟨fun h => h.symm, fun h => h.symm⟩
    rw [h2]
    by_cases hi : i = 31
    · subst hi
      rw [bit31 r h]
      by_cases hr : 2147483648 ≤ r
      · rw [if_pos hr, h2, decide_eq_true hr]; rfl
      · rw [if_neg hr, decide_eq_false hr]; simp
    · rw [decide_eq_false hi, Bool.and_false]
      split
      · rw [h2, decide_eq_false hi]
      · simp
  rw [e]
  by_cases hr : 2147483648 ≤ r
  · rw [if_pos hr, decide_eq_true hr]; rfl
  · rw [if_neg hr, decide_eq_false hr]; rfl
theorem low_bit (r : Nat) (h : r < 4294967296) : (bits .and .u32 (r : Int) 1 != 0) = decide (r % 2 = 1) := by
  rw [show (1 : Int) = ((1 : Nat) : Int) from rfl, u32_and r 1 h (by decide), Nat.and_one_is_mod]
  by_cases hr : r % 2 = 1
  · rw [decide_eq_true hr, hr]; rfl
  · rw [decide_eq_false hr, show r % 2 = 0 by omega]; rfl
theorem up_t (r : Nat) (h : r < 4294967296) (hb : r.testBit 31 = true) : bits .xor .u32 (IntKind.u32.wrap ((r : Int) * 2)) 79764919 = ((up r : Nat) : Int) := by
  have e : IntKind.u32.wrap ((r : Int) * 2) = (((r <<< 1) % 2 ^ 32 : Nat) : Int) := by
    rw [IntKind.wrap_u32, Nat.shiftLeft_eq]; omega
  rw [e, show (79764919 : Int) = ((79764919 : Nat) : Int) from rfl, u32_xor _ _ (Nat.mod_lt _ (by decide)) (by decide)]
  unfold up
  rw [if_pos hb]
  rfl
theorem up_f (r : Nat) (h : r < 4294967296) (hb : r.testBit 31 = false) : (r : Int) * 2 = ((up r : Nat) : Int) := by
  rw [bit31 r h] at hb
  have := of_decide_eq_false hb
  rw [up_small r (by omega)]
  omega
theorem down_t (r : Nat) (h : r < 4294967296) (hb : r % 2 = 1) : bits .or .u32 (bits .xor .u32 (r : Int) 79764919 / 2) 2147483648 = ((down r : Nat) : Int) := by
  have h2 : (r ^^^ poly) < 2 ^ 32 := Nat.xor_lt_two_pow (by omega) (by decide)
  rw [show (79764919 : Int) = ((poly : Nat) : Int) from rfl, u32_xor r poly h (by decide)]
  unfold down
  rw [if_pos hb]
  generalize r ^^^ poly = x at *
  have e : bits .or .u32 (2147483648 : Int) (((x : Int)) / 2) = 2147483648 + (x : Int) / 2 := u32_join 31 _ _ (by omega) (by decide) (by omega) (by omega) (by omega) (by omega)
  have ec : bits .or .u32 ((x : Int) / 2) 2147483648 = bits .or .u32 2147483648 ((x : Int) / 2) := by
    show IntKind.u32.wrap ((BitVec.ofInt 32 ((x : Int) / 2) ||| BitVec.ofInt 32 2147483648).toNat : Int) = IntKind.u32.wrap ((BitVec.ofInt 32 2147483648 ||| BitVec.ofInt 32 ((x : Int) / 2)).toNat : Int)
    rw [BitVec.or_comm]
  rw [ec, e]
  omega
theorem down_f (r : Nat) (hb : ¬ r % 2 = 1) : (r : Int) / 2 = ((down r : Nat) : Int) := by
  unfold down
  rw [if_neg hb]
  omega
end Go.Proofs.Ytdkgnlmojmafbaa
