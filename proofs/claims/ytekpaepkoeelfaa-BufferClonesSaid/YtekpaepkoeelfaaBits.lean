
/- Masks and joined bits of fixed-width numbers, as remainders and sums: no program in sight. -/
import Derived.WalkKit
namespace Go.Proofs.Ytekpaepkoeelfaa
set_option linter.unusedVariables false
set_option linter.unusedSimpArgs false

theorem i64_wraps (n : Int) (h0 : -9223372036854775808 ≤ n) (h1 : n < 9223372036854775808) : IntKind.i64.wrap n = n := by rw [IntKind.wrap_i64]; omega
theorem i64_mask (i : Nat) (hi : i ≤ 62) (x : Int) : bits .and .i64 x (2 ^ i - 1) = x % 2 ^ i := by
  have h2 : (2 : Nat) ^ i ≤ 2 ^ 62 := Nat.pow_le_pow_right (by decide) hi
  have hp : 0 < (2 : Nat) ^ i := Nat.pow_pos (by decide)
  have e1 : (BitVec.ofInt 64 ((2 : Int) ^ i - 1)).toNat = 2 ^ i - 1 := by
    rw [BitVec.toNat_ofInt]
    have : ((2 : Int) ^ i - 1) = ((2 ^ i - 1 : Nat) : Int) := by rw [Int.natCast_sub (by omega)]; simp
    rw [this, ← Int.natCast_emod, Int.toNat_natCast, Nat.mod_eq_of_lt (by omega)]
  have e2 : ((BitVec.ofInt 64 x).toNat : Int) = x % 2 ^ 64 := by
    rw [BitVec.toNat_ofInt, Int.toNat_of_nonneg (Int.emod_nonneg _ (by decide))]; simp
  have e3 : (((BitVec.ofInt 64 x).toNat % 2 ^ i : Nat) : Int) = x % 2 ^ i := by
    rw [Int.natCast_emod, e2]
    have hd : ((2 ^ i : Nat) : Int) ∣ 2 ^ 64 := by
      refine ⟨((2 ^ (64 - i) : Nat) : Int), ?_⟩
      rw [← Int.natCast_mul, ← Nat.pow_add, show i + (64 - i) = 64 from by omega]; simp
    have := Int.emod_emod_of_dvd x hd
    simpa using this
  show IntKind.i64.wrap ((BitVec.ofInt 64 x &&& BitVec.ofInt 64 ((2 : Int) ^ i - 1)).toNat : Int) = _
  rw [BitVec.toNat_and, e1, Nat.and_two_pow_sub_one_eq_mod, e3]
  have h3 := Int.emod_nonneg x (show (2 : Int) ^ i ≠ 0 from Int.pow_ne_zero (by decide))
  have h4 := Int.emod_lt_of_pos x (show (0 : Int) < 2 ^ i from Int.pow_pos (by decide))
  have h5 : ((2 : Int) ^ i) ≤ 2 ^ 62 := by
    have : ((2 ^ i : Nat) : Int) ≤ ((2 ^ 62 : Nat) : Int) := Int.ofNat_le.2 h2
    simpa using this
  exact i64_wraps _ (by omega) (by omega)
theorem i64_and1 (x : Int) : bits .and .i64 x 1 = x % 2 := i64_mask 1 (by decide) x
theorem i64_and3 (x : Int) : bits .and .i64 x 3 = x % 4 := i64_mask 2 (by decide) x
theorem i64_and7 (x : Int) : bits .and .i64 x 7 = x % 8 := i64_mask 3 (by decide) x
theorem i64_and15 (x : Int) : bits .and .i64 x 15 = x % 16 := i64_mask 4 (by decide) x
theorem i64_and31 (x : Int) : bits .and .i64 x 31 = x % 32 := i64_mask 5 (by decide) x
theorem i64_and63 (x : Int) : bits .and .i64 x 63 = x % 64 := i64_mask 6 (by decide) x
theorem i64_and127 (x : Int) : bits .and .i64 x 127 = x % 128 := i64_mask 7 (by decide) x
theorem i64_and255 (x : Int) : bits .and .i64 x 255 = x % 256 := i64_mask 8 (by decide) x
theorem i64_and4095 (x : Int) : bits .and .i64 x 4095 = x % 4096 := i64_mask 12 (by decide) x
theorem i64_and65535 (x : Int) : bits .and .i64 x 65535 = x % 65536 := i64_mask 16 (by decide) x
theorem i64_and24 (x : Int) : bits .and .i64 x 16777215 = x % 16777216 := i64_mask 24 (by decide) x
attribute [go_sem] i64_and1 i64_and3 i64_and7 i64_and15 i64_and31 i64_and63 i64_and127 i64_and255 i64_and4095 i64_and65535 i64_and24

theorem u32_wraps (n : Int) (h0 : 0 ≤ n) (h1 : n < 2 ^ 32) : IntKind.u32.wrap n = n := by rw [IntKind.wrap_u32]; omega
theorem i64_wraps' (n : Int) (h0 : 0 ≤ n) (h1 : n < 2 ^ 63) : IntKind.i64.wrap n = n := i64_wraps n (by omega) (by omega)
theorem u32_join (i : Nat) (x y : Int) (hx₀ : 0 ≤ x) (hx : x % 2 ^ i = 0) (hx₁ : x < 4294967296) (hy₀ : 0 ≤ y) (hy : y < 2 ^ i) (hy₁ : y < 4294967296) : bits .or .u32 x y = x + y :=
  bits_join .u32 32 (by decide) u32_wraps i x y hx₀ hx hx₁ hy₀ hy hy₁
theorem i64_join (i : Nat) (x y : Int) (hx₀ : 0 ≤ x) (hx : x % 2 ^ i = 0) (hx₁ : x < 9223372036854775808) (hy₀ : 0 ≤ y) (hy : y < 2 ^ i) (hy₁ : y < 9223372036854775808) : bits .or .i64 x y = x + y :=
  bits_join .i64 63 (by decide) i64_wraps' i x y hx₀ hx hx₁ hy₀ hy hy₁
theorem u32_byte_join (a b : Nat) (h : a < 16777216) (hb : b < 256) : bits .or .u32 ((a : Int) * 256) (b : Int) = ((256 * a + b : Nat) : Int) := by
  rw [u32_join 8 _ _ (by omega) (by omega) (by omega) (by omega) (by omega) (by omega)]
  omega
theorem i64_bounds {n : Int} (h : (Lit.int .i64 n).wf = true) : -9223372036854775807 ≤ n + 1 ∧ n ≤ 9223372036854775807 := by
  have : -9223372036854775808 ≤ n ∧ n ≤ 9223372036854775807 := by simpa [Lit.wf, IntKind.min, IntKind.max, IntKind.signed, IntKind.bits] using h
  omega
theorem u32_bounds {n : Int} (h : (Lit.int .u32 n).wf = true) : 0 ≤ n ∧ n < 4294967296 := by
  have : 0 ≤ n ∧ n ≤ 4294967295 := by simpa [Lit.wf, IntKind.min, IntKind.max, IntKind.signed, IntKind.bits] using h
  omega
end Go.Proofs.Ytekpaepkoeelfaa
