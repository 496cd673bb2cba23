/- What the walk asks of each type. By program. -/
import Derived.Test.YtbnnfmleoebelaaGreatRDz
import Derived.Test.YtbnnfmleoebelaaGreatRows
import Derived.KernelRfl
import Derived.Below
namespace Go.Proofs.YtbnnfmleoebelaaGreat
set_option linter.unusedVariables false
theorem ti3 : tiOf Tryz.prog 3 = some { sh := Sh.int IntKind.i64, agg := false, size := 1, bytes := 8, zero := [Value.int IntKind.i64 (0)], elem := 0, fields := [], fok := true, zok := true } := by kernel_rfl
theorem ti4 : tiOf Tryz.prog 4 = some { sh := Sh.bool, agg := false, size := 1, bytes := 1, zero := [Value.bool false], elem := 0, fields := [], fok := true, zok := true } := by kernel_rfl
theorem ti5 : tiOf Tryz.prog 5 = some { sh := Sh.int IntKind.u8, agg := false, size := 1, bytes := 1, zero := [Value.int IntKind.u8 (0)], elem := 0, fields := [], fok := true, zok := true } := by kernel_rfl
theorem ti9 : tiOf Tryz.prog 9 = some { sh := Sh.str, agg := false, size := 1, bytes := 16, zero := [str []], elem := 0, fields := [], fok := true, zok := true } := by kernel_rfl
theorem ti20 : tiOf Tryz.prog 20 = some { sh := Sh.other, agg := false, size := 1, bytes := 16, zero := [Value.nilIface], elem := 0, fields := [], fok := true, zok := true } := by kernel_rfl
theorem ti22 : tiOf Tryz.prog 22 = some { sh := Sh.int IntKind.u32, agg := false, size := 1, bytes := 4, zero := [Value.int IntKind.u32 (0)], elem := 0, fields := [], fok := true, zok := true } := by kernel_rfl
theorem ti24 : tiOf Tryz.prog 24 = some { sh := Sh.strct, agg := true, size := 4, bytes := 24, zero := [Value.int IntKind.i64 (0), Value.int IntKind.u32 (0), Value.int IntKind.u32 (0), Value.int IntKind.u32 (0)], elem := 0, fields := [(0, 1, false), (1, 1, false), (2, 1, false), (3, 1, false)], fok := true, zok := true } := by kernel_rfl
theorem ti25 : tiOf Tryz.prog 25 = some { sh := Sh.slice, agg := false, size := 1, bytes := 24, zero := [Value.slice none 0 0], elem := 152, fields := [], fok := true, zok := true } := by kernel_rfl
theorem ti27 : tiOf Tryz.prog 27 = some { sh := Sh.strct, agg := true, size := 7, bytes := 56, zero := [Value.int IntKind.u32 (0), Value.bool false, Value.int IntKind.i64 (0), Value.int IntKind.u32 (0), Value.int IntKind.u32 (0), Value.int IntKind.u32 (0), Value.slice none 0 0], elem := 0, fields := [(0, 1, false), (1, 1, false), (2, 4, true), (6, 1, false)], fok := true, zok := true } := by kernel_rfl
theorem ti28 : tiOf Tryz.prog 28 = some { sh := Sh.slice, agg := false, size := 1, bytes := 24, zero := [Value.slice none 0 0], elem := 50, fields := [], fok := true, zok := true } := by kernel_rfl
theorem ti29 : tiOf Tryz.prog 29 = some { sh := Sh.slice, agg := false, size := 1, bytes := 24, zero := [Value.slice none 0 0], elem := 40, fields := [], fok := true, zok := true } := by kernel_rfl
theorem ti30 : tiOf Tryz.prog 30 = some { sh := Sh.slice, agg := false, size := 1, bytes := 24, zero := [Value.slice none 0 0], elem := 157, fields := [], fok := true, zok := true } := by kernel_rfl
theorem ti32 : tiOf Tryz.prog 32 = some { sh := Sh.strct, agg := true, size := 2, bytes := 32, zero := [Value.int IntKind.u32 (0), Value.slice none 0 0], elem := 0, fields := [(0, 1, false), (1, 1, false)], fok := true, zok := true } := by kernel_rfl
theorem ti33 : tiOf Tryz.prog 33 = some { sh := Sh.slice, agg := false, size := 1, bytes := 24, zero := [Value.slice none 0 0], elem := 160, fields := [], fok := true, zok := true } := by kernel_rfl
theorem ti35 : tiOf Tryz.prog 35 = some { sh := Sh.strct, agg := true, size := 13, bytes := 168, zero := [Value.int IntKind.u32 (0), Value.bool false, Value.int IntKind.i64 (0), Value.int IntKind.u32 (0), Value.int IntKind.u32 (0), Value.int IntKind.u32 (0), Value.slice none 0 0, Value.slice none 0 0, Value.slice none 0 0, Value.int IntKind.u32 (0), Value.slice none 0 0, Value.slice none 0 0, Value.bool false], elem := 0, fields := [(0, 7, true), (7, 1, false), (8, 1, false), (9, 2, true), (11, 1, false), (12, 1, false)], fok := true, zok := true } := by kernel_rfl
theorem ti36 : tiOf Tryz.prog 36 = some { sh := Sh.int IntKind.i64, agg := false, size := 1, bytes := 8, zero := [Value.int IntKind.i64 (0)], elem := 0, fields := [], fok := true, zok := true } := by kernel_rfl
theorem ti38 : tiOf Tryz.prog 38 = some { sh := Sh.slice, agg := false, size := 1, bytes := 24, zero := [Value.slice none 0 0], elem := 76, fields := [], fok := true, zok := true } := by kernel_rfl
theorem ti40 : tiOf Tryz.prog 40 = some { sh := Sh.int IntKind.u16, agg := false, size := 1, bytes := 2, zero := [Value.int IntKind.u16 (0)], elem := 0, fields := [], fok := true, zok := true } := by kernel_rfl
theorem ti41 : tiOf Tryz.prog 41 = some { sh := Sh.slice, agg := false, size := 1, bytes := 24, zero := [Value.slice none 0 0], elem := 27, fields := [], fok := true, zok := true } := by kernel_rfl
theorem ti42 : tiOf Tryz.prog 42 = some { sh := Sh.slice, agg := false, size := 1, bytes := 24, zero := [Value.slice none 0 0], elem := 59, fields := [], fok := true, zok := true } := by kernel_rfl
theorem ti43 : tiOf Tryz.prog 43 = some { sh := Sh.slice, agg := false, size := 1, bytes := 24, zero := [Value.slice none 0 0], elem := 86, fields := [], fok := true, zok := true } := by kernel_rfl
theorem ti44 : tiOf Tryz.prog 44 = some { sh := Sh.slice, agg := false, size := 1, bytes := 24, zero := [Value.slice none 0 0], elem := 53, fields := [], fok := true, zok := true } := by kernel_rfl
theorem ti45 : tiOf Tryz.prog 45 = some { sh := Sh.slice, agg := false, size := 1, bytes := 24, zero := [Value.slice none 0 0], elem := 32, fields := [], fok := true, zok := true } := by kernel_rfl
theorem ti46 : tiOf Tryz.prog 46 = some { sh := Sh.slice, agg := false, size := 1, bytes := 24, zero := [Value.slice none 0 0], elem := 56, fields := [], fok := true, zok := true } := by kernel_rfl
theorem ti48 : tiOf Tryz.prog 48 = some { sh := Sh.strct, agg := true, size := 7, bytes := 168, zero := [Value.slice none 0 0, Value.slice none 0 0, Value.slice none 0 0, Value.slice none 0 0, Value.slice none 0 0, Value.slice none 0 0, Value.slice none 0 0], elem := 0, fields := [(0, 1, false), (1, 1, false), (2, 1, false), (3, 1, false), (4, 1, false), (5, 1, false), (6, 1, false)], fok := true, zok := true } := by kernel_rfl
theorem ti50 : tiOf Tryz.prog 50 = some { sh := Sh.strct, agg := true, size := 2, bytes := 24, zero := [Value.int IntKind.u32 (0), str []], elem := 0, fields := [(0, 1, false), (1, 1, false)], fok := true, zok := true } := by kernel_rfl
theorem ti53 : tiOf Tryz.prog 53 = some { sh := Sh.strct, agg := true, size := 3, bytes := 32, zero := [Value.int IntKind.u32 (0), Value.int IntKind.u32 (0), Value.slice none 0 0], elem := 0, fields := [(0, 1, false), (1, 1, false), (2, 1, false)], fok := true, zok := true } := by kernel_rfl
theorem ti56 : tiOf Tryz.prog 56 = some { sh := Sh.strct, agg := true, size := 2, bytes := 32, zero := [Value.int IntKind.u32 (0), Value.slice none 0 0], elem := 0, fields := [(0, 1, false), (1, 1, false)], fok := true, zok := true } := by kernel_rfl
theorem ti57 : tiOf Tryz.prog 57 = some { sh := Sh.slice, agg := false, size := 1, bytes := 24, zero := [Value.slice none 0 0], elem := 22, fields := [], fok := true, zok := true } := by kernel_rfl
theorem ti59 : tiOf Tryz.prog 59 = some { sh := Sh.strct, agg := true, size := 2, bytes := 40, zero := [str [], Value.slice none 0 0], elem := 0, fields := [(0, 1, false), (1, 1, false)], fok := true, zok := true } := by kernel_rfl
theorem ti60 : tiOf Tryz.prog 60 = some { sh := Sh.slice, agg := false, size := 1, bytes := 24, zero := [Value.slice none 0 0], elem := 67, fields := [], fok := true, zok := true } := by kernel_rfl
theorem ti67 : tiOf Tryz.prog 67 = some { sh := Sh.strct, agg := true, size := 3, bytes := 32, zero := [Value.int IntKind.i64 (0), Value.int IntKind.i64 (0), str []], elem := 0, fields := [(0, 1, false), (1, 1, false), (2, 1, false)], fok := true, zok := true } := by kernel_rfl
theorem ti69 : tiOf Tryz.prog 69 = some { sh := Sh.map, agg := false, size := 1, bytes := 8, zero := [Value.map none], elem := 4, fields := [], fok := true, zok := true } := by kernel_rfl
theorem ti76 : tiOf Tryz.prog 76 = some { sh := Sh.strct, agg := true, size := 2, bytes := 4, zero := [Value.int IntKind.u16 (0), Value.int IntKind.u16 (0)], elem := 0, fields := [(0, 1, false), (1, 1, false)], fok := true, zok := true } := by kernel_rfl
theorem ti86 : tiOf Tryz.prog 86 = some { sh := Sh.strct, agg := true, size := 4, bytes := 48, zero := [Value.int IntKind.i64 (0), Value.int IntKind.u32 (0), str [], str []], elem := 0, fields := [(0, 1, false), (1, 1, false), (2, 1, false), (3, 1, false)], fok := true, zok := true } := by kernel_rfl
theorem ti91 : tiOf Tryz.prog 91 = some { sh := Sh.strct, agg := true, size := 0, bytes := 0, zero := [], elem := 0, fields := [], fok := true, zok := true } := by kernel_rfl
theorem ti95 : tiOf Tryz.prog 95 = some { sh := Sh.slice, agg := false, size := 1, bytes := 24, zero := [Value.slice none 0 0], elem := 5, fields := [], fok := true, zok := true } := by kernel_rfl
theorem ti97 : tiOf Tryz.prog 97 = some { sh := Sh.strct, agg := true, size := 1, bytes := 24, zero := [Value.slice none 0 0], elem := 0, fields := [(0, 1, false)], fok := true, zok := true } := by kernel_rfl
theorem ti136 : tiOf Tryz.prog 136 = some { sh := Sh.slice, agg := false, size := 1, bytes := 24, zero := [Value.slice none 0 0], elem := 20, fields := [], fok := true, zok := true } := by kernel_rfl
theorem ti138 : tiOf Tryz.prog 138 = some { sh := Sh.slice, agg := false, size := 1, bytes := 24, zero := [Value.slice none 0 0], elem := 3, fields := [], fok := true, zok := true } := by kernel_rfl
theorem ti140 : tiOf Tryz.prog 140 = some { sh := Sh.slice, agg := false, size := 1, bytes := 24, zero := [Value.slice none 0 0], elem := 9, fields := [], fok := true, zok := true } := by kernel_rfl
theorem ti141 : tiOf Tryz.prog 141 = some { sh := Sh.int IntKind.i16, agg := false, size := 1, bytes := 2, zero := [Value.int IntKind.i16 (0)], elem := 0, fields := [], fok := true, zok := true } := by kernel_rfl
theorem ti145 : tiOf Tryz.prog 145 = some { sh := Sh.strct, agg := true, size := 2, bytes := 24, zero := [str [], Value.int IntKind.i64 (0)], elem := 0, fields := [(0, 1, false), (1, 1, false)], fok := true, zok := true } := by kernel_rfl
theorem ti152 : tiOf Tryz.prog 152 = some { sh := Sh.strct, agg := true, size := 7, bytes := 40, zero := [Value.int IntKind.u32 (0), Value.int IntKind.i64 (0), Value.int IntKind.i64 (0), Value.int IntKind.u32 (0), Value.int IntKind.u32 (0), Value.int IntKind.u32 (0), Value.int IntKind.u32 (0)], elem := 0, fields := [(0, 1, false), (1, 1, false), (2, 1, false), (3, 1, false), (4, 1, false), (5, 1, false), (6, 1, false)], fok := true, zok := true } := by kernel_rfl
theorem ti157 : tiOf Tryz.prog 157 = some { sh := Sh.strct, agg := true, size := 8, bytes := 48, zero := [Value.int IntKind.i64 (0), Value.int IntKind.i64 (0), Value.int IntKind.i64 (0), Value.int IntKind.u32 (0), Value.int IntKind.u32 (0), Value.int IntKind.u32 (0), Value.int IntKind.u32 (0), Value.int IntKind.u32 (0)], elem := 0, fields := [(0, 1, false), (1, 1, false), (2, 1, false), (3, 1, false), (4, 1, false), (5, 1, false), (6, 1, false), (7, 1, false)], fok := true, zok := true } := by kernel_rfl
theorem ti160 : tiOf Tryz.prog 160 = some { sh := Sh.strct, agg := true, size := 3, bytes := 24, zero := [Value.int IntKind.i64 (0), Value.bool false, Value.int IntKind.i64 (0)], elem := 0, fields := [(0, 1, false), (1, 1, false), (2, 1, false)], fok := true, zok := true } := by kernel_rfl
theorem mo69 : mapOf Tryz.prog 69 = some (40, 4) := by kernel_rfl
theorem zo4 : zeroOf Tryz.prog 4 = some (Value.bool false) := by kernel_rfl
theorem mo90 : mapOf Tryz.prog 90 = some (40, 91) := by kernel_rfl
theorem zo91 : zeroOf Tryz.prog 91 = some (.agg #[]) := by kernel_rfl
attribute [go_sem] ti3 ti4 ti5 ti9 ti20 ti22 ti24 ti25 ti27 ti28 ti29 ti30 ti32 ti33 ti35 ti36 ti38 ti40 ti41 ti42 ti43 ti44 ti45 ti46 ti48 ti50 ti53 ti56 ti57 ti59 ti60 ti67 ti69 ti76 ti86 ti91 ti95 ti97 ti136 ti138 ti140 ti141 ti145 ti152 ti157 ti160 mo69 zo4 mo90 zo91
/-- What is left, held. -/
structure Hd_ (q : Prop) : Prop where
  out : q
theorem ex0 {p : Prop} (h : p := by simp (decide := true) (disch := omega) only [go_sem, ↓reduceIte, ↓put_at]; done) : p := h
theorem ex1 {p : Prop} (h : p := by simp (decide := true) (disch := omega) only [go_sem, ↓reduceIte, ↓put_at]; first | done | assumption | omega) : p := h
/-- A step of a walk. -/
theorem sp_ {p q : Prop} (k : q) (h : Hd_ q → p := by intro k; (first | refine aw_seq ?_ | refine aw_block ?_ | refine aw_reg hC (by kernel_rfl) ?_ | refine aw_regd hC Tryz.checked.mixed (by kernel_rfl) ?_ | refine chk_and (by kernel_rfl) ?_ | refine aw_skip ?_ | refine aw_if ?_ | refine And.intro (by first | omega | with_reducible assumption) ?_ | refine aw_exit ?_ | refine aw_ret ?_ | (simp (decide := true) (disch := omega) only [go_sem, ↓reduceIte, ↓put_at])); exact k.out; done) : p := h ⟨k⟩
end Go.Proofs.YtbnnfmleoebelaaGreat

namespace Go.Proofs.YtbnnfmleoebelaaGreat
set_option linter.unusedVariables false
set_option linter.unusedSimpArgs false

/-- A whole number in so many bytes, the highest first (two's complement below 0). -/
def putZ (n : Int) : Nat → List UInt8
  | 0 => []
  | k + 1 => UInt8.ofNat ((n / 256 ^ k) % 256).toNat :: putZ n k
/-- The number that bytes are. -/
def getN (l : List UInt8) : Nat := l.foldl (fun n b => 256 * n + b.toNat) 0

theorem putZ_length (n : Int) (k : Nat) : (putZ n k).length = k := by
  induction k with
  | zero => rfl
  | succ k ih => simp [putZ, ih]
theorem getN_snoc (l : List UInt8) (b : UInt8) : getN (l ++ [b]) = 256 * getN l + b.toNat := by
  unfold getN; rw [List.foldl_append]; rfl
theorem getN_foldl (l : List UInt8) (a : Nat) : l.foldl (fun n b => 256 * n + b.toNat) a = a * 256 ^ l.length + getN l := by
  induction l generalizing a with
  | nil => simp [getN]
  | cons b l ih =>
    unfold getN
    simp only [List.foldl_cons, List.length_cons]
    rw [ih, ih (256 * 0 + b.toNat), Nat.pow_succ]
    simp only [Nat.mul_zero, Nat.zero_add, Nat.add_mul]
    rw [Nat.mul_comm (256 ^ l.length) 256, ← Nat.mul_assoc, Nat.mul_comm a 256, Nat.add_assoc]
theorem getN_cons (b : UInt8) (l : List UInt8) : getN (b :: l) = b.toNat * 256 ^ l.length + getN l := by
  have := getN_foldl l (256 * 0 + b.toNat)
  unfold getN at *
  simpa using this
theorem getN_lt (l : List UInt8) : getN l < 256 ^ l.length := by
  induction l with
  | nil => simp [getN]
  | cons b l ih =>
    rw [getN_cons, List.length_cons, Nat.pow_succ]
    have := b.toNat_lt
    have h : b.toNat * 256 ^ l.length ≤ 255 * 256 ^ l.length := Nat.mul_le_mul_right _ (by omega)
    omega
theorem toNat_byte (x : Int) : (UInt8.ofNat (x % 256).toNat).toNat = (x % 256).toNat := by
  rw [UInt8.toNat_ofNat']
  have h1 := Int.emod_nonneg x (show (256 : Int) ≠ 0 by decide)
  have h2 := Int.emod_lt_of_pos x (show (0 : Int) < 256 by decide)
  exact Nat.mod_eq_of_lt (by omega)
theorem pow_cast (k : Nat) : ((256 ^ k : Nat) : Int) = (256 : Int) ^ k := by simp [Int.natCast_pow]
theorem pow_pos' (k : Nat) : (0 : Int) < 256 ^ k := Int.pow_pos (by decide)
/-- What was written is read again, as far as the bytes go. -/
theorem getN_putZ (n : Int) (k : Nat) : (getN (putZ n k) : Int) = n % 256 ^ k := by
  induction k with
  | zero => simp [putZ, getN, Int.emod_one]
  | succ k ih =>
    rw [putZ, getN_cons, putZ_length, Int.natCast_add, Int.natCast_mul, ih, toNat_byte, pow_cast, Int.pow_succ]
    have h1 := Int.emod_nonneg (n / 256 ^ k) (show (256 : Int) ≠ 0 by decide)
    rw [Int.toNat_of_nonneg h1]
    have hp := pow_pos' k
    have e1 := Int.emod_add_mul_ediv n (256 ^ k)
    have e2 := Int.emod_add_mul_ediv (n / 256 ^ k) 256
    have hd : n / (256 ^ k * 256) = n / 256 ^ k / 256 := by rw [Int.ediv_ediv_of_nonneg (by omega)]
    have e3 := Int.emod_add_mul_ediv n (256 ^ k * 256)
    rw [hd] at e3
    have e4 : (256 : Int) ^ k * 256 * (n / 256 ^ k / 256) = 256 ^ k * (256 * (n / 256 ^ k / 256)) := by rw [Int.mul_assoc]
    have e5 : (256 : Int) ^ k * (n / 256 ^ k) = 256 ^ k * (n / 256 ^ k % 256) + 256 ^ k * (256 * (n / 256 ^ k / 256)) := by
      rw [← Int.mul_add, e2]
    rw [Int.mul_comm (n / 256 ^ k % 256)]
    omega
theorem putZ_mod (n : Int) (k m : Nat) (h : k ≤ m) : putZ (n % 256 ^ m) k = putZ n k := by
  induction k with
  | zero => rfl
  | succ k ih =>
    have ih := ih (by omega)
    unfold putZ
    rw [ih]
    congr 3
    obtain ⟨j, rfl⟩ : ∃ j, m = k + 1 + j := ⟨m - (k + 1), by omega⟩
    have hp := pow_pos' k
    have e : (256 : Int) ^ (k + 1 + j) = 256 ^ k * (256 * 256 ^ j) := by rw [Int.pow_add, Int.pow_succ, Int.mul_assoc]
    have h1 := Int.emod_add_mul_ediv n (256 ^ (k + 1 + j))
    rw [e] at h1 ⊢
    have h2 : n / 256 ^ k = n % (256 ^ k * (256 * 256 ^ j)) / 256 ^ k + 256 * 256 ^ j * (n / (256 ^ k * (256 * 256 ^ j))) := by
      conv => lhs; rw [← h1]
      rw [Int.mul_assoc (256 ^ k), Int.add_mul_ediv_left _ _ (by omega)]
    rw [h2, Int.mul_assoc 256, Int.add_mul_emod_self_left]
theorem putZ_getN (l : List UInt8) : putZ (getN l) l.length = l := by
  induction l with
  | nil => rfl
  | cons b l ih =>
    rw [List.length_cons, putZ]
    have hlt := getN_lt l
    have hb := b.toNat_lt
    have hp : 0 < 256 ^ l.length := Nat.pow_pos (by omega)
    have e1 : ((getN (b :: l) : Nat) : Int) / 256 ^ l.length = b.toNat := by
      rw [← pow_cast, ← Int.natCast_ediv, getN_cons, Nat.mul_comm, Nat.mul_add_div hp, Nat.div_eq_of_lt hlt, Nat.add_zero]
    have e2 : putZ (getN (b :: l)) l.length = putZ (getN l) l.length := by
      rw [← putZ_mod _ l.length l.length (Nat.le_refl _), ← pow_cast, ← Int.natCast_emod, getN_cons]
      rw [Nat.add_comm, Nat.add_mul_mod_self_right, Nat.mod_eq_of_lt hlt]
    rw [e1, e2, ih]
    congr 1
    have : ((b.toNat : Int) % 256).toNat = b.toNat := by omega
    rw [this]
    exact UInt8.ofNat_toNat
end Go.Proofs.YtbnnfmleoebelaaGreat

