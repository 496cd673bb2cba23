
/- Plain mathematics of numbers as bytes, the highest first: no program in sight. -/
import Derived.Below
namespace Go.Proofs.Ytdkgnlmojmafbaa
set_option linter.unusedVariables false
set_option linter.unusedSimpArgs false

/-- A whole number in so many bytes, the highest first (two's complement below 0). -/
def putZ (n : Int) : Nat → List UInt8
  | 0 => []
  | k + 1 => UInt8.ofNat ((n / 256 ^ k) % 256).toNat :: putZ n k
/-- The number that bytes are. -/
def getN (l : List UInt8) : Nat := l.foldl (fun n b => 256 * n + b.toNat) 0

theorem putZ_length (n : Int) (k : Nat) : (putZ n k).length = k := by
  induction k with
  | zero => rfl
  | succ k ih => simp [putZ, ih]
theorem getN_snoc (l : List UInt8) (b : UInt8) : getN (l ++ [b]) = 256 * getN l + b.toNat := by
  unfold getN; rw [List.foldl_append]; rfl
theorem getN_foldl (l : List UInt8) (a : Nat) : l.foldl (fun n b => 256 * n + b.toNat) a = a * 256 ^ l.length + getN l := by
  induction l generalizing a with
  | nil => simp [getN]
  | cons b l ih =>
    unfold getN
    simp only [List.foldl_cons, List.length_cons]
    rw [ih, ih (256 * 0 + b.toNat), Nat.pow_succ]
    simp only [Nat.mul_zero, Nat.zero_add, Nat.add_mul]
    rw [Nat.mul_comm (256 ^ l.length) 256, ← Nat.mul_assoc, Nat.mul_comm a 256, Nat.add_assoc]
theorem getN_cons (b : UInt8) (l : List UInt8) : getN (b :: l) = b.toNat * 256 ^ l.length + getN l := by
  have := getN_foldl l (256 * 0 + b.toNat)
  unfold getN at *
  simpa using this
theorem getN_append (l m : List UInt8) : getN (l ++ m) = getN l * 256 ^ m.length + getN m := by
  unfold getN
  rw [List.foldl_append, getN_foldl]
  rfl
theorem getN_lt (l : List UInt8) : getN l < 256 ^ l.length := by
  induction l with
  | nil => simp [getN]
  | cons b l ih =>
    rw [getN_cons, List.length_cons, Nat.pow_succ]
    have := b.toNat_lt
    have h : b.toNat * 256 ^ l.length ≤ 255 * 256 ^ l.length := Nat.mul_le_mul_right _ (by omega)
    omega
theorem getN_take_le (l : List UInt8) (k : Nat) : getN (l.take k) ≤ getN l := by
  have h := getN_append (l.take k) (l.drop k)
  rw [List.take_append_drop] at h
  have : getN (l.take k) * 1 ≤ getN (l.take k) * 256 ^ (l.drop k).length := Nat.mul_le_mul_left _ (Nat.pow_pos (by omega))
  omega
theorem toNat_byte (x : Int) : (UInt8.ofNat (x % 256).toNat).toNat = (x % 256).toNat := by
  rw [UInt8.toNat_ofNat']
  have h1 := Int.emod_nonneg x (show (256 : Int) ≠ 0 by decide)
  have h2 := Int.emod_lt_of_pos x (show (0 : Int) < 256 by decide)
  exact Nat.mod_eq_of_lt (by omega)
theorem pow_cast (k : Nat) : ((256 ^ k : Nat) : Int) = (256 : Int) ^ k := by simp [Int.natCast_pow]
theorem pow_pos' (k : Nat) : (0 : Int) < 256 ^ k := Int.pow_pos (by decide)
/-- What was written is read again, as far as the bytes go. -/
theorem getN_putZ (n : Int) (k : Nat) : (getN (putZ n k) : Int) = n % 256 ^ k := by
  induction k with
  | zero => simp [putZ, getN, Int.emod_one]
  | succ k ih =>
    rw [putZ, getN_cons, putZ_length, Int.natCast_add, Int.natCast_mul, ih, toNat_byte, pow_cast, Int.pow_succ]
    have h1 := Int.emod_nonneg (n / 256 ^ k) (show (256 : Int) ≠ 0 by decide)
    rw [Int.toNat_of_nonneg h1]
    have hp := pow_pos' k
    have e1 := Int.emod_add_mul_ediv n (256 ^ k)
    have e2 := Int.emod_add_mul_ediv (n / 256 ^ k) 256
    have hd : n / (256 ^ k * 256) = n / 256 ^ k / 256 := by rw [Int.ediv_ediv_of_nonneg (by omega)]
    have e3 := Int.emod_add_mul_ediv n (256 ^ k * 256)
    rw [hd] at e3
    have e4 : (256 : Int) ^ k * 256 * (n / 256 ^ k / 256) = 256 ^ k * (256 * (n / 256 ^ k / 256)) := by rw [Int.mul_assoc]
    have e5 : (256 : Int) ^ k * (n / 256 ^ k) = 256 ^ k * (n / 256 ^ k % 256) + 256 ^ k * (256 * (n / 256 ^ k / 256)) := by
      rw [← Int.mul_add, e2]
    rw [Int.mul_comm (n / 256 ^ k % 256)]
    omega
theorem putZ_mod (n : Int) (k m : Nat) (h : k ≤ m) : putZ (n % 256 ^ m) k = putZ n k := by
  induction k with
  | zero => rfl
  | succ k ih =>
    have ih := ih (by omega)
    unfold putZ
    rw [ih]
    congr 3
    obtain ⟨j, rfl⟩ : ∃ j, m = k + 1 + j := ⟨m - (k + 1), by omega⟩
    have hp := pow_pos' k
    have e : (256 : Int) ^ (k + 1 + j) = 256 ^ k * (256 * 256 ^ j) := by rw [Int.pow_add, Int.pow_succ, Int.mul_assoc]
    have h1 := Int.emod_add_mul_ediv n (256 ^ (k + 1 + j))
    rw [e] at h1 ⊢
    have h2 : n / 256 ^ k = n % (256 ^ k * (256 * 256 ^ j)) / 256 ^ k + 256 * 256 ^ j * (n / (256 ^ k * (256 * 256 ^ j))) := by
      conv => lhs; rw [← h1]
      rw [Int.mul_assoc (256 ^ k), Int.add_mul_ediv_left _ _ (by omega)]
    rw [h2, Int.mul_assoc 256, Int.add_mul_emod_self_left]
theorem putZ_getN (l : List UInt8) : putZ (getN l) l.length = l := by
  induction l with
  | nil => rfl
  | cons b l ih =>
    rw [List.length_cons, putZ]
    have hlt := getN_lt l
    have hb := b.toNat_lt
    have hp : 0 < 256 ^ l.length := Nat.pow_pos (by omega)
    have e1 : ((getN (b :: l) : Nat) : Int) / 256 ^ l.length = b.toNat := by
      rw [← pow_cast, ← Int.natCast_ediv, getN_cons, Nat.mul_comm, Nat.mul_add_div hp, Nat.div_eq_of_lt hlt, Nat.add_zero]
    have e2 : putZ (getN (b :: l)) l.length = putZ (getN l) l.length := by
      rw [← putZ_mod _ l.length l.length (Nat.le_refl _), ← pow_cast, ← Int.natCast_emod, getN_cons]
      rw [Nat.add_comm, Nat.add_mul_mod_self_right, Nat.mod_eq_of_lt hlt]
    rw [e1, e2, ih]
    congr 1
    have : ((b.toNat : Int) % 256).toNat = b.toNat := by omega
    rw [this]
    exact UInt8.ofNat_toNat
end Go.Proofs.Ytdkgnlmojmafbaa
