
/- Package crc: up, down, one, Rem, Right, Seal. -/
import Derived.Test.YtdkgnlmojmafbaaQPen
import Derived.Test.YtdkgnlmojmafbaaRK
import Derived.Test.YtdkgnlmojmafbaaCrcM2
namespace Go.Proofs.Ytdkgnlmojmafbaa
open Go.RowKit
set_option linter.unusedVariables false
set_option linter.unusedSimpArgs false

def Bv (b : UInt8) (j : Nat) : Nat := b.toNat * 2 ^ j % 256
theorem Bv_succ (b : UInt8) (j : Nat) : Bv b (j + 1) = Bv b j * 2 % 256 := by
  unfold Bv
  rw [Nat.pow_succ, ← Nat.mul_assoc]
  omega
theorem Bv_bit (b : UInt8) (j : Nat) (h : j < 8) : Bv b j / 128 = (b.toNat.testBit (7 - j)).toNat := by
  have hb := b.toNat_lt
  rw [Nat.toNat_testBit]
  unfold Bv
  have : j = 0 ∨ j = 1 ∨ j = 2 ∨ j = 3 ∨ j = 4 ∨ j = 5 ∨ j = 6 ∨ j = 7 := by omega
  rcases this with rfl | rfl | rfl | rfl | rfl | rfl | rfl | rfl <;> omega
theorem bits8_take (b : UInt8) (j : Nat) (h : j < 8) : (bits8 b).take (j + 1) = (bits8 b).take j ++ [b.toNat.testBit (7 - j)] := by
  have : j = 0 ∨ j = 1 ∨ j = 2 ∨ j = 3 ∨ j = 4 ∨ j = 5 ∨ j = 6 ∨ j = 7 := by omega
  rcases this with rfl | rfl | rfl | rfl | rfl | rfl | rfl | rfl <;> rfl
theorem rem_snoc (l : List UInt8) (b : UInt8) : rem (l ++ [b]) = (bits8 b).foldl stepC (rem l) := by
  unfold rem
  rw [bitsL_app]
  unfold remB
  rw [List.foldl_append]
  have : bitsL [b] = bits8 b := by simp [bitsL]
  rw [this]
theorem field_els (r : Nat) (h : r < 4294967296) : [[V.sc (.int .u8 ((r : Int) / 16777216))], [V.sc (.int .u8 (IntKind.u8.wrap ((r : Int) / 65536)))], [V.sc (.int .u8 (IntKind.u8.wrap ((r : Int) / 256)))], [V.sc (.int .u8 (IntKind.u8.wrap (r : Int)))]] = (putZ (r : Int) 4).map byteEl := by
  have e : IntKind.u8.wrap ((r : Int) / 16777216) = (r : Int) / 16777216 := wrap_u8 (by omega) (by omega)
  have h1 := byte_of ((r : Int) / 16777216)
  rw [e] at h1
  rw [h1, byte_of, byte_of, byte_of]
  unfold putZ putZ putZ putZ putZ
  simp
def sealOk (s : List UInt8) (a : Int) : Bool := decide (0 ≤ a ∧ a ≤ (s.length : Int) - 4)
def sealS (s : List UInt8) (a : Int) : List UInt8 := if sealOk s a = true then sealB (s.take a.toNat) (s.drop (a.toNat + 4)) else []
end Go.Proofs.Ytdkgnlmojmafbaa
