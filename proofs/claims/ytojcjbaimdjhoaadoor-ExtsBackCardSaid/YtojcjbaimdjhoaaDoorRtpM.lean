
/- Packets: the plain law of layer 4. -/
import Derived.Test.YtojcjbaimdjhoaaDoorQIn
namespace Go.Proofs.YtojcjbaimdjhoaaDoor
open Go.RowKit
set_option linter.unusedVariables false
set_option linter.unusedSimpArgs false

structure P4 where
  marker : Bool
  kind : Int
  seq : Int
  time : Int
  src : Int
  others : List Int
  hasExt : Bool
  profile : Int
  ext : List UInt8
  data : List UInt8
  pad : Int
  deriving DecidableEq
def may4 (p : P4) : Bool := decide ((0 ≤ p.kind ∧ p.kind ≤ 127) ∧ p.others.length ≤ 15 ∧ (0 ≤ p.profile ∧ p.profile ≤ 65535) ∧ (0 ≤ p.pad ∧ p.pad ≤ 255) ∧ (if p.hasExt = true then p.ext.length % 4 = 0 ∧ p.ext.length ≤ 262140 else p.profile = 0 ∧ p.ext = []))
theorem may4_iff (p : P4) : may4 p = true ↔ ((0 ≤ p.kind ∧ p.kind ≤ 127) ∧ p.others.length ≤ 15 ∧ (0 ≤ p.profile ∧ p.profile ≤ 65535) ∧ (0 ≤ p.pad ∧ p.pad ≤ 255) ∧ (if p.hasExt = true then p.ext.length % 4 = 0 ∧ p.ext.length ≤ 262140 else p.profile = 0 ∧ p.ext = [])) := by unfold may4; rw [decide_eq_true_eq]
def first4 (p : P4) : Int := 128 + p.others.length + (if p.hasExt = true then 16 else 0) + (if 0 < p.pad then 32 else 0)
def second4 (p : P4) : Int := p.kind + (if p.marker = true then 128 else 0)
def extB (p : P4) : List UInt8 := if p.hasExt = true then puts' 2 [p.profile, ((p.ext.length / 4 : Nat) : Int)] ++ p.ext else []
def tailB (n : Int) : List UInt8 := if 0 < n then List.replicate (n - 1).toNat 0 ++ putZ n 1 else []
def body4 (p : P4) : List UInt8 := puts' 1 [first4 p, second4 p] ++ puts' 2 [p.seq] ++ puts' 4 [p.time, p.src] ++ puts' 4 p.others ++ extB p ++ p.data ++ tailB p.pad
def pack4 (p : P4) : List UInt8 := if may4 p = true then body4 p else []
structure P4.Ok (p : P4) : Prop where
  seq : 0 ≤ p.seq ∧ p.seq < 65536
  time : 0 ≤ p.time ∧ p.time < 4294967296
  src : 0 ≤ p.src ∧ p.src < 4294967296
  others : ∀ n ∈ p.others, 0 ≤ n ∧ n < 4294967296
theorem bit_or16 : ∀ n : Nat, n < 16 → bits .or .i64 (128 + (n : Int)) 16 = 128 + n + 16 := by decide +kernel
theorem bit_or32 : ∀ n : Nat, n < 32 → bits .or .i64 (128 + (n : Int)) 32 = 128 + n + 32 := by decide +kernel
theorem bit_or128 : ∀ n : Nat, n < 128 → bits .or .i64 (n : Int) 128 = n + 128 := by decide +kernel
theorem bit_192 : ∀ n : Nat, n < 256 → bits .and .i64 (n : Int) 192 = 64 * (n / 64 : Nat) := by decide +kernel
theorem bit_128 : ∀ n : Nat, n < 256 → bits .and .i64 (n : Int) 128 = 128 * (n / 128 : Nat) := by decide +kernel
theorem bit_127 : ∀ n : Nat, n < 256 → bits .and .i64 (n : Int) 127 = (n % 128 : Nat) := by decide +kernel
theorem bit_16 : ∀ n : Nat, n < 256 → bits .and .i64 (n : Int) 16 = 16 * (n / 16 % 2 : Nat) := by decide +kernel
theorem bit_15 : ∀ n : Nat, n < 256 → bits .and .i64 (n : Int) 15 = (n % 16 : Nat) := by decide +kernel
theorem bit_32 : ∀ n : Nat, n < 256 → bits .and .i64 (n : Int) 32 = 32 * (n / 32 % 2 : Nat) := by decide +kernel
end Go.Proofs.YtojcjbaimdjhoaaDoor
