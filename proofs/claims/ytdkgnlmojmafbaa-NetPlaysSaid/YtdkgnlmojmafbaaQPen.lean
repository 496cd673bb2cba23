
/- Package pen, by abstract values. -/
import Derived.Test.YtdkgnlmojmafbaaRE
import Derived.Test.YtdkgnlmojmafbaaTi
import Derived.Test.YtdkgnlmojmafbaaByte
namespace Go.Proofs.Ytdkgnlmojmafbaa
open Go.RowKit
set_option linter.unusedVariables false
set_option linter.unusedSimpArgs false

/-- What an In holds. -/
abbrev inO (l : List UInt8) (e : Int) : List CA := [.val (vs l), .val (vi e)]
/-- What an Out holds. -/
abbrev outO (l : List UInt8) : List CA := [.own 5 1 (l.map byteEl)]
def failL (l : List UInt8) (e f : Int) : List UInt8 := if e = 0 ∧ f ≠ 0 then [] else l
def failE (e f : Int) : Int := if e = 0 ∧ f ≠ 0 then f else e
def rawT (l : List UInt8) (n : Int) : List UInt8 := if n ≤ l.length then l.take n.toNat else []
def rawL (l : List UInt8) (e n : Int) : List UInt8 := if n ≤ l.length then l.drop n.toNat else failL l e 2
def rawE (l : List UInt8) (e n : Int) : Int := if n ≤ l.length then e else failE e 2
def endE (l : List UInt8) (e : Int) : Int := if l = [] then e else 1

theorem raw_lt (l : List UInt8) (k m : Nat) (h : 256 ^ k = m) : (getN (rawT l k) : Int) < m := by
  have h1 := getN_lt (rawT l k)
  have h2 : (rawT l k).length ≤ k := by unfold rawT; split <;> simp <;> omega
  have h3 : 256 ^ (rawT l k).length ≤ 256 ^ k := Nat.pow_le_pow_right (by decide) h2
  omega
/-! ### Out -/
theorem putZ_snoc (n : Int) (p : List UInt8) (a k : Nat) (h : p ++ putZ n (a + 1) = putZ n k) : (p ++ [UInt8.ofNat ((n / 256 ^ a) % 256).toNat]) ++ putZ n a = putZ n k := by
  rw [← h, List.append_assoc]; rfl
/-- Whole numbers as elements. -/
def intEl (n : Int) : List V := [.sc (.int .i64 n)]
def u32El (n : Int) : List V := [.sc (.int .u32 n)]
def puts' (k : Nat) (ns : List Int) : List UInt8 := ns.flatMap (putZ · k)
attribute [go_sem] intEl u32El
theorem putZ_mod' (n : Int) (k : Nat) (hk : k ≤ 4) : putZ (n % 4294967296) k = putZ n k := putZ_mod n k 4 hk
theorem puts'_length (k : Nat) (ns : List Int) : (puts' k ns).length = k * ns.length := by
  unfold puts'
  induction ns with
  | nil => simp
  | cons n ns ih => simp [putZ_length, ih, Nat.mul_add]; omega
theorem puts'_snoc (k : Nat) (ns : List Int) (n : Int) : puts' k (ns ++ [n]) = puts' k ns ++ putZ n k := by simp [puts']
/-- Texts as elements. -/
def strEl (s : List UInt8) : List V := [.sc (str s)]
attribute [go_sem] strEl
theorem flat_take (ss : List (List UInt8)) (j : Nat) : (ss.take j).flatten.length ≤ ss.flatten.length := by
  have h := congrArg (fun l : List (List UInt8) => l.flatten.length) (List.take_append_drop j ss)
  simp only [List.flatten_append, List.length_append] at h
  omega
end Go.Proofs.Ytdkgnlmojmafbaa
