
/- Names, goodbyes and words of applications: the plain law of layer 9. -/
import Derived.Test.YtlhkhncdnaibgaaQIn
import Derived.Test.YtlhkhncdnaibgaaPieceM
namespace Go.Proofs.Ytlhkhncdnaibgaa
open Go.RowKit
set_option linter.unusedVariables false
set_option linter.unusedSimpArgs false

def zer (k : Nat) : List UInt8 := List.replicate k 0
/-- How many bytes 0 are laid behind n bytes: at least so many, and up to a multiple of 4. -/
def padN (n least : Nat) : Nat := least + (4 - (n + least) % 4) % 4
theorem padN_mod (n m least : Nat) (h : n % 4 = m % 4) : padN n least = padN m least := by unfold padN; omega
theorem padN_sum (n least : Nat) : (n + padN n least) % 4 = 0 := by unfold padN; omega
theorem zer_len (k : Nat) : (zer k).length = k := List.length_replicate ..
/-- Bytes 0 up to a multiple of 4. -/
def fillB (s : List UInt8) : List UInt8 := s ++ zer (padN s.length 0)
theorem fillB_len (s : List UInt8) : (fillB s).length % 4 = 0 := by unfold fillB; rw [List.length_append, zer_len]; exact padN_sum _ _
/-- Who a source is. -/
structure N9 where
  src : Int
  text : List UInt8
  deriving DecidableEq
def mayN (x : N9) : Bool := decide (1 ≤ x.text.length ∧ x.text.length ≤ 255)
def itemB (x : N9) : List UInt8 := puts' 4 [x.src] ++ puts' 1 [1, (x.text.length : Int)] ++ x.text ++ zer (padN (6 + x.text.length) 1)
theorem itemB_len (x : N9) : (itemB x).length = 6 + x.text.length + padN (6 + x.text.length) 1 := by
  unfold itemB
  simp only [List.length_append, puts'_length, zer_len, List.length_cons, List.length_nil]
theorem itemB_mod (x : N9) : (itemB x).length % 4 = 0 := by rw [itemB_len]; exact padN_sum _ _
def namesP (l : List N9) : Pc := if l.length ≤ 31 ∧ l.all mayN = true then ((l.length : Int), 202, l.flatMap itemB) else (0, 0, [])
theorem items_mod (l : List N9) : (l.flatMap itemB).length % 4 = 0 := by
  induction l with
  | nil => rfl
  | cons x l ih =>
    have := itemB_mod x
    rw [List.flatMap_cons, List.length_append]
    omega
theorem items_le (l : List N9) (h : l.all mayN = true) : (l.flatMap itemB).length ≤ 300 * l.length := by
  induction l with
  | nil => simp
  | cons x l ih =>
    simp only [List.all_cons, Bool.and_eq_true] at h
    have h1 := h.1
    unfold mayN at h1
    rw [decide_eq_true_eq] at h1
    have h2 := itemB_len x
    have h3 : padN (6 + x.text.length) 1 ≤ 4 := by unfold padN; omega
    have := ih h.2
    rw [List.flatMap_cons, List.length_append, List.length_cons]
    omega
/-- Who goes. -/
structure Y9 where
  reason : List UInt8
  srcs : List Int
  deriving DecidableEq
def mayY (b : Y9) : Bool := decide (b.srcs.length ≤ 31 ∧ b.reason.length ≤ 255)
def reasonB (r : List UInt8) : List UInt8 := if r = [] then [] else puts' 1 [(r.length : Int)] ++ r ++ zer (padN (1 + r.length) 0)
def byeP (b : Y9) : Pc := if mayY b = true then ((b.srcs.length : Int), 203, puts' 4 b.srcs ++ reasonB b.reason) else (0, 0, [])
/-- What an application says. -/
structure A9 where
  sub : Int
  src : Int
  name : List UInt8
  data : List UInt8
  deriving DecidableEq
def mayA (a : A9) : Bool := decide (0 ≤ a.sub ∧ a.sub ≤ 31 ∧ a.name.length = 4 ∧ a.data.length % 4 = 0 ∧ a.data.length ≤ 1024)
def appP (a : A9) : Pc := if mayA a = true then (a.sub, 204, puts' 4 [a.src] ++ a.name ++ a.data) else (0, 0, [])
end Go.Proofs.Ytlhkhncdnaibgaa
