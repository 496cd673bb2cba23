
/- Package piece, by abstract values. -/
import Derived.Test.YtdgkehoodlncmaaQPen
import Derived.Test.YtdgkehoodlncmaaPieceM
namespace Go.Proofs.Ytdgkehoodlncmaa
open Go.RowKit
set_option linter.unusedVariables false
set_option linter.unusedSimpArgs false

abbrev pcV (p : Pc) : V := .agg [vi p.1, vi p.2.1, vs p.2.2]
def pcEl (p : Pc) : List V := [vi p.1, vi p.2.1, vs p.2.2]
attribute [go_sem] pcEl
def kindOk (n : Int) : Bool := decide (192 ≤ n ∧ n ≤ 223)
theorem raw_some (l : List UInt8) (e n : Int) (h : n ≤ l.length) : rawT l n = l.take n.toNat ∧ rawL l e n = l.drop n.toNat ∧ rawE l e n = e := by
  unfold rawT rawL rawE; rw [if_pos h, if_pos h, if_pos h]; exact ⟨rfl, rfl, rfl⟩
theorem raw_nil (e n : Int) (he : e ≠ 0) : rawT [] n = [] ∧ rawL [] e n = [] ∧ rawE [] e n = e := by
  unfold rawT rawL rawE failL failE
  simp [he]
theorem raw_short (l : List UInt8) (n : Int) (h : ¬n ≤ l.length) : rawT l n = [] ∧ rawL l 0 n = [] ∧ rawE l 0 n = 2 := by
  unfold rawT rawL rawE failL failE
  rw [if_neg h, if_neg h, if_neg h]; exact ⟨rfl, rfl, rfl⟩
/-- What one next piece is, what is left, and the first error. -/
def oneP (l : List UInt8) : Pc := if l.length < 4 then (0, 0, []) else ((hdA l % 32 : Nat), (hdK l : Nat), if stepE l = 0 then (l.drop 4).take (4 * hdN l) else [])
def oneL (l : List UInt8) : List UInt8 := if stepE l = 0 then stepR l else []
theorem packs_le (ps : List Pc) (h : ps.all mayP = true) : (ps.flatMap packOne).length ≤ 262144 * ps.length := by
  induction ps with
  | nil => simp
  | cons p ps ih =>
    simp only [List.all_cons, Bool.and_eq_true] at h
    have h1 := ((mayP_iff p).1 h.1).2.2.2.2.2
    have := ih h.2
    simp only [List.flatMap_cons, List.length_append, packOne_length, List.length_cons]
    omega
end Go.Proofs.Ytdgkehoodlncmaa
