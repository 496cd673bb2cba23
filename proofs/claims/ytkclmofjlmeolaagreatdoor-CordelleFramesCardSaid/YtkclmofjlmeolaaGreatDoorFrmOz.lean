/- Numbers that come in, read. -/
import Derived.Test.YtkclmofjlmeolaaGreatDoorRLz
import Derived.Deep.Slices
import Derived.Deep.Fields
namespace Go.Proofs.YtkclmofjlmeolaaGreatDoor
open Go.RowKit Go.ChangeShapes Go.WideShapes Go.Deep
set_option linter.unusedVariables false
set_option linter.unusedSimpArgs false

section
variable {H : Type} {enc : TypeId × Value → H} {w : World} {base : Nat} {spare : Nat → Bool} {held : Bool} {v : Value} {d : Go.DataW H} {p : List MemPlace} {r : Reach} {b0 : Nat}
set_option maxRecDepth 100000 in
set_option maxHeartbeats 8000000 in
theorem open_zs (hv : Value.okWide Tryz.prog w r b0 22 v) (h : Go.DataW.Trod enc Tryz.prog w base spare held 22 v d p) : ∃ xs : List Int, Rd (cellsOf w) (.lst 1 (xs.map fun z : Int => [vi z])) v ∧ xs.length ≤ maxLen := by
  obtain ⟨n, x, hx, hr⟩ := open_leaf (by rw [Tryz.underlying22]; intro fs h; cases h) (by rw [Tryz.underlying22]; intro n e h; cases h) (by kernel_rfl) hv h
  obtain ⟨es, n', rfl, hl, hes⟩ := leaf_slice (sz := 1) (ls := [3]) Tryz.underlying22 (by kernel_rfl) (by kernel_rfl) hx
  obtain ⟨xs, rfl, hxs⟩ := list_of (f := fun z : Int => [vi z]) (Q := fun _ => True) fun r hr => by
    obtain ⟨y, _, rfl, g1, g2⟩ := rowv_cons (hes r hr)
    obtain rfl := rowv_nil g2
    obtain ⟨m, rfl, hm⟩ := leaf_i64 Tryz.underlying3 g1
    exact ⟨m, rfl, trivial⟩
  exact ⟨xs, hr, by simpa using hl⟩
end
end Go.Proofs.YtkclmofjlmeolaaGreatDoor

