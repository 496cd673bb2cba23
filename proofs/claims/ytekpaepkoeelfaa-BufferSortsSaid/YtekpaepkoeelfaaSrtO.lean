
/- A slice of numbers of 32 bits that comes in, read. -/
import Derived.Test.YtekpaepkoeelfaaRH
import Derived.Deep.Slices
import Derived.Deep.Fields
namespace Go.Proofs.Ytekpaepkoeelfaa
open Go.RowKit Go.ChangeShapes Go.WideShapes Go.Deep
set_option linter.unusedVariables false
set_option linter.unusedSimpArgs false

section
variable {H : Type} {enc : TypeId × Value → H} {w : World} {base : Nat} {spare : Nat → Bool} {held : Bool} {v : Value} {d : Go.DataW H} {p : List MemPlace} {r : Reach} {b0 : Nat}
set_option maxRecDepth 100000 in
set_option maxHeartbeats 8000000 in
theorem open_u32s (hv : Value.okWide Try.prog w r b0 22 v) (h : Go.DataW.Trod enc Try.prog w base spare held 22 v d p) : ∃ xs : List Nat, Rd (cellsOf w) (.lst 1 (xs.map fun t : Nat => [vu t])) v ∧ xs.length ≤ maxLen ∧ ∀ t ∈ xs, t < 4294967296 := by
  obtain ⟨n, x, hx, hr⟩ := open_leaf (by rw [Try.underlying22]; intro fs h; cases h) (by rw [Try.underlying22]; intro n e h; cases h) (by kernel_rfl) hv h
  obtain ⟨es, n', rfl, hl, hes⟩ := leaf_slice (sz := 1) (ls := [32]) Try.underlying22 (by kernel_rfl) (by kernel_rfl) hx
  obtain ⟨xs, rfl, hxs⟩ := list_of (f := fun t : Nat => [vu t]) (Q := fun t => t < 4294967296) fun r hr => by
    obtain ⟨y, _, rfl, hy, hz⟩ := rowv_cons (hes r hr)
    obtain rfl := rowv_nil hz
    obtain ⟨a, rfl, g1, g2⟩ := leaf_u32 Try.underlying32 hy
    exact ⟨a.toNat, by rw [show ((a.toNat : Nat) : Int) = a by omega], by omega⟩
  exact ⟨xs, hr, by simpa using hl, hxs⟩
end
end Go.Proofs.Ytekpaepkoeelfaa
