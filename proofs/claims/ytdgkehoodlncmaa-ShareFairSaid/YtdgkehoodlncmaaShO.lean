
/- Numbers that come in, read (layer 18). -/
import Derived.Test.YtdgkehoodlncmaaSh5
namespace Go.Proofs.Ytdgkehoodlncmaa
open Go.RowKit Go.ChangeShapes Go.WideShapes Go.Deep
set_option linter.unusedVariables false
set_option linter.unusedSimpArgs false

section
variable {H : Type} {enc : TypeId × Value → H} {w : World} {base : Nat} {spare : Nat → Bool} {held : Bool} {v : Value} {d : DataW H} {p : List MemPlace} {r : Reach} {b0 : Nat}
set_option maxRecDepth 100000 in
theorem open_is (hv : Value.okWide Try.prog w r b0 37 v) (h : DataW.Trod enc Try.prog w base spare held 37 v d p) : ∃ xs : List Int, Rd (cellsOf w) (.lst 1 (xs.map iRow)) v ∧ xs.length ≤ maxLen := by
  obtain ⟨n, x, hx, hr⟩ := open_leaf (by rw [Try.underlying37]; intro fs h; cases h) (by rw [Try.underlying37]; intro n e h; cases h) (by kernel_rfl) hv h
  obtain ⟨es, n', rfl, hl, hes⟩ := leaf_slice (sz := 1) (ls := [3]) Try.underlying37 (by kernel_rfl) (by kernel_rfl) hx
  obtain ⟨xs, rfl, hxs⟩ := list_of (f := iRow) (Q := fun _ => True) fun r hr => by
    obtain ⟨y, _, rfl, g1, g2⟩ := rowv_cons (hes r hr)
    obtain rfl := rowv_nil g2
    obtain ⟨m, rfl, hm⟩ := leaf_i64 Try.underlying3 g1
    exact ⟨m, rfl, trivial⟩
  exact ⟨xs, hr, by simpa using hl⟩
end
end Go.Proofs.Ytdgkehoodlncmaa
