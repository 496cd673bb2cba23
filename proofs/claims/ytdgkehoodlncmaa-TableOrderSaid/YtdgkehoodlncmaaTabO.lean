
/- Paths that come in, read. -/
import Derived.Test.YtdgkehoodlncmaaTab3
namespace Go.Proofs.Ytdgkehoodlncmaa
open Go.RowKit Go.ChangeShapes Go.WideShapes Go.Deep
set_option linter.unusedVariables false
set_option linter.unusedSimpArgs false

section
variable {H : Type} {enc : TypeId × Value → H} {w : World} {base : Nat} {spare : Nat → Bool} {held : Bool} {v : Value} {d : DataW H} {p : List MemPlace} {r : Reach} {b0 : Nat}
theorem en_of {n : Nat} {xs : List V} (hx : RowV (LeafV Try.prog n) [3, 4, 3] xs) : ∃ x : En, xs = enEl x ∧ True := by
  obtain ⟨x1, _, rfl, h1, hx⟩ := rowv_cons hx
  obtain ⟨x2, _, rfl, h2, hx⟩ := rowv_cons hx
  obtain ⟨x3, _, rfl, h3, hx⟩ := rowv_cons hx
  obtain rfl := rowv_nil hx
  obtain ⟨a, rfl, ha⟩ := leaf_i64 Try.underlying3 h1
  obtain ⟨b, rfl⟩ := leaf_bool Try.underlying4 h2
  obtain ⟨c, rfl, hc⟩ := leaf_i64 Try.underlying3 h3
  exact ⟨⟨a, b, c⟩, rfl, trivial⟩
set_option maxRecDepth 100000 in
theorem open_e16s (hv : Value.okWide Try.prog w r b0 22 v) (h : DataW.Trod enc Try.prog w base spare held 22 v d p) : ∃ xs : List En, Rd (cellsOf w) (.lst 3 (xs.map enEl)) v ∧ xs.length ≤ maxLen := by
  obtain ⟨n, x, hx, hr⟩ := open_leaf (by rw [Try.underlying22]; intro fs h; cases h) (by rw [Try.underlying22]; intro n e h; cases h) (by kernel_rfl) hv h
  obtain ⟨es, n', rfl, hl, hes⟩ := leaf_slice (sz := 3) (ls := [3, 4, 3]) Try.underlying22 (by kernel_rfl) (by kernel_rfl) hx
  obtain ⟨xs, rfl, hxs⟩ := list_of fun r hr => en_of (hes r hr)
  exact ⟨xs, hr, by simpa using hl⟩
end
end Go.Proofs.Ytdgkehoodlncmaa
