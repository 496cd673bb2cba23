
/- Lists of texts that come in, read. -/
import Derived.Test.YtdgkehoodlncmaaNetL
import Derived.Test.YtdgkehoodlncmaaRH
import Derived.Deep.Slices
import Derived.Deep.Fields
namespace Go.Proofs.Ytdgkehoodlncmaa
open Go.RowKit Go.ChangeShapes Go.WideShapes Go.Deep
set_option linter.unusedVariables false
set_option linter.unusedSimpArgs false

section
variable {H : Type} {enc : TypeId × Value → H} {w : World} {base : Nat} {spare : Nat → Bool} {held : Bool} {v : Value} {d : DataW H} {p : List MemPlace} {r : Reach} {b0 : Nat}
set_option maxRecDepth 100000 in
set_option maxHeartbeats 8000000 in
theorem open_texts (hv : Value.okWide Try.prog w r b0 112 v) (h : DataW.Trod enc Try.prog w base spare held 112 v d p) : ∃ xs : List (List UInt8), Rd (cellsOf w) (.lst 1 (xs.map fun s => [vs s])) v ∧ xs.length ≤ maxLen ∧ ∀ s ∈ xs, s.length ≤ maxLen := by
  obtain ⟨n, x, hx, hr⟩ := open_leaf (by rw [Try.underlying112]; intro fs h; cases h) (by rw [Try.underlying112]; intro n e h; cases h) (by kernel_rfl) hv h
  obtain ⟨es, n', rfl, hl, hes⟩ := leaf_slice (sz := 1) (ls := [9]) Try.underlying112 (by kernel_rfl) (by kernel_rfl) hx
  obtain ⟨xs, rfl, hxs⟩ := list_of (f := fun s => [vs s]) (Q := fun s => s.length ≤ maxLen) fun r hr => by
    obtain ⟨y, _, rfl, g1, g2⟩ := rowv_cons (hes r hr)
    obtain rfl := rowv_nil g2
    obtain ⟨m, rfl, hm⟩ := leaf_str Try.underlying9 g1
    exact ⟨m, rfl, hm⟩
  exact ⟨xs, hr, by simpa using hl, hxs⟩
end
end Go.Proofs.Ytdgkehoodlncmaa
