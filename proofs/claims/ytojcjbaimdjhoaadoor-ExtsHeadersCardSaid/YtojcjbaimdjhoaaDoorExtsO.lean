
/- Elements that come in, read. -/
import Derived.Test.YtojcjbaimdjhoaaDoorExts6
import Derived.Test.YtojcjbaimdjhoaaDoorRH
namespace Go.Proofs.YtojcjbaimdjhoaaDoor
open Go.RowKit
set_option linter.unusedVariables false
set_option linter.unusedSimpArgs false

section
variable {H : Type} {enc : TypeId × Value → H} {w : World} {base : Nat} {spare : Nat → Bool} {held : Bool} {v : Value} {d : DataW H} {p : List MemPlace} {r : Reach} {b0 : Nat}
theorem e5_of {n : Nat} {xs : List V} (hx : RowV (LeafV Tryd.prog n) [3, 9] xs) : ∃ x : E5, xs = e5El x ∧ x.data.length ≤ maxLen := by
  obtain ⟨x1, _, rfl, h1, hx⟩ := rowv_cons hx
  obtain ⟨x2, _, rfl, h2, hx⟩ := rowv_cons hx
  obtain rfl := rowv_nil hx
  obtain ⟨a, rfl, ha⟩ := leaf_i64 Tryd.underlying3 h1
  obtain ⟨b, rfl, hb⟩ := leaf_str Tryd.underlying9 h2
  exact ⟨⟨a, b⟩, rfl, hb⟩
set_option maxRecDepth 100000 in
theorem open_e5s (hv : Value.okWide Tryd.prog w r b0 28 v) (h : DataW.Trod enc Tryd.prog w base spare held 28 v d p) : ∃ xs : List E5, Rd (cellsOf w) (.lst 2 (xs.map e5El)) v ∧ (∀ x ∈ xs, x.data.length ≤ maxLen) ∧ xs.length ≤ maxLen := by
  obtain ⟨n, x, hx, hr⟩ := open_leaf (by rw [Tryd.underlying28]; intro fs h; cases h) (by rw [Tryd.underlying28]; intro n e h; cases h) (by kernel_rfl) hv h
  obtain ⟨es, n', rfl, hl, hes⟩ := leaf_slice (sz := 2) (ls := [3, 9]) Tryd.underlying28 (by kernel_rfl) (by kernel_rfl) hx
  obtain ⟨xs, rfl, hxs⟩ := list_of fun r hr => e5_of (hes r hr)
  exact ⟨xs, hr, hxs, by simpa using hl⟩
end
end Go.Proofs.YtojcjbaimdjhoaaDoor
