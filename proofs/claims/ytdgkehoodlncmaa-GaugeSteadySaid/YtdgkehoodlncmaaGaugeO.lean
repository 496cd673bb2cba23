
/- Numbers and rates that come in, read (layer 15). -/
import Derived.Test.YtdgkehoodlncmaaGauge5
namespace Go.Proofs.Ytdgkehoodlncmaa
open Go.RowKit Go.ChangeShapes Go.WideShapes Go.Deep
set_option linter.unusedVariables false
set_option linter.unusedSimpArgs false

section
variable {H : Type} {enc : TypeId × Value → H} {w : World} {base : Nat} {spare : Nat → Bool} {held : Bool} {v : Value} {d : DataW H} {p : List MemPlace} {r : Reach} {b0 : Nat}
set_option maxRecDepth 100000 in
theorem open_ns (hv : Value.okWide Try.prog w r b0 37 v) (h : DataW.Trod enc Try.prog w base spare held 37 v d p) : ∃ xs : List Int, Rd (cellsOf w) (.lst 1 (xs.map nEl)) v ∧ xs.length ≤ maxLen := by
  obtain ⟨n, x, hx, hr⟩ := open_leaf (by rw [Try.underlying37]; intro fs h; cases h) (by rw [Try.underlying37]; intro n e h; cases h) (by kernel_rfl) hv h
  obtain ⟨es, n', rfl, hl, hes⟩ := leaf_slice (sz := 1) (ls := [3]) Try.underlying37 (by kernel_rfl) (by kernel_rfl) hx
  obtain ⟨xs, rfl, hxs⟩ := list_of (f := nEl) (Q := fun _ => True) fun r hr => by
    obtain ⟨y, _, rfl, g1, g2⟩ := rowv_cons (hes r hr)
    obtain rfl := rowv_nil g2
    obtain ⟨m, rfl, hm⟩ := leaf_i64 Try.underlying3 g1
    exact ⟨m, rfl, trivial⟩
  exact ⟨xs, hr, by simpa using hl⟩
set_option maxRecDepth 100000 in
theorem open_r15 (hv : Value.okWide Try.prog w r b0 88 v) (h : DataW.Trod enc Try.prog w base spare held 88 v d p) : ∃ x : R15, Rd (cellsOf w) (.agg (rL15 x)) v := by
  obtain ⟨n, xs, hx, hr⟩ := open_struct (ls := [3, 3, 3]) Try.underlying88 (by kernel_rfl) (by kernel_rfl) hv h
  obtain ⟨x1, _, rfl, h1, hx⟩ := rowv_cons hx
  obtain ⟨x2, _, rfl, h2, hx⟩ := rowv_cons hx
  obtain ⟨x3, _, rfl, h3, hx⟩ := rowv_cons hx
  obtain rfl := rowv_nil hx
  obtain ⟨a, rfl, ha⟩ := leaf_i64 Try.underlying3 h1
  obtain ⟨b, rfl, hb⟩ := leaf_i64 Try.underlying3 h2
  obtain ⟨c, rfl, hc⟩ := leaf_i64 Try.underlying3 h3
  exact ⟨⟨a, b, c⟩, hr⟩
end
end Go.Proofs.Ytdgkehoodlncmaa
