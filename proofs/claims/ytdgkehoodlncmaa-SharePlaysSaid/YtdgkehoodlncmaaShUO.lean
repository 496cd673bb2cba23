
/- Calls of layer 18 that come in, read. -/
import Derived.Test.YtdgkehoodlncmaaShU
namespace Go.Proofs.Ytdgkehoodlncmaa
open Go.RowKit Go.ChangeShapes Go.WideShapes Go.Deep
set_option linter.unusedVariables false
set_option linter.unusedSimpArgs false

section
variable {H : Type} {enc : TypeId × Value → H} {w : World} {base : Nat} {spare : Nat → Bool} {held : Bool} {v : Value} {d : DataW H} {p : List MemPlace} {r : Reach} {b0 : Nat}
theorem wt_of2 {n : Nat} {xs : List V} (hx : RowV (LeafV Try.prog n) [3, 3] xs) : ∃ x : Wt, xs = wtEl x ∧ True := by
  obtain ⟨x1, _, rfl, h1, hx⟩ := rowv_cons hx
  obtain ⟨x2, _, rfl, h2, hx⟩ := rowv_cons hx
  obtain rfl := rowv_nil hx
  obtain ⟨a, rfl, _⟩ := leaf_i64 Try.underlying3 h1
  obtain ⟨b, rfl, _⟩ := leaf_i64 Try.underlying3 h2
  exact ⟨⟨a, b⟩, rfl, trivial⟩
theorem int_of2 {n : Nat} {xs : List V} (hx : RowV (LeafV Try.prog n) [3] xs) : ∃ x : Int, xs = iRow x ∧ True := by
  obtain ⟨x1, _, rfl, h1, hx⟩ := rowv_cons hx
  obtain rfl := rowv_nil hx
  obtain ⟨a, rfl, _⟩ := leaf_i64 Try.underlying3 h1
  exact ⟨a, rfl, trivial⟩
set_option maxRecDepth 100000 in
theorem act_of18 {n : Nat} {xs : List V} (hx : RowV (LeafV Try.prog n) [3, 3, 3, 54, 37] xs) : ∃ x : A18, xs = act18 x ∧ (x.ws.length ≤ maxLen ∧ x.may.length ≤ maxLen) := by
  obtain ⟨x1, _, rfl, h1, hx⟩ := rowv_cons hx
  obtain ⟨x2, _, rfl, h2, hx⟩ := rowv_cons hx
  obtain ⟨x3, _, rfl, h3, hx⟩ := rowv_cons hx
  obtain ⟨x4, _, rfl, h4, hx⟩ := rowv_cons hx
  obtain ⟨x5, _, rfl, h5, hx⟩ := rowv_cons hx
  obtain rfl := rowv_nil hx
  obtain ⟨a1, rfl, _⟩ := leaf_i64 Try.underlying3 h1
  obtain ⟨a2, rfl, _⟩ := leaf_i64 Try.underlying3 h2
  obtain ⟨a3, rfl, _⟩ := leaf_i64 Try.underlying3 h3
  obtain ⟨es, n', rfl, hl, hes⟩ := leaf_slice (sz := 2) (ls := [3, 3]) Try.underlying54 (by kernel_rfl) (by kernel_rfl) h4
  obtain ⟨l, rfl, _⟩ := list_of fun r hr => wt_of2 (hes r hr)
  obtain ⟨es2, n2, rfl, hl2, hes2⟩ := leaf_slice (sz := 1) (ls := [3]) Try.underlying37 (by kernel_rfl) (by kernel_rfl) h5
  obtain ⟨l2, rfl, _⟩ := list_of fun r hr => int_of2 (hes2 r hr)
  exact ⟨⟨a1, a2, a3, l, l2⟩, rfl, by simpa using hl, by simpa using hl2⟩
set_option maxRecDepth 100000 in
theorem open_acts18 (hv : Value.okWide Try.prog w r b0 50 v) (h : DataW.Trod enc Try.prog w base spare held 50 v d p) : ∃ xs : List A18, Rd (cellsOf w) (.lst 5 (xs.map act18)) v ∧ (∀ x ∈ xs, x.ws.length ≤ maxLen ∧ x.may.length ≤ maxLen) ∧ xs.length ≤ maxLen := by
  obtain ⟨n, x, hx, hr⟩ := open_leaf (by rw [Try.underlying50]; intro fs h; cases h) (by rw [Try.underlying50]; intro n e h; cases h) (by kernel_rfl) hv h
  obtain ⟨es, n', rfl, hl, hes⟩ := leaf_slice (sz := 5) (ls := [3, 3, 3, 54, 37]) Try.underlying50 (by kernel_rfl) (by kernel_rfl) hx
  obtain ⟨xs, rfl, hxs⟩ := list_of (f := act18) (Q := fun x => x.ws.length ≤ maxLen ∧ x.may.length ≤ maxLen) fun r hr => act_of18 (hes r hr)
  exact ⟨xs, hr, hxs, by simpa using hl⟩
end
end Go.Proofs.Ytdgkehoodlncmaa
