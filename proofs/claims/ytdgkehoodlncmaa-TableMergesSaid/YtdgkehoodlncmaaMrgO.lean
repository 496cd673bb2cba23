
/- Calls of layer 16 that come in, read. -/
import Derived.Test.YtdgkehoodlncmaaMrg7
namespace Go.Proofs.Ytdgkehoodlncmaa
open Go.RowKit Go.ChangeShapes Go.WideShapes Go.Deep
set_option linter.unusedVariables false
set_option linter.unusedSimpArgs false

section
variable {H : Type} {enc : TypeId × Value → H} {w : World} {base : Nat} {spare : Nat → Bool} {held : Bool} {v : Value} {d : DataW H} {p : List MemPlace} {r : Reach} {b0 : Nat}
theorem en_of2 {n : Nat} {xs : List V} (hx : RowV (LeafV Try.prog n) [3, 4, 3] xs) : ∃ x : En, xs = enEl x ∧ True := by
  obtain ⟨x1, _, rfl, h1, hx⟩ := rowv_cons hx
  obtain ⟨x2, _, rfl, h2, hx⟩ := rowv_cons hx
  obtain ⟨x3, _, rfl, h3, hx⟩ := rowv_cons hx
  obtain rfl := rowv_nil hx
  obtain ⟨a, rfl, ha⟩ := leaf_i64 Try.underlying3 h1
  obtain ⟨b, rfl⟩ := leaf_bool Try.underlying4 h2
  obtain ⟨c, rfl, hc⟩ := leaf_i64 Try.underlying3 h3
  exact ⟨⟨a, b, c⟩, rfl, trivial⟩
set_option maxRecDepth 100000 in
theorem act_of {n : Nat} {xs : List V} (hx : RowV (LeafV Try.prog n) [3, 3, 4, 3, 22] xs) : ∃ x : A16, xs = actL x ∧ x.all.length ≤ maxLen := by
  obtain ⟨x1, _, rfl, h1, hx⟩ := rowv_cons hx
  obtain ⟨x2, _, rfl, h2, hx⟩ := rowv_cons hx
  obtain ⟨x3, _, rfl, h3, hx⟩ := rowv_cons hx
  obtain ⟨x4, _, rfl, h4, hx⟩ := rowv_cons hx
  obtain ⟨x5, _, rfl, h5, hx⟩ := rowv_cons hx
  obtain rfl := rowv_nil hx
  obtain ⟨a1, rfl, _⟩ := leaf_i64 Try.underlying3 h1
  obtain ⟨a2, rfl, _⟩ := leaf_i64 Try.underlying3 h2
  obtain ⟨a3, rfl⟩ := leaf_bool Try.underlying4 h3
  obtain ⟨a4, rfl, _⟩ := leaf_i64 Try.underlying3 h4
  obtain ⟨es, n', rfl, hl, hes⟩ := leaf_slice (sz := 3) (ls := [3, 4, 3]) Try.underlying22 (by kernel_rfl) (by kernel_rfl) h5
  obtain ⟨l, rfl, _⟩ := list_of fun r hr => en_of2 (hes r hr)
  exact ⟨⟨a1, ⟨a2, a3, a4⟩, l⟩, rfl, by simpa using hl⟩
set_option maxRecDepth 100000 in
theorem open_acts16 (hv : Value.okWide Try.prog w r b0 59 v) (h : DataW.Trod enc Try.prog w base spare held 59 v d p) : ∃ xs : List A16, Rd (cellsOf w) (.lst 5 (xs.map actL)) v ∧ (∀ x ∈ xs, x.all.length ≤ maxLen) ∧ xs.length ≤ maxLen := by
  obtain ⟨n, x, hx, hr⟩ := open_leaf (by rw [Try.underlying59]; intro fs h; cases h) (by rw [Try.underlying59]; intro n e h; cases h) (by kernel_rfl) hv h
  obtain ⟨es, n', rfl, hl, hes⟩ := leaf_slice (sz := 5) (ls := [3, 3, 4, 3, 22]) Try.underlying59 (by kernel_rfl) (by kernel_rfl) hx
  obtain ⟨xs, rfl, hxs⟩ := list_of (f := actL) (Q := fun x => x.all.length ≤ maxLen) fun r hr => act_of (hes r hr)
  exact ⟨xs, hr, hxs, by simpa using hl⟩
end
end Go.Proofs.Ytdgkehoodlncmaa
