
/- What comes into the law NetPlays, read. -/
import Derived.Test.YtdkgnlmojmafbaaNetL
import Derived.Test.YtdkgnlmojmafbaaRH
import Derived.Deep.Slices
import Derived.Deep.Fields
namespace Go.Proofs.Ytdkgnlmojmafbaa
open Go.RowKit Go.ChangeShapes Go.WideShapes Go.Deep
set_option linter.unusedVariables false
set_option linter.unusedSimpArgs false

section
variable {H : Type} {enc : TypeId × Value → H} {w : World} {base : Nat} {spare : Nat → Bool} {held : Bool} {v : Value} {d : DataW H} {p : List MemPlace} {r : Reach} {b0 : Nat}
set_option maxRecDepth 100000 in
set_option maxHeartbeats 8000000 in
theorem act_of28 {n : Nat} {xs : List V} (hx : RowV (LeafV Try.prog n) [3, 3, 3, 3, 3, 38, 9] xs) : ∃ x : A28, xs = aEl x ∧ (x.d.length ≤ maxLen ∧ 0 ≤ x.m ∧ x.m < 4294967296) := by
  obtain ⟨x1, _, rfl, h1, hx⟩ := rowv_cons hx
  obtain ⟨x2, _, rfl, h2, hx⟩ := rowv_cons hx
  obtain ⟨x3, _, rfl, h3, hx⟩ := rowv_cons hx
  obtain ⟨x4, _, rfl, h4, hx⟩ := rowv_cons hx
  obtain ⟨x5, _, rfl, h5, hx⟩ := rowv_cons hx
  obtain ⟨x6, _, rfl, h6, hx⟩ := rowv_cons hx
  obtain ⟨x7, _, rfl, h7, hx⟩ := rowv_cons hx
  obtain rfl := rowv_nil hx
  obtain ⟨a1, rfl, _⟩ := leaf_i64 Try.underlying3 h1
  obtain ⟨a2, rfl, _⟩ := leaf_i64 Try.underlying3 h2
  obtain ⟨a3, rfl, _⟩ := leaf_i64 Try.underlying3 h3
  obtain ⟨a4, rfl, _⟩ := leaf_i64 Try.underlying3 h4
  obtain ⟨a5, rfl, _⟩ := leaf_i64 Try.underlying3 h5
  obtain ⟨a6, rfl, g6⟩ := leaf_u32 Try.underlying38 h6
  obtain ⟨a7, rfl, g7⟩ := leaf_str Try.underlying9 h7
  exact ⟨⟨a1, a2, a3, a4, a5, a6, a7⟩, rfl, g7, g6⟩
theorem acts_of28 {n : Nat} {x : V} (hx : LeafV Try.prog n 22 x) : ∃ xs : List A28, x = .lst 7 (xs.map aEl) ∧ (∀ a ∈ xs, a.d.length ≤ maxLen ∧ 0 ≤ a.m ∧ a.m < 4294967296) ∧ xs.length ≤ maxLen := by
  obtain ⟨es, n', rfl, hl, hes⟩ := leaf_slice (sz := 7) (ls := [3, 3, 3, 3, 3, 38, 9]) Try.underlying22 (by kernel_rfl) (by kernel_rfl) hx
  obtain ⟨xs, rfl, hxs⟩ := list_of (f := aEl) (Q := fun x => x.d.length ≤ maxLen ∧ 0 ≤ x.m ∧ x.m < 4294967296) fun r hr => act_of28 (hes r hr)
  exact ⟨xs, rfl, hxs, by simpa using hl⟩
set_option maxRecDepth 100000 in
set_option maxHeartbeats 8000000 in
theorem open_plays28 (hv : Value.okWide Try.prog w r b0 24 v) (h : DataW.Trod enc Try.prog w base spare held 24 v d p) : ∃ (mo bo : Int) (xs ys : List A28), Rd (cellsOf w) (.agg [vi mo, vi bo, .lst 7 (xs.map aEl), .lst 7 (ys.map aEl)]) v ∧
    (∀ a ∈ xs, a.d.length ≤ maxLen ∧ 0 ≤ a.m ∧ a.m < 4294967296) ∧ xs.length ≤ maxLen ∧ (∀ a ∈ ys, a.d.length ≤ maxLen ∧ 0 ≤ a.m ∧ a.m < 4294967296) ∧ ys.length ≤ maxLen := by
  obtain ⟨n, xs, hx, hr⟩ := open_struct (ls := [3, 3, 22, 22]) Try.underlying24 (by kernel_rfl) (by kernel_rfl) hv h
  obtain ⟨x1, _, rfl, h1, hx⟩ := rowv_cons hx
  obtain ⟨x2, _, rfl, h2, hx⟩ := rowv_cons hx
  obtain ⟨x3, _, rfl, h3, hx⟩ := rowv_cons hx
  obtain ⟨x4, _, rfl, h4, hx⟩ := rowv_cons hx
  obtain rfl := rowv_nil hx
  obtain ⟨a1, rfl, _⟩ := leaf_i64 Try.underlying3 h1
  obtain ⟨a2, rfl, _⟩ := leaf_i64 Try.underlying3 h2
  obtain ⟨l3, rfl, g3, k3⟩ := acts_of28 h3
  obtain ⟨l4, rfl, g4, k4⟩ := acts_of28 h4
  exact ⟨a1, a2, l3, l4, hr, g3, k3, g4, k4⟩
end
end Go.Proofs.Ytdkgnlmojmafbaa
