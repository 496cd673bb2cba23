
/- What comes into the statements of layer 24, read. -/
import Derived.Test.YtekpaepkoeelfaaLaw3
import Derived.Test.YtekpaepkoeelfaaRH
import Derived.Deep.Slices
import Derived.Deep.Fields
namespace Go.Proofs.Ytekpaepkoeelfaa
open Go.RowKit Go.ChangeShapes Go.WideShapes Go.Deep
set_option linter.unusedVariables false
set_option linter.unusedSimpArgs false

section
variable {H : Type} {enc : TypeId × Value → H} {w : World} {base : Nat} {spare : Nat → Bool} {held : Bool} {v : Value} {d : Go.DataW H} {p : List MemPlace} {r : Reach} {b0 : Nat}
set_option maxRecDepth 100000 in
set_option maxHeartbeats 8000000 in
theorem act_of24 {n : Nat} {xs : List V} (hx : RowV (LeafV Try.prog n) [4, 32, 3, 3, 3, 9, 3, 3] xs) : ∃ x : A24, xs = a24El x ∧ x.Ok := by
  obtain ⟨x1, _, rfl, h1, hx⟩ := rowv_cons hx
  obtain ⟨x2, _, rfl, h2, hx⟩ := rowv_cons hx
  obtain ⟨x3, _, rfl, h3, hx⟩ := rowv_cons hx
  obtain ⟨x4, _, rfl, h4, hx⟩ := rowv_cons hx
  obtain ⟨x5, _, rfl, h5, hx⟩ := rowv_cons hx
  obtain ⟨x6, _, rfl, h6, hx⟩ := rowv_cons hx
  obtain ⟨x7, _, rfl, h7, hx⟩ := rowv_cons hx
  obtain ⟨x8, _, rfl, h8, hx⟩ := rowv_cons hx
  obtain rfl := rowv_nil hx
  obtain ⟨a1, rfl⟩ := leaf_bool Try.underlying4 h1
  obtain ⟨a2, rfl, g2, k2⟩ := leaf_u32 Try.underlying32 h2
  obtain ⟨a3, rfl, g3, k3⟩ := leaf_i64 Try.underlying3 h3
  obtain ⟨a4, rfl, g4, k4⟩ := leaf_i64 Try.underlying3 h4
  obtain ⟨a5, rfl, g5, k5⟩ := leaf_i64 Try.underlying3 h5
  obtain ⟨a6, rfl, g6⟩ := leaf_str Try.underlying9 h6
  obtain ⟨a7, rfl, g7, k7⟩ := leaf_i64 Try.underlying3 h7
  obtain ⟨a8, rfl, g8, k8⟩ := leaf_i64 Try.underlying3 h8
  obtain ⟨t, rfl⟩ : ∃ t : Nat, a2 = t := ⟨a2.toNat, by omega⟩
  exact ⟨⟨a1, t, a3, a4, a5, a6, a7, a8⟩, rfl, by dsimp only; omega, g3, k3, g4, k4, g5, k5, g6, g7, k7, g8, k8⟩
set_option maxRecDepth 100000 in
set_option maxHeartbeats 8000000 in
theorem open_acts24 (hv : Value.okWide Try.prog w r b0 44 v) (h : Go.DataW.Trod enc Try.prog w base spare held 44 v d p) : ∃ xs : List A24, Rd (cellsOf w) (.lst 8 (xs.map a24El)) v ∧ (∀ x ∈ xs, x.Ok) ∧ xs.length ≤ maxLen := by
  obtain ⟨n, x, hx, hr⟩ := open_leaf (by rw [Try.underlying44]; intro fs h; cases h) (by rw [Try.underlying44]; intro n e h; cases h) (by kernel_rfl) hv h
  obtain ⟨es, n', rfl, hl, hes⟩ := leaf_slice (sz := 8) (ls := [4, 32, 3, 3, 3, 9, 3, 3]) Try.underlying44 (by kernel_rfl) (by kernel_rfl) hx
  obtain ⟨xs, rfl, hxs⟩ := list_of (f := a24El) (Q := fun x => x.Ok) fun r hr => act_of24 (hes r hr)
  exact ⟨xs, hr, hxs, by simpa using hl⟩
set_option maxRecDepth 100000 in
set_option maxHeartbeats 8000000 in
theorem open_cfg24 (hv : Value.okWide Try.prog w r b0 43 v) (h : Go.DataW.Trod enc Try.prog w base spare held 43 v d p) : ∃ (a b c : Int), Rd (cellsOf w) (.agg [vi a, vi b, vi c]) v := by
  obtain ⟨n, xs, hx, hr⟩ := open_struct (ls := [3, 3, 3]) Try.underlying43 (by kernel_rfl) (by kernel_rfl) hv h
  obtain ⟨x1, _, rfl, h1, hx⟩ := rowv_cons hx
  obtain ⟨x2, _, rfl, h2, hx⟩ := rowv_cons hx
  obtain ⟨x3, _, rfl, h3, hx⟩ := rowv_cons hx
  obtain rfl := rowv_nil hx
  obtain ⟨a1, rfl, _⟩ := leaf_i64 Try.underlying3 h1
  obtain ⟨a2, rfl, _⟩ := leaf_i64 Try.underlying3 h2
  obtain ⟨a3, rfl, _⟩ := leaf_i64 Try.underlying3 h3
  exact ⟨a1, a2, a3, hr⟩
end
end Go.Proofs.Ytekpaepkoeelfaa
