
/- Parts of frames that come in, read. -/
import Derived.Test.YtojcjbaimdjhoaaDoorMedia1
import Derived.Test.YtojcjbaimdjhoaaDoorRtpO
namespace Go.Proofs.YtojcjbaimdjhoaaDoor
open Go.RowKit
set_option linter.unusedVariables false
set_option linter.unusedSimpArgs false

theorem u16_bounds {n : Int} (h : (Lit.int .u16 n).wf = true) : 0 ≤ n ∧ n < 65536 := by
  have : 0 ≤ n ∧ n ≤ 65535 := by simpa [Lit.wf, IntKind.min, IntKind.max, IntKind.signed, IntKind.bits] using h
  omega
section
variable {H : Type} {enc : TypeId × Value → H} {w : World} {base : Nat} {spare : Nat → Bool} {held : Bool} {v : Value} {d : DataW H} {p : List MemPlace} {r : Reach} {b0 : Nat}
set_option maxRecDepth 100000 in
theorem open_m6 (hv : Value.okWide Tryd.prog w r b0 68 v) (h : DataW.Trod enc Tryd.prog w base spare held 68 v d p) :
    ∃ x : M6, Rd (cellsOf w) (.agg (m6L x)) v ∧ x.Ok ∧ x.data.length ≤ maxLen := by
  obtain ⟨n, xs, hx, hr⟩ := open_struct (ls := [41, 40, 41, 3, 40, 3, 3, 9]) Tryd.underlying68 (by kernel_rfl) (by kernel_rfl) hv h
  obtain ⟨x1, _, rfl, h1, hx⟩ := rowv_cons hx
  obtain ⟨x2, _, rfl, h2, hx⟩ := rowv_cons hx
  obtain ⟨x3, _, rfl, h3, hx⟩ := rowv_cons hx
  obtain ⟨x4, _, rfl, h4, hx⟩ := rowv_cons hx
  obtain ⟨x5, _, rfl, h5, hx⟩ := rowv_cons hx
  obtain ⟨x6, _, rfl, h6, hx⟩ := rowv_cons hx
  obtain ⟨x7, _, rfl, h7, hx⟩ := rowv_cons hx
  obtain ⟨x8, _, rfl, h8, hx⟩ := rowv_cons hx
  obtain rfl := rowv_nil hx
  obtain ⟨a1, rfl, g1⟩ := leaf_u32 Tryd.underlying41 h1
  obtain ⟨a2, rfl, g2⟩ := leaf_u16 Tryd.underlying40 h2
  obtain ⟨a3, rfl, g3⟩ := leaf_u32 Tryd.underlying41 h3
  obtain ⟨a4, rfl, _⟩ := leaf_i64 Tryd.underlying3 h4
  obtain ⟨a5, rfl, g5⟩ := leaf_u16 Tryd.underlying40 h5
  obtain ⟨a6, rfl, _⟩ := leaf_i64 Tryd.underlying3 h6
  obtain ⟨a7, rfl, _⟩ := leaf_i64 Tryd.underlying3 h7
  obtain ⟨a8, rfl, g8⟩ := leaf_str Tryd.underlying9 h8
  exact ⟨⟨a1, a2, a3, a4, a5, a6, a7, a8⟩, hr, ⟨g1, g2, g3, g5⟩, g8⟩
end
end Go.Proofs.YtojcjbaimdjhoaaDoor
