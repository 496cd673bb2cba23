/- Pieces and reports that come in, read. -/
import Derived.Test.YtiehcdcimllooaaQLaw08A
namespace Go.Proofs.Ytiehcdcimllooaa
open Go.RowKit
set_option linter.unusedVariables false
set_option linter.unusedSimpArgs false

section
variable {H : Type} {enc : TypeId × Value → H} {w : World} {base : Nat} {spare : Nat → Bool} {held : Bool} {v : Value} {d : DataW H} {p : List MemPlace} {r : Reach} {b0 : Nat}
set_option maxRecDepth 100000 in
theorem open_pc (hv : Value.okWide Try.prog w r b0 83 v) (h : DataW.Trod enc Try.prog w base spare held 83 v d p) : ∃ x : Pc, Rd (cellsOf w) (pcV x) v ∧ x.2.2.length ≤ maxLen := by
  obtain ⟨n, xs, hx, hr⟩ := open_struct (ls := [3, 3, 9]) Try.underlying83 (by kernel_rfl) (by kernel_rfl) hv h
  obtain ⟨x1, _, rfl, h1, hx⟩ := rowv_cons hx
  obtain ⟨x2, _, rfl, h2, hx⟩ := rowv_cons hx
  obtain ⟨x3, _, rfl, h3, hx⟩ := rowv_cons hx
  obtain rfl := rowv_nil hx
  obtain ⟨a, rfl, ha⟩ := leaf_i64 Try.underlying3 h1
  obtain ⟨b, rfl, hb⟩ := leaf_i64 Try.underlying3 h2
  obtain ⟨c, rfl, hc⟩ := leaf_str Try.underlying9 h3
  exact ⟨(a, b, c), hr, hc⟩
theorem b8_of {n : Nat} {xs : List V} (hx : RowV (LeafV Try.prog n) [38, 3, 3, 38, 38, 38, 38] xs) : ∃ b : B8, xs = b8El b ∧ b.Ok := by
  obtain ⟨x1, _, rfl, h1, hx⟩ := rowv_cons hx
  obtain ⟨x2, _, rfl, h2, hx⟩ := rowv_cons hx
  obtain ⟨x3, _, rfl, h3, hx⟩ := rowv_cons hx
  obtain ⟨x4, _, rfl, h4, hx⟩ := rowv_cons hx
  obtain ⟨x5, _, rfl, h5, hx⟩ := rowv_cons hx
  obtain ⟨x6, _, rfl, h6, hx⟩ := rowv_cons hx
  obtain ⟨x7, _, rfl, h7, hx⟩ := rowv_cons hx
  obtain rfl := rowv_nil hx
  obtain ⟨a1, rfl, g1⟩ := leaf_u32 Try.underlying38 h1
  obtain ⟨a2, rfl, g2⟩ := leaf_i64 Try.underlying3 h2
  obtain ⟨a3, rfl, g3⟩ := leaf_i64 Try.underlying3 h3
  obtain ⟨a4, rfl, g4⟩ := leaf_u32 Try.underlying38 h4
  obtain ⟨a5, rfl, g5⟩ := leaf_u32 Try.underlying38 h5
  obtain ⟨a6, rfl, g6⟩ := leaf_u32 Try.underlying38 h6
  obtain ⟨a7, rfl, g7⟩ := leaf_u32 Try.underlying38 h7
  exact ⟨⟨a1, a2, a3, a4, a5, a6, a7⟩, rfl, g1, g4, g5, g6, g7⟩
set_option maxRecDepth 100000 in
theorem open_r8 (hv : Value.okWide Try.prog w r b0 96 v) (h : DataW.Trod enc Try.prog w base spare held 96 v d p) :
    ∃ x : R8, Rd (cellsOf w) (.agg (r8L x)) v ∧ x.Ok ∧ (-9223372036854775808 ≤ x.sent.clock ∧ x.sent.clock ≤ 9223372036854775807) ∧ x.bs.length ≤ maxLen := by
  obtain ⟨n, xs, hx, hr⟩ := open_struct (ls := [38, 4, 3, 38, 38, 38, 94]) Try.underlying96 (by kernel_rfl) (by kernel_rfl) hv h
  obtain ⟨x1, _, rfl, h1, hx⟩ := rowv_cons hx
  obtain ⟨x2, _, rfl, h2, hx⟩ := rowv_cons hx
  obtain ⟨x3, _, rfl, h3, hx⟩ := rowv_cons hx
  obtain ⟨x4, _, rfl, h4, hx⟩ := rowv_cons hx
  obtain ⟨x5, _, rfl, h5, hx⟩ := rowv_cons hx
  obtain ⟨x6, _, rfl, h6, hx⟩ := rowv_cons hx
  obtain ⟨x7, _, rfl, h7, hx⟩ := rowv_cons hx
  obtain rfl := rowv_nil hx
  obtain ⟨a1, rfl, g1⟩ := leaf_u32 Try.underlying38 h1
  obtain ⟨a2, rfl⟩ := leaf_bool Try.underlying4 h2
  obtain ⟨a3, rfl, g3⟩ := leaf_i64 Try.underlying3 h3
  obtain ⟨a4, rfl, g4⟩ := leaf_u32 Try.underlying38 h4
  obtain ⟨a5, rfl, g5⟩ := leaf_u32 Try.underlying38 h5
  obtain ⟨a6, rfl, g6⟩ := leaf_u32 Try.underlying38 h6
  obtain ⟨es, n', rfl, hl, hes⟩ := leaf_slice (sz := 7) (ls := [38, 3, 3, 38, 38, 38, 38]) Try.underlying94 (by kernel_rfl) (by kernel_rfl) h7
  obtain ⟨bs, rfl, hbs⟩ := list_of fun r hr => b8_of (hes r hr)
  exact ⟨⟨a1, a2, ⟨a3, a4, a5, a6⟩, bs⟩, hr, ⟨g1, ⟨g4, g5, g6⟩, hbs⟩, g3, by simpa using hl⟩
end
end Go.Proofs.Ytiehcdcimllooaa
