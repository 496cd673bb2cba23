
/- Notes that come in, read. -/
import Derived.Test.YtlhkhncdnaibgaaNotesW2
namespace Go.Proofs.Ytlhkhncdnaibgaa
open Go.RowKit
set_option linter.unusedVariables false
set_option linter.unusedSimpArgs false

section
variable {H : Type} {enc : TypeId × Value → H} {w : World} {base : Nat} {spare : Nat → Bool} {held : Bool} {v : Value} {d : DataW H} {p : List MemPlace} {r : Reach} {b0 : Nat}
set_option maxRecDepth 100000 in
theorem open_pc (hv : Value.okWide Try.prog w r b0 58 v) (h : DataW.Trod enc Try.prog w base spare held 58 v d p) : ∃ x : Pc, Rd (cellsOf w) (pcV x) v ∧ x.2.2.length ≤ maxLen := by
  obtain ⟨n, xs, hx, hr⟩ := open_struct (ls := [3, 3, 9]) Try.underlying58 (by kernel_rfl) (by kernel_rfl) hv h
  obtain ⟨x1, _, rfl, h1, hx⟩ := rowv_cons hx
  obtain ⟨x2, _, rfl, h2, hx⟩ := rowv_cons hx
  obtain ⟨x3, _, rfl, h3, hx⟩ := rowv_cons hx
  obtain rfl := rowv_nil hx
  obtain ⟨a, rfl, ha⟩ := leaf_i64 Try.underlying3 h1
  obtain ⟨b, rfl, hb⟩ := leaf_i64 Try.underlying3 h2
  obtain ⟨c, rfl, hc⟩ := leaf_str Try.underlying9 h3
  exact ⟨(a, b, c), hr, hc⟩
set_option maxRecDepth 100000 in
theorem open_y9 (hv : Value.okWide Try.prog w r b0 49 v) (h : DataW.Trod enc Try.prog w base spare held 49 v d p) : ∃ x : Y9, Rd (cellsOf w) (.agg (y9L x)) v ∧ x.Ok := by
  obtain ⟨n, xs, hx, hr⟩ := open_struct (ls := [9, 47]) Try.underlying49 (by kernel_rfl) (by kernel_rfl) hv h
  obtain ⟨x1, _, rfl, h1, hx⟩ := rowv_cons hx
  obtain ⟨x2, _, rfl, h2, hx⟩ := rowv_cons hx
  obtain rfl := rowv_nil hx
  obtain ⟨a, rfl, ha⟩ := leaf_str Try.underlying9 h1
  obtain ⟨es, n', rfl, hl, hes⟩ := leaf_slice (sz := 1) (ls := [50]) Try.underlying47 (by kernel_rfl) (by kernel_rfl) h2
  obtain ⟨ss, rfl, hss⟩ := list_of (f := u32El) (Q := fun n => 0 ≤ n ∧ n < 4294967296) fun r hr => by
    obtain ⟨y, _, rfl, g1, g2⟩ := rowv_cons (hes r hr)
    obtain rfl := rowv_nil g2
    obtain ⟨m, rfl, hm⟩ := leaf_u32 Try.underlying50 g1
    exact ⟨m, rfl, hm⟩
  exact ⟨⟨a, ss⟩, hr, ha, by simpa using hl, hss⟩
set_option maxRecDepth 100000 in
theorem open_a9 (hv : Value.okWide Try.prog w r b0 67 v) (h : DataW.Trod enc Try.prog w base spare held 67 v d p) : ∃ x : A9, Rd (cellsOf w) (.agg (a9L x)) v ∧ x.Ok := by
  obtain ⟨n, xs, hx, hr⟩ := open_struct (ls := [3, 50, 9, 9]) Try.underlying67 (by kernel_rfl) (by kernel_rfl) hv h
  obtain ⟨x1, _, rfl, h1, hx⟩ := rowv_cons hx
  obtain ⟨x2, _, rfl, h2, hx⟩ := rowv_cons hx
  obtain ⟨x3, _, rfl, h3, hx⟩ := rowv_cons hx
  obtain ⟨x4, _, rfl, h4, hx⟩ := rowv_cons hx
  obtain rfl := rowv_nil hx
  obtain ⟨a, rfl, ha⟩ := leaf_i64 Try.underlying3 h1
  obtain ⟨b, rfl, hb⟩ := leaf_u32 Try.underlying50 h2
  obtain ⟨c, rfl, hc⟩ := leaf_str Try.underlying9 h3
  obtain ⟨e, rfl, he⟩ := leaf_str Try.underlying9 h4
  exact ⟨⟨a, b, c, e⟩, hr, hb, hc, he⟩
theorem n9_of {n : Nat} {xs : List V} (hx : RowV (LeafV Try.prog n) [50, 9] xs) : ∃ x : N9, xs = n9El x ∧ x.Ok := by
  obtain ⟨x1, _, rfl, h1, hx⟩ := rowv_cons hx
  obtain ⟨x2, _, rfl, h2, hx⟩ := rowv_cons hx
  obtain rfl := rowv_nil hx
  obtain ⟨a, rfl, ha⟩ := leaf_u32 Try.underlying50 h1
  obtain ⟨b, rfl, hb⟩ := leaf_str Try.underlying9 h2
  exact ⟨⟨a, b⟩, rfl, ha, hb⟩
set_option maxRecDepth 100000 in
theorem open_n9 (hv : Value.okWide Try.prog w r b0 87 v) (h : DataW.Trod enc Try.prog w base spare held 87 v d p) : ∃ x : N9, Rd (cellsOf w) (.agg (n9L x)) v ∧ x.Ok := by
  obtain ⟨n, xs, hx, hr⟩ := open_struct (ls := [50, 9]) Try.underlying87 (by kernel_rfl) (by kernel_rfl) hv h
  obtain ⟨x, rfl, hok⟩ := n9_of hx
  exact ⟨x, hr, hok⟩
set_option maxRecDepth 100000 in
theorem open_n9s (hv : Value.okWide Try.prog w r b0 84 v) (h : DataW.Trod enc Try.prog w base spare held 84 v d p) : ∃ xs : List N9, Rd (cellsOf w) (.lst 2 (xs.map n9El)) v ∧ (∀ x ∈ xs, x.Ok) ∧ xs.length ≤ maxLen := by
  obtain ⟨n, x, hx, hr⟩ := open_leaf (by rw [Try.underlying84]; intro fs h; cases h) (by rw [Try.underlying84]; intro n e h; cases h) (by kernel_rfl) hv h
  obtain ⟨es, n', rfl, hl, hes⟩ := leaf_slice (sz := 2) (ls := [50, 9]) Try.underlying84 (by kernel_rfl) (by kernel_rfl) hx
  obtain ⟨xs, rfl, hxs⟩ := list_of fun r hr => n9_of (hes r hr)
  exact ⟨xs, hr, hxs, by simpa using hl⟩
end
end Go.Proofs.Ytlhkhncdnaibgaa
