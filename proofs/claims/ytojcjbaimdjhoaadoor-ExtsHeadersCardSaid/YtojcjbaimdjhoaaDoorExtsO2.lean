
/- What comes into ExtsHeaders, read. -/
import Derived.Test.YtojcjbaimdjhoaaDoorExts6
import Derived.Test.YtojcjbaimdjhoaaDoorRtpO
import Derived.Test.YtojcjbaimdjhoaaDoorExtsO
namespace Go.Proofs.YtojcjbaimdjhoaaDoor
open Go.RowKit
set_option linter.unusedVariables false
set_option linter.unusedSimpArgs false

section
variable {H : Type} {enc : TypeId × Value → H} {w : World} {base : Nat} {spare : Nat → Bool} {held : Bool} {v : Value} {d : DataW H} {p : List MemPlace} {r : Reach} {b0 : Nat}
set_option maxRecDepth 100000 in
theorem open_put5 (hv : Value.okWide Tryd.prog w r b0 48 v) (h : DataW.Trod enc Tryd.prog w base spare held 48 v d p) :
    ∃ (x : P4) (n id : Int) (l : List E5), Rd (cellsOf w) (.agg (putL x n id l)) v ∧ x.Ok ∧ x.others.length ≤ maxLen ∧ x.ext.length ≤ maxLen ∧ x.data.length ≤ maxLen ∧ l.length ≤ maxLen ∧ ∀ y ∈ l, y.data.length ≤ maxLen := by
  obtain ⟨n, xs, hx, hr⟩ := open_struct (ls := [4, 3, 40, 41, 41, 42, 4, 3, 9, 9, 3, 3, 3, 28]) Tryd.underlying48 (by kernel_rfl) (by kernel_rfl) hv h
  obtain ⟨x1, _, rfl, h1, hx⟩ := rowv_cons hx
  obtain ⟨x2, _, rfl, h2, hx⟩ := rowv_cons hx
  obtain ⟨x3, _, rfl, h3, hx⟩ := rowv_cons hx
  obtain ⟨x4, _, rfl, h4, hx⟩ := rowv_cons hx
  obtain ⟨x5, _, rfl, h5, hx⟩ := rowv_cons hx
  obtain ⟨x6, _, rfl, h6, hx⟩ := rowv_cons hx
  obtain ⟨x7, _, rfl, h7, hx⟩ := rowv_cons hx
  obtain ⟨x8, _, rfl, h8, hx⟩ := rowv_cons hx
  obtain ⟨x9, _, rfl, h9, hx⟩ := rowv_cons hx
  obtain ⟨x10, _, rfl, h10, hx⟩ := rowv_cons hx
  obtain ⟨x11, _, rfl, h11, hx⟩ := rowv_cons hx
  obtain ⟨x12, _, rfl, h12, hx⟩ := rowv_cons hx
  obtain ⟨x13, _, rfl, h13, hx⟩ := rowv_cons hx
  obtain ⟨x14, _, rfl, h14, hx⟩ := rowv_cons hx
  obtain rfl := rowv_nil hx
  obtain ⟨a1, rfl⟩ := leaf_bool Tryd.underlying4 h1
  obtain ⟨a2, rfl, _⟩ := leaf_i64 Tryd.underlying3 h2
  obtain ⟨a3, rfl, g3⟩ := leaf_u16 Tryd.underlying40 h3
  obtain ⟨a4, rfl, g4⟩ := leaf_u32 Tryd.underlying41 h4
  obtain ⟨a5, rfl, g5⟩ := leaf_u32 Tryd.underlying41 h5
  obtain ⟨es, n', rfl, hl, hes⟩ := leaf_slice (sz := 1) (ls := [41]) Tryd.underlying42 (by kernel_rfl) (by kernel_rfl) h6
  obtain ⟨a7, rfl⟩ := leaf_bool Tryd.underlying4 h7
  obtain ⟨a8, rfl, _⟩ := leaf_i64 Tryd.underlying3 h8
  obtain ⟨a9, rfl, g9⟩ := leaf_str Tryd.underlying9 h9
  obtain ⟨a10, rfl, g10⟩ := leaf_str Tryd.underlying9 h10
  obtain ⟨a11, rfl, _⟩ := leaf_i64 Tryd.underlying3 h11
  obtain ⟨a12, rfl, _⟩ := leaf_i64 Tryd.underlying3 h12
  obtain ⟨a13, rfl, _⟩ := leaf_i64 Tryd.underlying3 h13
  obtain ⟨fs, n2, rfl, hl2, hfs⟩ := leaf_slice (sz := 2) (ls := [3, 9]) Tryd.underlying28 (by kernel_rfl) (by kernel_rfl) h14
  obtain ⟨os, rfl, hos⟩ := list_of (f := u32El) (Q := fun n => 0 ≤ n ∧ n < 4294967296) fun r hr => by
    obtain ⟨y, _, rfl, g1, g2⟩ := rowv_cons (hes r hr)
    obtain rfl := rowv_nil g2
    obtain ⟨m, rfl, hm⟩ := leaf_u32 Tryd.underlying41 g1
    exact ⟨m, rfl, hm⟩
  obtain ⟨ys, rfl, hys⟩ := list_of fun r hr => e5_of (hfs r hr)
  exact ⟨⟨a1, a2, a3, a4, a5, os, a7, a8, a9, a10, a11⟩, a12, a13, ys, hr, ⟨g3, g4, g5, hos⟩, by simpa using hl, g9, g10, by simpa using hl2, hys⟩
end
end Go.Proofs.YtojcjbaimdjhoaaDoor
