
/- Packets that come in, read. -/
import Derived.Test.YtojcjbaimdjhoaaGreatDoorRtp6
import Derived.Test.YtojcjbaimdjhoaaGreatDoorRH
namespace Go.Proofs.YtojcjbaimdjhoaaGreatDoor
open Go.RowKit
set_option linter.unusedVariables false
set_option linter.unusedSimpArgs false

section
variable {H : Type} {enc : TypeId × Value → H} {w : World} {base : Nat} {spare : Nat → Bool} {held : Bool} {v : Value} {d : DataW H} {p : List MemPlace} {r : Reach} {b0 : Nat}
theorem leaf_u16 {P : Program} {n : Nat} {t : TypeId} {x : V} (ht : P.underlying t = some (.int .u16)) (h : LeafV P n t x) : ∃ m, x = .sc (.int .u16 m) ∧ 0 ≤ m ∧ m < 65536 := by
  obtain ⟨m, e, h1, h2⟩ := leaf_int ht h
  exact ⟨m, e, h1, Int.lt_of_le_of_lt h2 (by decide : IntKind.u16.max < 65536)⟩
theorem p4_of {n : Nat} {xs : List V} (hx : RowV (LeafV Tryz.prog n) [4, 3, 27, 26, 26, 50, 4, 3, 9, 9, 3] xs) :
    ∃ x : P4, xs = p4L x ∧ x.Ok ∧ x.others.length ≤ maxLen ∧ x.ext.length ≤ maxLen ∧ x.data.length ≤ maxLen := by
  obtain ⟨x1, _, rfl, h1, hx⟩ := rowv_cons hx
  obtain ⟨x2, _, rfl, h2, hx⟩ := rowv_cons hx
  obtain ⟨x3, _, rfl, h3, hx⟩ := rowv_cons hx
  obtain ⟨x4, _, rfl, h4, hx⟩ := rowv_cons hx
  obtain ⟨x5, _, rfl, h5, hx⟩ := rowv_cons hx
  obtain ⟨x6, _, rfl, h6, hx⟩ := rowv_cons hx
  obtain ⟨x7, _, rfl, h7, hx⟩ := rowv_cons hx
  obtain ⟨x8, _, rfl, h8, hx⟩ := rowv_cons hx
  obtain ⟨x9, _, rfl, h9, hx⟩ := rowv_cons hx
  obtain ⟨x10, _, rfl, h10, hx⟩ := rowv_cons hx
  obtain ⟨x11, _, rfl, h11, hx⟩ := rowv_cons hx
  obtain rfl := rowv_nil hx
  obtain ⟨a1, rfl⟩ := leaf_bool Tryz.underlying4 h1
  obtain ⟨a2, rfl, _⟩ := leaf_i64 Tryz.underlying3 h2
  obtain ⟨a3, rfl, g3⟩ := leaf_u16 Tryz.underlying27 h3
  obtain ⟨a4, rfl, g4⟩ := leaf_u32 Tryz.underlying26 h4
  obtain ⟨a5, rfl, g5⟩ := leaf_u32 Tryz.underlying26 h5
  obtain ⟨es, n', rfl, hl, hes⟩ := leaf_slice (sz := 1) (ls := [26]) Tryz.underlying50 (by kernel_rfl) (by kernel_rfl) h6
  obtain ⟨a7, rfl⟩ := leaf_bool Tryz.underlying4 h7
  obtain ⟨a8, rfl, _⟩ := leaf_i64 Tryz.underlying3 h8
  obtain ⟨a9, rfl, g9⟩ := leaf_str Tryz.underlying9 h9
  obtain ⟨a10, rfl, g10⟩ := leaf_str Tryz.underlying9 h10
  obtain ⟨a11, rfl, _⟩ := leaf_i64 Tryz.underlying3 h11
  obtain ⟨os, rfl, hos⟩ := list_of (f := u32El) (Q := fun n => 0 ≤ n ∧ n < 4294967296) fun r hr => by
    obtain ⟨y, _, rfl, g1, g2⟩ := rowv_cons (hes r hr)
    obtain rfl := rowv_nil g2
    obtain ⟨m, rfl, hm⟩ := leaf_u32 Tryz.underlying26 g1
    exact ⟨m, rfl, hm⟩
  exact ⟨⟨a1, a2, a3, a4, a5, os, a7, a8, a9, a10, a11⟩, rfl, ⟨g3, g4, g5, hos⟩, by simpa using hl, g9, g10⟩
set_option maxRecDepth 100000 in
theorem open_p4 (hv : Value.okWide Tryz.prog w r b0 54 v) (h : DataW.Trod enc Tryz.prog w base spare held 54 v d p) :
    ∃ x : P4, Rd (cellsOf w) (.agg (p4L x)) v ∧ x.Ok ∧ x.others.length ≤ maxLen ∧ x.ext.length ≤ maxLen ∧ x.data.length ≤ maxLen := by
  obtain ⟨n, xs, hx, hr⟩ := open_struct (ls := [4, 3, 27, 26, 26, 50, 4, 3, 9, 9, 3]) Tryz.underlying54 (by kernel_rfl) (by kernel_rfl) hv h
  obtain ⟨x, rfl, hok⟩ := p4_of hx
  exact ⟨x, hr, hok⟩
end
end Go.Proofs.YtojcjbaimdjhoaaGreatDoor
