/- Packets that come in, read. -/
import Derived.Test.YthnbeodpckmjnaaGreatDoorMedia1z
import Derived.Test.YthnbeodpckmjnaaGreatDoorRHz
import Derived.Test.YthnbeodpckmjnaaGreatDoorCmp5z
namespace Go.Proofs.YthnbeodpckmjnaaGreatDoor
open Go.RowKit
set_option linter.unusedVariables false
set_option linter.unusedSimpArgs false

section
variable {H : Type} {enc : TypeId × Value → H} {w : World} {base : Nat} {spare : Nat → Bool} {held : Bool} {v : Value} {d : DataW H} {p : List MemPlace} {r : Reach} {b0 : Nat}
theorem leaf_u16 {P : Program} {n : Nat} {t : TypeId} {x : V} (ht : P.underlying t = some (.int .u16)) (h : LeafV P n t x) : ∃ m, x = .sc (.int .u16 m) ∧ 0 ≤ m ∧ m < 65536 := by
  obtain ⟨m, e, h1, h2⟩ := leaf_int ht h
  exact ⟨m, e, h1, Int.lt_of_le_of_lt h2 (by decide : IntKind.u16.max < 65536)⟩
end
end Go.Proofs.YthnbeodpckmjnaaGreatDoor

namespace Go.Proofs.YthnbeodpckmjnaaGreatDoor
open Go.RowKit
set_option linter.unusedVariables false
set_option linter.unusedSimpArgs false

section
variable {H : Type} {enc : TypeId × Value → H} {w : World} {base : Nat} {spare : Nat → Bool} {held : Bool} {v : Value} {d : DataW H} {p : List MemPlace} {r : Reach} {b0 : Nat}
set_option maxRecDepth 100000 in
set_option maxHeartbeats 8000000 in
theorem open_m6 (hv : Value.okWide Tryz.prog w r b0 29 v) (h : DataW.Trod enc Tryz.prog w base spare held 29 v d p) :
    ∃ x : M6, Rd (cellsOf w) (.agg (m6L x)) v ∧ x.Ok ∧ x.data.length ≤ maxLen := by
  obtain ⟨n, xs, hx, hr⟩ := open_struct (ls := [22, 23, 22, 3, 23, 3, 3, 9]) Tryz.underlying29 (by kernel_rfl) (by kernel_rfl) hv h
  obtain ⟨x1, _, rfl, h1, hx⟩ := rowv_cons hx
  obtain ⟨x2, _, rfl, h2, hx⟩ := rowv_cons hx
  obtain ⟨x3, _, rfl, h3, hx⟩ := rowv_cons hx
  obtain ⟨x4, _, rfl, h4, hx⟩ := rowv_cons hx
  obtain ⟨x5, _, rfl, h5, hx⟩ := rowv_cons hx
  obtain ⟨x6, _, rfl, h6, hx⟩ := rowv_cons hx
  obtain ⟨x7, _, rfl, h7, hx⟩ := rowv_cons hx
  obtain ⟨x8, _, rfl, h8, hx⟩ := rowv_cons hx
  obtain rfl := rowv_nil hx
  obtain ⟨a1, rfl, g1⟩ := leaf_u32 Tryz.underlying22 h1
  obtain ⟨a2, rfl, g2⟩ := leaf_u16 Tryz.underlying23 h2
  obtain ⟨a3, rfl, g3⟩ := leaf_u32 Tryz.underlying22 h3
  obtain ⟨a4, rfl, _⟩ := leaf_i64 Tryz.underlying3 h4
  obtain ⟨a5, rfl, g5⟩ := leaf_u16 Tryz.underlying23 h5
  obtain ⟨a6, rfl, _⟩ := leaf_i64 Tryz.underlying3 h6
  obtain ⟨a7, rfl, _⟩ := leaf_i64 Tryz.underlying3 h7
  obtain ⟨a8, rfl, g8⟩ := leaf_str Tryz.underlying9 h8
  exact ⟨⟨a1, a2, a3, a4, a5, a6, a7, a8⟩, hr, ⟨g1, g2, g3, g5⟩, g8⟩
end
end Go.Proofs.YthnbeodpckmjnaaGreatDoor

namespace Go.Proofs.YthnbeodpckmjnaaGreatDoor
open Go.RowKit
set_option linter.unusedVariables false
set_option linter.unusedSimpArgs false

def pcCells (p : Pc) : List Value := [.int .i64 p.1, .int .i64 p.2.1, str p.2.2]
set_option maxRecDepth 100000 in
set_option maxHeartbeats 8000000 in
theorem open_q {H : Type} {enc : TypeId × Value → H} {w : World} {base : Nat} {spare : Nat → Bool} {held : Bool} {v : Value} {d : DataW H} {p : List MemPlace} {b0 : Nat}
    (hv : Value.okWide Tryz.prog w .any b0 30 v) (h : DataW.Trod enc Tryz.prog w base spare held 30 v d p) :
    ∃ xs : List Pc, Rd (cellsOf w) (.lst 3 (xs.map pcEl)) v ∧ xs.length ≤ maxLen ∧ ∀ a ∈ xs, a.2.2.length ≤ maxLen := by
  obtain ⟨A, n, c, rows, rfl, hnc, hr, hok⟩ := open_rows [0, 0, 3] Tryz.underlying30 Tryz.underlying39 (by kernel_rfl) (by kernel_rfl) (by decide)
    (by
      intro j f hj
      match j, hj with
      | 0, hj => obtain rfl := Option.some.inj hj; exact Tryz.underlying3
      | 1, hj => obtain rfl := Option.some.inj hj; exact Tryz.underlying3
      | 2, hj => obtain rfl := Option.some.inj hj; exact Tryz.underlying9
      | j + 3, hj => cases hj) hv h
  have hA := okWide_addr Tryz.underlying30 hv
  obtain ⟨xs, rfl⟩ := rows_map pcCells rows (fun row hrow => by
    obtain ⟨hl, hu⟩ := hok row hrow
    match row, hl with
    | [a, b, c], _ =>
      obtain ⟨n, rfl, _⟩ := hu 0 a rfl
      obtain ⟨m, rfl, _⟩ := hu 1 b rfl
      obtain ⟨l, rfl, _⟩ := hu 2 c rfl
      exact ⟨(n, m, l), rfl⟩)
  have hlen : xs.length = n := by simpa using hr.1
  refine ⟨xs, rows_rd hr hlen hnc (fun _ => hA) (fun _ => rfl) (fun _ => rfl), by rw [hlen]; exact hr.2.1, fun a ha => ?_⟩
  obtain ⟨_, hu⟩ := hok _ (List.mem_map_of_mem ha)
  obtain ⟨l, e2, h2⟩ := hu 2 _ rfl
  injection e2 with e2
  have e2' : a.2.2 = l := by simpa using e2
  exact e2' ▸ h2
end Go.Proofs.YthnbeodpckmjnaaGreatDoor

