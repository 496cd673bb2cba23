/- Lists of pieces that come in, opened. -/
import Derived.Test.YtiehcdcimllooaaPieceJoin2
namespace Go.Proofs.Ytiehcdcimllooaa
open Go.RowKit
set_option linter.unusedVariables false
set_option linter.unusedSimpArgs false

set_option maxRecDepth 100000 in
theorem open_pieces {H : Type} {enc : TypeId × Value → H} {w : World} {base : Nat} {spare : Nat → Bool} {held : Bool} {v : Value} {d : DataW H} {p : List MemPlace} {r : Reach} {b0 : Nat}
    (hv : Value.okWide Try.prog w r b0 76 v) (h : DataW.Trod enc Try.prog w base spare held 76 v d p) :
    ∃ (A : Option Addr) (n c : Nat) (xs : List Pc), v = .slice A n c ∧ n ≤ c ∧ ArgRows w A 3 n (xs.map triCells) ∧ xs.length = n ∧ ∀ a ∈ xs, PcOk a := by
  obtain ⟨A, n, c, rows, rfl, hnc, hr, hok⟩ := open_rows [0, 0, 3] Try.underlying76 Try.underlying83 (by kernel_rfl) (by kernel_rfl) (by decide)
    (by
      intro j f hj
      match j, hj with
      | 0, hj => obtain rfl := Option.some.inj hj; exact Try.underlying3
      | 1, hj => obtain rfl := Option.some.inj hj; exact Try.underlying3
      | 2, hj => obtain rfl := Option.some.inj hj; exact Try.underlying9
      | j + 3, hj => cases hj) hv h
  obtain ⟨xs, rfl⟩ := rows_map triCells rows (fun row hrow => by
    obtain ⟨hl, hu⟩ := hok row hrow
    match row, hl with
    | [a, b, c], _ =>
      obtain ⟨n, rfl, _⟩ := hu 0 a rfl
      obtain ⟨m, rfl, _⟩ := hu 1 b rfl
      obtain ⟨l, rfl, _⟩ := hu 2 c rfl
      exact ⟨(n, m, l), rfl⟩)
  refine ⟨A, n, c, xs, rfl, hnc, hr, by simpa using hr.1, fun a ha => ?_⟩
  obtain ⟨_, hu⟩ := hok _ (List.mem_map_of_mem ha)
  obtain ⟨n, e0, h0⟩ := hu 0 _ rfl
  obtain ⟨m, e1, h1⟩ := hu 1 _ rfl
  obtain ⟨l, e2, h2⟩ := hu 2 _ rfl
  injection e0 with _ e0
  injection e1 with _ e1
  injection e2 with e2
  have e2' : a.2.2 = l := by simpa using e2
  exact ⟨e0 ▸ h0, e1 ▸ h1, e2' ▸ h2⟩
end Go.Proofs.Ytiehcdcimllooaa
