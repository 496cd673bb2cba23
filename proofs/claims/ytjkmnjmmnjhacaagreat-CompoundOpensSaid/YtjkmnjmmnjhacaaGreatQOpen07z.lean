/- Lists of pieces that come in, read. -/
import Derived.Test.YtjkmnjmmnjhacaaGreatQLaw07z
namespace Go.Proofs.YtjkmnjmmnjhacaaGreat
open Go.RowKit
set_option linter.unusedVariables false
set_option linter.unusedSimpArgs false

def pcCells (p : Pc) : List Value := [.int .i64 p.1, .int .i64 p.2.1, str p.2.2]
set_option maxRecDepth 100000 in
set_option maxHeartbeats 8000000 in
theorem open_q {H : Type} {enc : TypeId × Value → H} {w : World} {base : Nat} {spare : Nat → Bool} {held : Bool} {v : Value} {d : DataW H} {p : List MemPlace} {b0 : Nat}
    (hv : Value.okWide Tryz.prog w .any b0 30 v) (h : DataW.Trod enc Tryz.prog w base spare held 30 v d p) :
    ∃ xs : List Pc, Rd (cellsOf w) (.lst 3 (xs.map pcEl)) v ∧ xs.length ≤ maxLen ∧ ∀ a ∈ xs, a.2.2.length ≤ maxLen := by
  obtain ⟨A, n, c, rows, rfl, hnc, hr, hok⟩ := open_rows [0, 0, 3] Tryz.underlying30 Tryz.underlying62 (by kernel_rfl) (by kernel_rfl) (by decide)
    (by
      intro j f hj
      match j, hj with
      | 0, hj => obtain rfl := Option.some.inj hj; exact Tryz.underlying3
      | 1, hj => obtain rfl := Option.some.inj hj; exact Tryz.underlying3
      | 2, hj => obtain rfl := Option.some.inj hj; exact Tryz.underlying9
      | j + 3, hj => cases hj) hv h
  have hA := okWide_addr Tryz.underlying30 hv
  obtain ⟨xs, rfl⟩ := rows_map pcCells rows (fun row hrow => by
    obtain ⟨hl, hu⟩ := hok row hrow
    match row, hl with
    | [a, b, c], _ =>
      obtain ⟨n, rfl, _⟩ := hu 0 a rfl
      obtain ⟨m, rfl, _⟩ := hu 1 b rfl
      obtain ⟨l, rfl, _⟩ := hu 2 c rfl
      exact ⟨(n, m, l), rfl⟩)
  have hlen : xs.length = n := by simpa using hr.1
  refine ⟨xs, rows_rd hr hlen hnc (fun _ => hA) (fun _ => rfl) (fun _ => rfl), by rw [hlen]; exact hr.2.1, fun a ha => ?_⟩
  obtain ⟨_, hu⟩ := hok _ (List.mem_map_of_mem ha)
  obtain ⟨l, e2, h2⟩ := hu 2 _ rfl
  injection e2 with e2
  have e2' : a.2.2 = l := by simpa using e2
  exact e2' ▸ h2
end Go.Proofs.YtjkmnjmmnjhacaaGreat

