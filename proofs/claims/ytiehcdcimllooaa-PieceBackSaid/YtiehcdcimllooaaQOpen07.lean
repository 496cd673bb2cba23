/- Lists of pieces that come in, read. -/
import Derived.Test.YtiehcdcimllooaaQLaw07
namespace Go.Proofs.Ytiehcdcimllooaa
open Go.RowKit
set_option linter.unusedVariables false
set_option linter.unusedSimpArgs false

def pcCells (p : Pc) : List Value := [.int .i64 p.1, .int .i64 p.2.1, str p.2.2]
set_option maxRecDepth 100000 in
theorem open_q {H : Type} {enc : TypeId × Value → H} {w : World} {base : Nat} {spare : Nat → Bool} {held : Bool} {v : Value} {d : DataW H} {p : List MemPlace} {b0 : Nat}
    (hv : Value.okWide Try.prog w .any b0 76 v) (h : DataW.Trod enc Try.prog w base spare held 76 v d p) :
    ∃ xs : List Pc, Rd (cellsOf w) (.lst 3 (xs.map pcEl)) v ∧ xs.length ≤ maxLen ∧ ∀ a ∈ xs, a.2.2.length ≤ maxLen := by
  obtain ⟨A, n, c, rows, rfl, hnc, hr, hok⟩ := open_rows [0, 0, 3] Try.underlying76 Try.underlying83 (by kernel_rfl) (by kernel_rfl) (by decide)
    (by
      intro j f hj
      match j, hj with
      | 0, hj => obtain rfl := Option.some.inj hj; exact Try.underlying3
      | 1, hj => obtain rfl := Option.some.inj hj; exact Try.underlying3
      | 2, hj => obtain rfl := Option.some.inj hj; exact Try.underlying9
      | j + 3, hj => cases hj) hv h
  have hA := okWide_addr Try.underlying76 hv
  obtain ⟨xs, rfl⟩ := rows_map pcCells rows (fun row hrow => by
    obtain ⟨hl, hu⟩ := hok row hrow
    match row, hl with
    | [a, b, c], _ =>
      obtain ⟨n, rfl, _⟩ := hu 0 a rfl
      obtain ⟨m, rfl, _⟩ := hu 1 b rfl
      obtain ⟨l, rfl, _⟩ := hu 2 c rfl
      exact ⟨(n, m, l), rfl⟩)
  have hlen : xs.length = n := by simpa using hr.1
  refine ⟨xs, rows_rd hr hlen hnc (fun _ => hA) (fun _ => rfl) (fun _ => rfl), by rw [hlen]; exact hr.2.1, fun a ha => ?_⟩
  obtain ⟨_, hu⟩ := hok _ (List.mem_map_of_mem ha)
  obtain ⟨l, e2, h2⟩ := hu 2 _ rfl
  injection e2 with e2
  have e2' : a.2.2 = l := by simpa using e2
  exact e2' ▸ h2
theorem one_val {w : World} {x : V} {v : Value} (h : Rd (cellsOf w) x v) : ∀ (j : Nat) (y : V) (u : Value), [x][j]? = some y → [v][j]? = some u → Rd (cellsOf w) y u := fun j y u hy hu => by
  match j with
  | 0 => cases hy; cases hu; exact h
  | j + 1 => simp at hy
theorem pieceBack_walk (xs : List Pc) (v : Value) (w : World) (h : Rd (cellsOf w) (.lst 3 (xs.map pcEl)) v) (hs : xs.length ≤ maxLen) (hl : ∀ a ∈ xs, a.2.2.length ≤ maxLen) :
    Calls Try.prog 10 #[v] w fun e w' => e = .returned (.bool true) ∧ Chg Nothing w w' :=
  top_sc (xs := [.lst 3 (xs.map pcEl)]) (vals := [v]) (q_back xs hl hs) rfl (one_val h)
end Go.Proofs.Ytiehcdcimllooaa
