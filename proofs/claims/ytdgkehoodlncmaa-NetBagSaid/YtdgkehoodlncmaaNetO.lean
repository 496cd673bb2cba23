
/- Lists of calls of a net that come in, read. -/
import Derived.Test.YtdgkehoodlncmaaNetL
import Derived.Test.YtdgkehoodlncmaaQLaw07
namespace Go.Proofs.Ytdgkehoodlncmaa
open Go.RowKit
set_option linter.unusedVariables false
set_option linter.unusedSimpArgs false

def aCells (a : A28) : List Value := [.int .i64 a.k, .int .i64 a.w, .int .i64 a.p, .int .i64 a.i, .int .i64 a.a, .int .u32 a.m, str a.d]
set_option maxRecDepth 100000 in
set_option maxHeartbeats 8000000 in
theorem open_a28 {H : Type} {enc : TypeId × Value → H} {w : World} {base : Nat} {spare : Nat → Bool} {held : Bool} {v : Value} {d : DataW H} {p : List MemPlace} {b0 : Nat}
    (hv : Value.okWide Try.prog w .any b0 93 v) (h : DataW.Trod enc Try.prog w base spare held 93 v d p) :
    ∃ xs : List A28, Rd (cellsOf w) (.lst 7 (xs.map aEl)) v ∧ xs.length ≤ maxLen ∧ ∀ a ∈ xs, a.d.length ≤ maxLen ∧ 0 ≤ a.m ∧ a.m < 4294967296 := by
  obtain ⟨A, n, c, rows, rfl, hnc, hr, hok⟩ := open_rows [0, 0, 0, 0, 0, 1, 3] Try.underlying93 Try.underlying100 (by kernel_rfl) (by kernel_rfl) (by decide)
    (by
      intro j f hj
      match j, hj with
      | 0, hj => obtain rfl := Option.some.inj hj; exact Try.underlying3
      | 1, hj => obtain rfl := Option.some.inj hj; exact Try.underlying3
      | 2, hj => obtain rfl := Option.some.inj hj; exact Try.underlying3
      | 3, hj => obtain rfl := Option.some.inj hj; exact Try.underlying3
      | 4, hj => obtain rfl := Option.some.inj hj; exact Try.underlying3
      | 5, hj => obtain rfl := Option.some.inj hj; exact Try.underlying60
      | 6, hj => obtain rfl := Option.some.inj hj; exact Try.underlying9
      | j + 7, hj => cases hj) hv h
  have hA := okWide_addr Try.underlying93 hv
  have hall : ∀ row ∈ rows, ∃ a : A28, row = aCells a ∧ a.d.length ≤ maxLen ∧ 0 ≤ a.m ∧ a.m < 4294967296 := fun row hrow => by
    obtain ⟨hl, hu⟩ := hok row hrow
    match row, hl with
    | [u0, u1, u2, u3, u4, u5, u6], _ =>
      obtain ⟨n0, rfl, _⟩ := hu 0 u0 rfl
      obtain ⟨n1, rfl, _⟩ := hu 1 u1 rfl
      obtain ⟨n2, rfl, _⟩ := hu 2 u2 rfl
      obtain ⟨n3, rfl, _⟩ := hu 3 u3 rfl
      obtain ⟨n4, rfl, _⟩ := hu 4 u4 rfl
      obtain ⟨n5, rfl, g5⟩ := hu 5 u5 rfl
      obtain ⟨l6, rfl, g6⟩ := hu 6 u6 rfl
      exact ⟨⟨n0, n1, n2, n3, n4, n5, l6⟩, rfl, g6, g5⟩
  obtain ⟨xs, rfl⟩ := rows_map aCells rows (fun row hrow => by
    obtain ⟨a, ha, _⟩ := hall row hrow
    exact ⟨a, ha⟩)
  have hlen : xs.length = n := by simpa using hr.1
  refine ⟨xs, rows_rd hr hlen hnc (fun _ => hA) (fun _ => rfl) (fun _ => rfl), by rw [hlen]; exact hr.2.1, fun a ha => ?_⟩
  obtain ⟨b, hb, h1, h2⟩ := hall _ (List.mem_map_of_mem ha)
  unfold aCells at hb
  simp only [List.cons.injEq, and_true] at hb
  obtain ⟨_, _, _, _, _, e5, e6⟩ := hb
  injection e5 with _ e5
  have e7 := str_inj.1 e6
  rw [e7, e5]
  exact ⟨h1, h2⟩
end Go.Proofs.Ytdgkehoodlncmaa
