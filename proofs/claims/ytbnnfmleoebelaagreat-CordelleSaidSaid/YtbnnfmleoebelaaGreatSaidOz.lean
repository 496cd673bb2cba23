/- What is said that comes in, read. -/
import Derived.Test.YtbnnfmleoebelaaGreatSaid1z
import Derived.Test.YtbnnfmleoebelaaGreatQRefZz
import Derived.Deep.Slices
import Derived.Deep.Fields
namespace Go.Proofs.YtbnnfmleoebelaaGreat
open Go.RowKit Go.ChangeShapes Go.WideShapes Go.Deep
set_option linter.unusedVariables false
set_option linter.unusedSimpArgs false

section
variable {H : Type} {enc : TypeId × Value → H} {w : World} {base : Nat} {spare : Nat → Bool} {held : Bool} {v : Value} {d : DataW H} {p : List MemPlace} {r : Reach} {b0 : Nat}
theorem leaf_u16 {P : Program} {n : Nat} {t : TypeId} {x : V} (ht : P.underlying t = some (.int .u16)) (h : LeafV P n t x) : ∃ m, x = .sc (.int .u16 m) ∧ 0 ≤ m ∧ m < 65536 := by
  obtain ⟨m, e, h1, h2⟩ := leaf_int ht h
  exact ⟨m, e, h1, Int.lt_of_le_of_lt h2 (by decide : IntKind.u16.max < 65536)⟩
theorem b8_of {n : Nat} {xs : List V} (hx : RowV (LeafV Tryz.prog n) [22, 3, 3, 22, 22, 22, 22] xs) : ∃ b : B8, xs = b8El b ∧ b.Ok := by
  obtain ⟨x1, _, rfl, h1, hx⟩ := rowv_cons hx
  obtain ⟨x2, _, rfl, h2, hx⟩ := rowv_cons hx
  obtain ⟨x3, _, rfl, h3, hx⟩ := rowv_cons hx
  obtain ⟨x4, _, rfl, h4, hx⟩ := rowv_cons hx
  obtain ⟨x5, _, rfl, h5, hx⟩ := rowv_cons hx
  obtain ⟨x6, _, rfl, h6, hx⟩ := rowv_cons hx
  obtain ⟨x7, _, rfl, h7, hx⟩ := rowv_cons hx
  obtain rfl := rowv_nil hx
  obtain ⟨a1, rfl, g1⟩ := leaf_u32 Tryz.underlying22 h1
  obtain ⟨a2, rfl, g2⟩ := leaf_i64 Tryz.underlying3 h2
  obtain ⟨a3, rfl, g3⟩ := leaf_i64 Tryz.underlying3 h3
  obtain ⟨a4, rfl, g4⟩ := leaf_u32 Tryz.underlying22 h4
  obtain ⟨a5, rfl, g5⟩ := leaf_u32 Tryz.underlying22 h5
  obtain ⟨a6, rfl, g6⟩ := leaf_u32 Tryz.underlying22 h6
  obtain ⟨a7, rfl, g7⟩ := leaf_u32 Tryz.underlying22 h7
  exact ⟨⟨a1, a2, a3, a4, a5, a6, a7⟩, rfl, g1, g4, g5, g6, g7⟩
theorem n9_of {n : Nat} {xs : List V} (hx : RowV (LeafV Tryz.prog n) [22, 9] xs) : ∃ x : N9, xs = n9El x ∧ x.Ok := by
  obtain ⟨x1, _, rfl, h1, hx⟩ := rowv_cons hx
  obtain ⟨x2, _, rfl, h2, hx⟩ := rowv_cons hx
  obtain rfl := rowv_nil hx
  obtain ⟨a, rfl, ha⟩ := leaf_u32 Tryz.underlying22 h1
  obtain ⟨b, rfl, hb⟩ := leaf_str Tryz.underlying9 h2
  exact ⟨⟨a, b⟩, rfl, ha, hb⟩
theorem l11_of {n : Nat} {xs : List V} (hx : RowV (LeafV Tryz.prog n) [3, 3, 3, 22, 22, 22, 22, 22] xs) : ∃ x : L11, xs = l11El x ∧ x.Ok := by
  obtain ⟨x1, _, rfl, h1, hx⟩ := rowv_cons hx
  obtain ⟨x2, _, rfl, h2, hx⟩ := rowv_cons hx
  obtain ⟨x3, _, rfl, h3, hx⟩ := rowv_cons hx
  obtain ⟨x4, _, rfl, h4, hx⟩ := rowv_cons hx
  obtain ⟨x5, _, rfl, h5, hx⟩ := rowv_cons hx
  obtain ⟨x6, _, rfl, h6, hx⟩ := rowv_cons hx
  obtain ⟨x7, _, rfl, h7, hx⟩ := rowv_cons hx
  obtain ⟨x8, _, rfl, h8, hx⟩ := rowv_cons hx
  obtain rfl := rowv_nil hx
  obtain ⟨a1, rfl, g1⟩ := leaf_i64 Tryz.underlying3 h1
  obtain ⟨a2, rfl, g2⟩ := leaf_i64 Tryz.underlying3 h2
  obtain ⟨a3, rfl, g3⟩ := leaf_i64 Tryz.underlying3 h3
  obtain ⟨a4, rfl, g4⟩ := leaf_u32 Tryz.underlying22 h4
  obtain ⟨a5, rfl, g5⟩ := leaf_u32 Tryz.underlying22 h5
  obtain ⟨a6, rfl, g6⟩ := leaf_u32 Tryz.underlying22 h6
  obtain ⟨a7, rfl, g7⟩ := leaf_u32 Tryz.underlying22 h7
  obtain ⟨a8, rfl, g8⟩ := leaf_u32 Tryz.underlying22 h8
  exact ⟨⟨a1, a2, a3, a4, a5, a6, a7, a8⟩, rfl, g4, g5, g6, g7, g8⟩
theorem a11_of {n : Nat} {xs : List V} (hx : RowV (LeafV Tryz.prog n) [3, 4, 3] xs) : ∃ x : A11, xs = a11El x ∧ True := by
  obtain ⟨x1, _, rfl, h1, hx⟩ := rowv_cons hx
  obtain ⟨x2, _, rfl, h2, hx⟩ := rowv_cons hx
  obtain ⟨x3, _, rfl, h3, hx⟩ := rowv_cons hx
  obtain rfl := rowv_nil hx
  obtain ⟨a1, rfl, g1⟩ := leaf_i64 Tryz.underlying3 h1
  obtain ⟨a2, rfl⟩ := leaf_bool Tryz.underlying4 h2
  obtain ⟨a3, rfl, g3⟩ := leaf_i64 Tryz.underlying3 h3
  exact ⟨⟨a1, a2, a3⟩, rfl, trivial⟩
set_option maxRecDepth 100000 in
set_option maxHeartbeats 8000000 in
theorem open_said (hv : Value.okWide Tryz.prog w r b0 35 v) (h : DataW.Trod enc Tryz.prog w base spare held 35 v d p) :
    ∃ (R : R8) (Ns : List N9) (us : List Int) (Ln : R11) (A : List A11) (bye : Bool), Rd (cellsOf w) (.agg (wordsV R Ns us Ln A bye)) v ∧ SaidOk R Ns us Ln A := by
  obtain ⟨n, xs, hx, hr⟩ := open_struct (ls := [22, 4, 3, 22, 22, 22, 25, 28, 29, 22, 30, 33, 4]) Tryz.underlying35 (by kernel_rfl) (by kernel_rfl) hv h
  obtain ⟨x1, _, rfl, h1, hx⟩ := rowv_cons hx
  obtain ⟨x2, _, rfl, h2, hx⟩ := rowv_cons hx
  obtain ⟨x3, _, rfl, h3, hx⟩ := rowv_cons hx
  obtain ⟨x4, _, rfl, h4, hx⟩ := rowv_cons hx
  obtain ⟨x5, _, rfl, h5, hx⟩ := rowv_cons hx
  obtain ⟨x6, _, rfl, h6, hx⟩ := rowv_cons hx
  obtain ⟨x7, _, rfl, h7, hx⟩ := rowv_cons hx
  obtain ⟨x8, _, rfl, h8, hx⟩ := rowv_cons hx
  obtain ⟨x9, _, rfl, h9, hx⟩ := rowv_cons hx
  obtain ⟨x10, _, rfl, h10, hx⟩ := rowv_cons hx
  obtain ⟨x11, _, rfl, h11, hx⟩ := rowv_cons hx
  obtain ⟨x12, _, rfl, h12, hx⟩ := rowv_cons hx
  obtain ⟨x13, _, rfl, h13, hx⟩ := rowv_cons hx
  obtain rfl := rowv_nil hx
  obtain ⟨a1, rfl, g1⟩ := leaf_u32 Tryz.underlying22 h1
  obtain ⟨a2, rfl⟩ := leaf_bool Tryz.underlying4 h2
  obtain ⟨a3, rfl, g3⟩ := leaf_i64 Tryz.underlying3 h3
  obtain ⟨a4, rfl, g4⟩ := leaf_u32 Tryz.underlying22 h4
  obtain ⟨a5, rfl, g5⟩ := leaf_u32 Tryz.underlying22 h5
  obtain ⟨a6, rfl, g6⟩ := leaf_u32 Tryz.underlying22 h6
  obtain ⟨es, n', rfl, hl, hes⟩ := leaf_slice (sz := 7) (ls := [22, 3, 3, 22, 22, 22, 22]) Tryz.underlying25 (by kernel_rfl) (by kernel_rfl) h7
  obtain ⟨bs, rfl, hbs⟩ := list_of fun r hr => b8_of (hes r hr)
  obtain ⟨es2, n2, rfl, hl2, hes2⟩ := leaf_slice (sz := 2) (ls := [22, 9]) Tryz.underlying28 (by kernel_rfl) (by kernel_rfl) h8
  obtain ⟨Ns, rfl, hNs⟩ := list_of fun r hr => n9_of (hes2 r hr)
  obtain ⟨es3, n3, rfl, hl3, hes3⟩ := leaf_slice (sz := 1) (ls := [40]) Tryz.underlying29 (by kernel_rfl) (by kernel_rfl) h9
  obtain ⟨us, rfl, hus⟩ := list_of (f := fun n => [vh n]) (Q := fun n => 0 ≤ n ∧ n < 65536) fun r hr => by
    obtain ⟨y, _, rfl, g1, g2⟩ := rowv_cons (hes3 r hr)
    obtain rfl := rowv_nil g2
    obtain ⟨m, rfl, hm⟩ := leaf_u16 Tryz.underlying40 g1
    exact ⟨m, rfl, hm⟩
  obtain ⟨a10, rfl, g10⟩ := leaf_u32 Tryz.underlying22 h10
  obtain ⟨es4, n4, rfl, hl4, hes4⟩ := leaf_slice (sz := 8) (ls := [3, 3, 3, 22, 22, 22, 22, 22]) Tryz.underlying30 (by kernel_rfl) (by kernel_rfl) h11
  obtain ⟨ll, rfl, hll⟩ := list_of fun r hr => l11_of (hes4 r hr)
  obtain ⟨es5, n5, rfl, hl5, hes5⟩ := leaf_slice (sz := 3) (ls := [3, 4, 3]) Tryz.underlying33 (by kernel_rfl) (by kernel_rfl) h12
  obtain ⟨al, rfl, _⟩ := list_of fun r hr => a11_of (hes5 r hr)
  obtain ⟨a13, rfl⟩ := leaf_bool Tryz.underlying4 h13
  rw [List.length_map] at hl hl2 hl3 hl4 hl5
  exact ⟨⟨a1, a2, ⟨a3, a4, a5, a6⟩, bs⟩, Ns, us, ⟨a10, ll⟩, al, a13, hr, ⟨⟨⟨g1, ⟨g4, g5, g6⟩, hbs⟩, by unfold maxLen at hl; dsimp only; omega⟩, hNs, hl2, hus, hl3, ⟨g10, hll, hl4⟩, hl5⟩⟩
end
end Go.Proofs.YtbnnfmleoebelaaGreat

