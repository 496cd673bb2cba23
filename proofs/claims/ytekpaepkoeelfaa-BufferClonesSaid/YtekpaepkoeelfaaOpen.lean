
/- Arguments opened: slices of structs whose fields take one cell each. -/
import Derived.Test.YtekpaepkoeelfaaKit
import Derived.Deep.Slices
import Derived.Deep.Fields
import Derived.ChangeSame
import Derived.Lib.SmallJoins
namespace Go.Proofs.Ytekpaepkoeelfaa
open Go.RowKit Go.ChangeShapes Go.WideShapes Go.Deep
set_option linter.unusedVariables false
set_option linter.unusedSimpArgs false

section
variable {H : Type} {enc : TypeId × Value → H} {P : Program} {w : World} {base : Nat} {spare : Nat → Bool} {held : Bool}
theorem open_slice_fields {t e : TypeId} {fs : Array Field} {fuel : Nat} {cs : List Value} {x : DataW H × List MemPlace} (ht : P.underlying t = some (.slice e)) (he : P.underlying e = some (.struct fs))
    (hone : oneCellFields P fs = true) (hC : P.cellsOf e = fs.size) (h : DataW.trod enc P w base spare held fuel t cs = some x) :
    (cs = [.slice none 0 0] ∧ x = (.nil, [])) ∨
    ∃ (a : Addr) (len cap m : Nat) (D : Nat → DataW H) (Pl : Nat → List MemPlace), cs = [.slice (some a) len cap] ∧ base ≤ a.block ∧ len ≤ cap ∧ cap ≤ maxLen ∧ m = (if spare a.block then cap else len) ∧
      x = (.slice ((List.range len).map D) ((List.range (m - len)).map fun j => D (len + j)), MemPlace.row a (m * fs.size) ++ (List.range m).flatMap Pl) ∧
      ∀ i, i < m → ∃ (ys : List (DataW H × List MemPlace)) (n : Nat), D i = .agg (ys.map (·.1)) ∧ Pl i = ys.flatMap (·.2) ∧ ys.length = fs.size ∧
        ∀ (j : Nat) (f : Field), fs[j]? = some f → ∃ (v : Value) (y : DataW H × List MemPlace), w.cell? (a.add (i * fs.size + j)) = some v ∧ ys[j]? = some y ∧ DataW.trod enc P w base spare held n f.type [v] = some y := by
  rcases open_slice ht h with h0 | ⟨a, len, cap, m, n, D, Pl, hcs, hb, hl, hm, hmm, hx, hi⟩
  · exact .inl h0
  · refine .inr ⟨a, len, cap, m, D, Pl, hcs, hb, hl, hm, hmm, by rw [hC] at hx; exact hx, fun i him => ?_⟩
    obtain ⟨cs', hc, ht'⟩ := hi i him
    rw [hC] at hc
    obtain ⟨ys, n', hn', hy, hlen, hyl, hf⟩ := DataW.trod_struct he ht'
    obtain ⟨_, hcl, hat⟩ := World.cells?_some hc
    simp only [Prod.mk.injEq] at hy
    refine ⟨ys, n', hy.1, hy.2, hyl, fun j f hj => ?_⟩
    obtain ⟨ho, hk⟩ := hone_of hone j f hj
    have hjl : j < fs.size := (Array.getElem?_eq_some_iff.1 hj).1
    have hcell := hat j hjl
    have hv : cs'[j]? = some (cs'[j]'(by omega)) := List.getElem?_eq_getElem (by omega)
    have h1 := hf j f hj
    rw [ho, hk] at h1
    have hone' : (cs'.drop j).take 1 = [cs'[j]'(by omega)] := by
      rw [List.drop_eq_getElem_cons (by omega)]
      rfl
    rw [hone'] at h1
    have hys : ys[j]? = some (ys[j]'(by omega)) := List.getElem?_eq_getElem (by omega)
    refine ⟨_, _, ?_, hys, h1.trans hys⟩
    rw [← Go.Deep.add_add, hcell, hv]
end

/-- What a law is told of a slice of structs that came in: each element's cells. -/
def ArgRows (w : World) (A : Option Addr) (size n : Nat) (rows : List (List Value)) : Prop :=
  rows.length = n ∧ n ≤ maxLen ∧ ∀ (i : Nat) (h : i < rows.length), ∃ b o, A = some ⟨b, o, none⟩ ∧ b < w.heap.size ∧ ∀ j u, rows[i][j]? = some u → w.cell? ⟨b, o + (i * size + j), none⟩ = some u
theorem ArgRows.keep {w w' : World} {A : Option Addr} {size n : Nat} {rows : List (List Value)} (h : ArgRows w A size n rows) (hc : Chg Nothing w w') : ArgRows w' A size n rows :=
  ⟨h.1, h.2.1, fun i hi => by
    obtain ⟨b, o, hA, hb, hcell⟩ := h.2.2 i hi
    exact ⟨b, o, hA, Nat.lt_of_lt_of_le hb hc.size, fun j u hu => (hc.cell (p := ⟨b, _, none⟩) hb id).trans (hcell j u hu)⟩⟩

/-- Which values a field of a kind may hold. -/
def FieldOk (k : Nat) (v : Value) : Prop :=
  match k with
  | 0 => ∃ n : Int, v = .int .i64 n ∧ -9223372036854775807 ≤ n + 1 ∧ n ≤ 9223372036854775807
  | 1 => ∃ n : Int, v = .int .u32 n ∧ 0 ≤ n ∧ n < 4294967296
  | 2 => ∃ b : Bool, v = .bool b
  | 3 => ∃ l : List UInt8, v = str l ∧ l.length ≤ maxLen
  | _ => True

theorem addr_form {w : World} {a : Addr} {k : Nat} {v : Value} (h : w.cell? (a.add k) = some v) (h0 : ∃ u, w.cell? (a.add 0) = some u) : a = ⟨a.block, a.off, none⟩ := by
  obtain ⟨u, hu⟩ := h0
  have : a.add 0 = a := by simp [Addr.add]
  rw [this] at hu
  have := World.cell?_spot hu
  cases a; simp_all
theorem add_lit (b o k : Nat) : (⟨b, o, none⟩ : Addr).add k = ⟨b, o + k, none⟩ := by
  unfold Addr.add; split <;> simp_all

def FieldKind (P : Program) (k : Nat) (t : TypeId) : Prop :=
  match k with
  | 0 => P.underlying t = some (.int .i64)
  | 1 => P.underlying t = some (.int .u32)
  | 2 => P.underlying t = some .bool
  | 3 => P.underlying t = some .string
  | _ => True
section
variable {H : Type} {enc : TypeId × Value → H} {P : Program} {w : World} {base : Nat} {spare : Nat → Bool} {held : Bool}
theorem field_ok {k : Nat} {t : TypeId} {n : Nat} {v : Value} {y : DataW H × List MemPlace} (hk : FieldKind P k t) (h : DataW.trod enc P w base spare held n t [v] = some y) : FieldOk k v := by
  match k, hk with
  | 0, hk =>
    obtain ⟨m, e, _, hw⟩ := DataW.trod_int hk h
    simp at e; subst e
    exact ⟨m, rfl, (i64_bounds hw).1, (i64_bounds hw).2⟩
  | 1, hk =>
    obtain ⟨m, e, _, hw⟩ := DataW.trod_int hk h
    simp at e; subst e
    exact ⟨m, rfl, (u32_bounds hw).1, (u32_bounds hw).2⟩
  | 2, hk =>
    obtain ⟨b, e, _⟩ := DataW.trod_bool hk h
    simp at e; subst e
    exact ⟨b, rfl⟩
  | 3, hk =>
    obtain ⟨s, e, _, hw⟩ := DataW.trod_string hk h
    simp at e; subst e
    obtain ⟨l, rfl⟩ := str_of s
    exact ⟨l, rfl, by simpa using hw⟩
  | k + 4, _ => trivial

theorem open_rows {t e : TypeId} {fs : Array Field} {v : Value} {d : DataW H} {p : List MemPlace} {r : Reach} {b0 : Nat} (ks : List Nat) (ht : P.underlying t = some (.slice e)) (he : P.underlying e = some (.struct fs))
    (hone : oneCellFields P fs = true) (hC : P.cellsOf e = fs.size) (hpos : 0 < fs.size) (hk : ∀ j f, fs[j]? = some f → FieldKind P (ks.getD j 9) f.type) (hv : Value.okWide P w r b0 t v) (h : DataW.Trod enc P w base spare held t v d p) :
    ∃ A n c rows, v = .slice A n c ∧ n ≤ c ∧ ArgRows w A fs.size n rows ∧ ∀ row ∈ rows, row.length = fs.size ∧ ∀ j u, row[j]? = some u → FieldOk (ks.getD j 9) u := by
  obtain ⟨a0, len0, cap0, rfl⟩ := okWide_slice ht hv
  obtain ⟨fuel, hf⟩ := h
  rcases open_slice_fields ht he hone hC hf with ⟨hcs, _⟩ | ⟨a, len, cap, m, D, Pl, hcs, _, hl, hm, hmm, _, hi⟩
  · simp [Value.cells] at hcs
    obtain ⟨rfl, rfl, rfl⟩ := hcs
    exact ⟨none, 0, 0, [], rfl, Nat.le_refl _, ⟨rfl, Nat.zero_le _, fun i h => by cases h⟩, fun _ h => by cases h⟩
  · simp [Value.cells] at hcs
    obtain ⟨rfl, rfl, rfl⟩ := hcs
    have hlm : len0 ≤ m := by rw [hmm]; split <;> omega
    refine ⟨some a, len0, cap0, (List.range len0).map fun i => (List.range fs.size).map fun j => (w.cell? (a.add (i * fs.size + j))).getD undef, rfl, hl, ⟨by simp, by omega, fun i hlt => ?_⟩, fun row hr => ?_⟩
    · have hlt' : i < len0 := by simpa using hlt
      obtain ⟨ys, n, _, _, hyl, hfl⟩ := hi i (by omega)
      obtain ⟨v0, y0, hc0, _, _⟩ := hfl 0 fs[0] (Array.getElem?_eq_getElem hpos)
      have ha : a = ⟨a.block, a.off, none⟩ := by
        rcases Nat.eq_zero_or_pos (i * fs.size + 0) with hz | hz
        · exact addr_form hc0 ⟨v0, by rw [hz] at hc0; exact hc0⟩
        · obtain ⟨ys', n', _, _, _, hfl'⟩ := hi 0 (by omega)
          obtain ⟨u0, z0, hd0, _, _⟩ := hfl' 0 fs[0] (Array.getElem?_eq_getElem hpos)
          exact addr_form hc0 ⟨u0, by simpa using hd0⟩
      refine ⟨a.block, a.off, congrArg some ha, ?_, fun j u hu => ?_⟩
      · have := World.block_lt_of_cell? w _ hc0
        rw [ha, add_lit] at this
        exact this
      · simp only [List.getElem_map, List.getElem_range, List.getElem?_map, Option.map_eq_some_iff] at hu
        obtain ⟨j', hj', rfl⟩ := hu
        have hj2 : j < fs.size ∧ j' = j := by
          obtain ⟨hh, e⟩ := List.getElem?_eq_some_iff.1 hj'
          simp at hh e
          exact ⟨hh, e.symm⟩
        obtain ⟨hj2, rfl⟩ := hj2
        obtain ⟨v1, y1, hc1, _, _⟩ := hfl j' fs[j'] (Array.getElem?_eq_getElem hj2)
        have e2 : a.add (i * fs.size + j') = ⟨a.block, a.off + (i * fs.size + j'), none⟩ := by
          have := congrArg (fun q : Addr => q.add (i * fs.size + j')) ha
          simp only [add_lit] at this
          exact this
        rw [hc1, ← e2, hc1]; rfl
    · obtain ⟨i, hir, rfl⟩ := List.mem_map.1 hr
      have hlt' : i < len0 := by simpa using hir
      obtain ⟨ys, n, _, _, hyl, hfl⟩ := hi i (by omega)
      refine ⟨by simp, fun j u hu => ?_⟩
      simp only [List.getElem?_map, Option.map_eq_some_iff] at hu
      obtain ⟨j', hj', rfl⟩ := hu
      have hj2 : j < fs.size ∧ j' = j := by
        obtain ⟨hh, e⟩ := List.getElem?_eq_some_iff.1 hj'
        simp at hh e
        exact ⟨hh, e.symm⟩
      obtain ⟨hj2, rfl⟩ := hj2
      obtain ⟨v1, y1, hc1, _, ht1⟩ := hfl j' fs[j'] (Array.getElem?_eq_getElem hj2)
      rw [hc1]
      exact field_ok (hk j' fs[j'] (Array.getElem?_eq_getElem hj2)) ht1
end
theorem rows_map {α β : Type} (f : α → β) (rows : List β) (h : ∀ row ∈ rows, ∃ x, row = f x) : ∃ xs : List α, rows = xs.map f := by
  induction rows with
  | nil => exact ⟨[], rfl⟩
  | cons r rows ih =>
    obtain ⟨x, rfl⟩ := h r (List.mem_cons_self)
    obtain ⟨xs, rfl⟩ := ih fun row hr => h row (List.mem_cons_of_mem _ hr)
    exact ⟨x :: xs, rfl⟩
end Go.Proofs.Ytekpaepkoeelfaa
