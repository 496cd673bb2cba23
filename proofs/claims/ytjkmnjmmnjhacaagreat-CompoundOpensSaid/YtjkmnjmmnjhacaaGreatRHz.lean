/- Arguments opened: slices of structs whose fields take one cell each. -/
import Derived.Test.YtjkmnjmmnjhacaaGreatKitz
import Derived.Deep.Slices
import Derived.Deep.Fields
import Derived.ChangeSame
import Derived.Lib.SmallJoins
import Derived.Test.YtjkmnjmmnjhacaaGreatREz
import Derived.Laws.StructEq
namespace Go.Proofs.YtjkmnjmmnjhacaaGreat
open Go.RowKit Go.ChangeShapes Go.WideShapes Go.Deep
set_option linter.unusedVariables false
set_option linter.unusedSimpArgs false

section
variable {H : Type} {enc : TypeId × Value → H} {P : Program} {w : World} {base : Nat} {spare : Nat → Bool} {held : Bool}
theorem open_slice_fields {t e : TypeId} {fs : Array Field} {fuel : Nat} {cs : List Value} {x : DataW H × List MemPlace} (ht : P.underlying t = some (.slice e)) (he : P.underlying e = some (.struct fs))
    (hone : oneCellFields P fs = true) (hC : P.cellsOf e = fs.size) (h : DataW.trod enc P w base spare held fuel t cs = some x) :
    (cs = [.slice none 0 0] ∧ x = (.nil, [])) ∨
    ∃ (a : Addr) (len cap m : Nat) (D : Nat → DataW H) (Pl : Nat → List MemPlace), cs = [.slice (some a) len cap] ∧ base ≤ a.block ∧ len ≤ cap ∧ cap ≤ maxLen ∧ m = (if spare a.block then cap else len) ∧
      x = (.slice ((List.range len).map D) ((List.range (m - len)).map fun j => D (len + j)), MemPlace.row a (m * fs.size) ++ (List.range m).flatMap Pl) ∧
      ∀ i, i < m → ∃ (ys : List (DataW H × List MemPlace)) (n : Nat), D i = .agg (ys.map (·.1)) ∧ Pl i = ys.flatMap (·.2) ∧ ys.length = fs.size ∧
        ∀ (j : Nat) (f : Field), fs[j]? = some f → ∃ (v : Value) (y : DataW H × List MemPlace), w.cell? (a.add (i * fs.size + j)) = some v ∧ ys[j]? = some y ∧ DataW.trod enc P w base spare held n f.type [v] = some y := by
  rcases open_slice ht h with h0 | ⟨a, len, cap, m, n, D, Pl, hcs, hb, hl, hm, hmm, hx, hi⟩
  · exact .inl h0
  · refine .inr ⟨a, len, cap, m, D, Pl, hcs, hb, hl, hm, hmm, by rw [hC] at hx; exact hx, fun i him => ?_⟩
    obtain ⟨cs', hc, ht'⟩ := hi i him
    rw [hC] at hc
    obtain ⟨ys, n', hn', hy, hlen, hyl, hf⟩ := DataW.trod_struct he ht'
    obtain ⟨_, hcl, hat⟩ := World.cells?_some hc
    simp only [Prod.mk.injEq] at hy
    refine ⟨ys, n', hy.1, hy.2, hyl, fun j f hj => ?_⟩
    obtain ⟨ho, hk⟩ := hone_of hone j f hj
    have hjl : j < fs.size := (Array.getElem?_eq_some_iff.1 hj).1
    have hcell := hat j hjl
    have hv : cs'[j]? = some (cs'[j]'(by omega)) := List.getElem?_eq_getElem (by omega)
    have h1 := hf j f hj
    rw [ho, hk] at h1
    have hone' : (cs'.drop j).take 1 = [cs'[j]'(by omega)] := by
      rw [List.drop_eq_getElem_cons (by omega)]
      rfl
    rw [hone'] at h1
    have hys : ys[j]? = some (ys[j]'(by omega)) := List.getElem?_eq_getElem (by omega)
    refine ⟨_, _, ?_, hys, h1.trans hys⟩
    rw [← Go.Deep.add_add, hcell, hv]
end

/-- What a law is told of a slice of structs that came in: each element's cells. -/
def ArgRows (w : World) (A : Option Addr) (size n : Nat) (rows : List (List Value)) : Prop :=
  rows.length = n ∧ n ≤ maxLen ∧ ∀ (i : Nat) (h : i < rows.length), ∃ b o, A = some ⟨b, o, none⟩ ∧ b < w.heap.size ∧ ∀ j u, rows[i][j]? = some u → w.cell? ⟨b, o + (i * size + j), none⟩ = some u
/-- Which values a field of a kind may hold. -/
def FieldOk (k : Nat) (v : Value) : Prop :=
  match k with
  | 0 => ∃ n : Int, v = .int .i64 n ∧ -9223372036854775807 ≤ n + 1 ∧ n ≤ 9223372036854775807
  | 1 => ∃ n : Int, v = .int .u32 n ∧ 0 ≤ n ∧ n < 4294967296
  | 2 => ∃ b : Bool, v = .bool b
  | 3 => ∃ l : List UInt8, v = str l ∧ l.length ≤ maxLen
  | _ => True

theorem addr_form {w : World} {a : Addr} {k : Nat} {v : Value} (h : w.cell? (a.add k) = some v) (h0 : ∃ u, w.cell? (a.add 0) = some u) : a = ⟨a.block, a.off, none⟩ := by
  obtain ⟨u, hu⟩ := h0
  have : a.add 0 = a := by simp [Addr.add]
  rw [this] at hu
  have := World.cell?_spot hu
  cases a; simp_all
theorem add_lit (b o k : Nat) : (⟨b, o, none⟩ : Addr).add k = ⟨b, o + k, none⟩ := by
  unfold Addr.add; split <;> simp_all

def FieldKind (P : Program) (k : Nat) (t : TypeId) : Prop :=
  match k with
  | 0 => P.underlying t = some (.int .i64)
  | 1 => P.underlying t = some (.int .u32)
  | 2 => P.underlying t = some .bool
  | 3 => P.underlying t = some .string
  | _ => True
section
variable {H : Type} {enc : TypeId × Value → H} {P : Program} {w : World} {base : Nat} {spare : Nat → Bool} {held : Bool}
theorem field_ok {k : Nat} {t : TypeId} {n : Nat} {v : Value} {y : DataW H × List MemPlace} (hk : FieldKind P k t) (h : DataW.trod enc P w base spare held n t [v] = some y) : FieldOk k v := by
  match k, hk with
  | 0, hk =>
    obtain ⟨m, e, _, hw⟩ := DataW.trod_int hk h
    simp at e; subst e
    exact ⟨m, rfl, (i64_bounds hw).1, (i64_bounds hw).2⟩
  | 1, hk =>
    obtain ⟨m, e, _, hw⟩ := DataW.trod_int hk h
    simp at e; subst e
    exact ⟨m, rfl, (u32_bounds hw).1, (u32_bounds hw).2⟩
  | 2, hk =>
    obtain ⟨b, e, _⟩ := DataW.trod_bool hk h
    simp at e; subst e
    exact ⟨b, rfl⟩
  | 3, hk =>
    obtain ⟨s, e, _, hw⟩ := DataW.trod_string hk h
    simp at e; subst e
    obtain ⟨l, rfl⟩ := str_of s
    exact ⟨l, rfl, by simpa using hw⟩
  | k + 4, _ => trivial

theorem open_rows {t e : TypeId} {fs : Array Field} {v : Value} {d : DataW H} {p : List MemPlace} {r : Reach} {b0 : Nat} (ks : List Nat) (ht : P.underlying t = some (.slice e)) (he : P.underlying e = some (.struct fs))
    (hone : oneCellFields P fs = true) (hC : P.cellsOf e = fs.size) (hpos : 0 < fs.size) (hk : ∀ j f, fs[j]? = some f → FieldKind P (ks.getD j 9) f.type) (hv : Value.okWide P w r b0 t v) (h : DataW.Trod enc P w base spare held t v d p) :
    ∃ A n c rows, v = .slice A n c ∧ n ≤ c ∧ ArgRows w A fs.size n rows ∧ ∀ row ∈ rows, row.length = fs.size ∧ ∀ j u, row[j]? = some u → FieldOk (ks.getD j 9) u := by
  obtain ⟨a0, len0, cap0, rfl⟩ := okWide_slice ht hv
  obtain ⟨fuel, hf⟩ := h
  rcases open_slice_fields ht he hone hC hf with ⟨hcs, _⟩ | ⟨a, len, cap, m, D, Pl, hcs, _, hl, hm, hmm, _, hi⟩
  · simp [Value.cells] at hcs
    obtain ⟨rfl, rfl, rfl⟩ := hcs
    exact ⟨none, 0, 0, [], rfl, Nat.le_refl _, ⟨rfl, Nat.zero_le _, fun i h => by cases h⟩, fun _ h => by cases h⟩
  · simp [Value.cells] at hcs
    obtain ⟨rfl, rfl, rfl⟩ := hcs
    have hlm : len0 ≤ m := by rw [hmm]; split <;> omega
    refine ⟨some a, len0, cap0, (List.range len0).map fun i => (List.range fs.size).map fun j => (w.cell? (a.add (i * fs.size + j))).getD undef, rfl, hl, ⟨by simp, by omega, fun i hlt => ?_⟩, fun row hr => ?_⟩
    · have hlt' : i < len0 := by simpa using hlt
      obtain ⟨ys, n, _, _, hyl, hfl⟩ := hi i (by omega)
      obtain ⟨v0, y0, hc0, _, _⟩ := hfl 0 fs[0] (Array.getElem?_eq_getElem hpos)
      have ha : a = ⟨a.block, a.off, none⟩ := by
        rcases Nat.eq_zero_or_pos (i * fs.size + 0) with hz | hz
        · exact addr_form hc0 ⟨v0, by rw [hz] at hc0; exact hc0⟩
        · obtain ⟨ys', n', _, _, _, hfl'⟩ := hi 0 (by omega)
          obtain ⟨u0, z0, hd0, _, _⟩ := hfl' 0 fs[0] (Array.getElem?_eq_getElem hpos)
          exact addr_form hc0 ⟨u0, by simpa using hd0⟩
      refine ⟨a.block, a.off, congrArg some ha, ?_, fun j u hu => ?_⟩
      · have := World.block_lt_of_cell? w _ hc0
        rw [ha, add_lit] at this
        exact this
      · simp only [List.getElem_map, List.getElem_range, List.getElem?_map, Option.map_eq_some_iff] at hu
        obtain ⟨j', hj', rfl⟩ := hu
        have hj2 : j < fs.size ∧ j' = j := by
          obtain ⟨hh, e⟩ := List.getElem?_eq_some_iff.1 hj'
          simp at hh e
          exact ⟨hh, e.symm⟩
        obtain ⟨hj2, rfl⟩ := hj2
        obtain ⟨v1, y1, hc1, _, _⟩ := hfl j' fs[j'] (Array.getElem?_eq_getElem hj2)
        have e2 : a.add (i * fs.size + j') = ⟨a.block, a.off + (i * fs.size + j'), none⟩ := by
          have := congrArg (fun q : Addr => q.add (i * fs.size + j')) ha
          simp only [add_lit] at this
          exact this
        rw [hc1, ← e2, hc1]; rfl
    · obtain ⟨i, hir, rfl⟩ := List.mem_map.1 hr
      have hlt' : i < len0 := by simpa using hir
      obtain ⟨ys, n, _, _, hyl, hfl⟩ := hi i (by omega)
      refine ⟨by simp, fun j u hu => ?_⟩
      simp only [List.getElem?_map, Option.map_eq_some_iff] at hu
      obtain ⟨j', hj', rfl⟩ := hu
      have hj2 : j < fs.size ∧ j' = j := by
        obtain ⟨hh, e⟩ := List.getElem?_eq_some_iff.1 hj'
        simp at hh e
        exact ⟨hh, e.symm⟩
      obtain ⟨hj2, rfl⟩ := hj2
      obtain ⟨v1, y1, hc1, _, ht1⟩ := hfl j' fs[j'] (Array.getElem?_eq_getElem hj2)
      rw [hc1]
      exact field_ok (hk j' fs[j'] (Array.getElem?_eq_getElem hj2)) ht1
end
theorem rows_map {α β : Type} (f : α → β) (rows : List β) (h : ∀ row ∈ rows, ∃ x, row = f x) : ∃ xs : List α, rows = xs.map f := by
  induction rows with
  | nil => exact ⟨[], rfl⟩
  | cons r rows ih =>
    obtain ⟨x, rfl⟩ := h r (List.mem_cons_self)
    obtain ⟨xs, rfl⟩ := ih fun row hr => h row (List.mem_cons_of_mem _ hr)
    exact ⟨x :: xs, rfl⟩
end Go.Proofs.YtjkmnjmmnjhacaaGreat

namespace Go.Proofs.YtjkmnjmmnjhacaaGreat
open Go.RowKit
set_option linter.unusedVariables false
set_option linter.unusedSimpArgs false

section
variable {P : Program} {ops : Array Oper} {C : Ctx} {md : Bool} {σ : St} {K : St → List FP → Prop} {acc : List FP} {rest : List Oper}
theorem rd_agg_sc {m : Mem} {xs : List Value} {v : Value} (h : Rd m (.agg (xs.map .sc)) v) : v = .agg xs.toArray := by
  cases h with
  | agg _ ys hl hh =>
    congr 1
    apply Array.ext
    · simpa using hl
    · intro i h1 h2
      have h3 : i < (xs.map V.sc).length := by omega
      have := hh i h3
      rw [List.getElem_map] at this
      have := Rd.sc_eq this
      simpa using this
theorem ok_cmpA {d : Tmp} {op : BinOp} {t t' : TypeId} {x y : Operand} {xs ys : List Value} {b : Bool} (hop : op = .eql ∨ op = .neq) (hx : ev σ x = .val (.agg (xs.map .sc))) (hy : ev σ y = .val (.agg (ys.map .sc)))
    (hm : P.eqGuardType P.depth t = false) (hq : ∀ w, (binOp op t (.agg xs.toArray) (.agg ys.toArray)).run P w = .ok (.bool b) w) :
    StOk P C σ (some d) (.binOp op t x y t') (some (True, rdl x ++ rdl y, [(.s d, .av (.val (.sc (.bool b))))])) := by
  refine ok_pure fun hc ty pos af E σ' a w hr hg => ?_
  obtain ⟨h1, h2⟩ := mem_l hr
  have e1 := ev_ok hg x
  have e2 := ev_ok hg y
  rw [ev_congr h1, hx] at e1
  rw [ev_congr h2, hy] at e2
  have e1 := rd_agg_sc e1
  have e2 := rd_agg_sc e2
  refine ⟨.bool b, ?_, Rd.sc _⟩
  rcases hop with rfl | rfl <;> simp [execOp, e1, e2, run_eqGuard_agg (hm := hm), hq]
theorem cmpA_s {d : Tmp} {op : BinOp} {t t' : TypeId} {x y : Operand} {ty : TypeId} {pos : String} {af : Array Edge} (xs ys : List Value) (b : Bool) (hop : op = .eql ∨ op = .neq) (hx : ev σ x = .val (.agg (xs.map .sc))) (hy : ev σ y = .val (.agg (ys.map .sc)))
    (hm : P.eqGuardType P.depth t = false) (hq : ∀ w, (binOp op t (.agg xs.toArray) (.agg ys.toArray)).run P w = .ok (.bool b) w)
    (k : exec P ops C md K rest (put σ (.s d) (.av (.val (.sc (.bool b))))) ((rdl x ++ rdl y, [.s d]) :: acc)) : Run P ops C md K (⟨some d, .binOp op t x y t', ty, pos, af, none⟩ :: rest) σ acc :=
  run_any (ok_cmpA hop hx hy hm hq) rfl trivial k
end

/-! ### A law's call -/
/-- All cells of a world. -/
def cellsOf (w : World) : Mem := fun b i => w.cell? ⟨b, i, none⟩
theorem rows_rd {α : Type} {w : World} {A : Option Addr} {sz n c : Nat} {xs : List α} {f : α → List Value} {g : α → List V} (h : ArgRows w A sz n (xs.map f)) (hl : xs.length = n) (hc : n ≤ c) (hA : xs = [] → A = none ∧ n = 0 ∧ c = 0 ∨ ∃ b o, A = some ⟨b, o, none⟩)
    (hsz : ∀ x, (f x).length = sz) (hg : ∀ x, g x = (f x).map V.sc) : Rd (cellsOf w) (.lst sz (xs.map g)) (.slice A n c) := by
  obtain ⟨h1, h2, h3⟩ := h
  have key : ∀ b o, A = some ⟨b, o, none⟩ → Rd (cellsOf w) (.lst sz (xs.map g)) (.slice A n c) := fun b o hb => by
    have hn : n = (xs.map g).length := by simp [hl]
    rw [hb, hn]
    have hcell : ∀ i j (hi : i < xs.length) (hj : j < sz), cellsOf w b (o + i * sz + j) = some ((f xs[i]).getD j undef) := fun i j hi hj => by
      obtain ⟨b', o', e, _, hh⟩ := h3 i (by simpa using hi)
      rw [hb] at e
      cases e
      have := hh j ((f xs[i]).getD j undef) (by
        rw [List.getElem_map]
        rw [List.getD_eq_getElem?_getD, List.getElem?_eq_getElem (by rw [hsz]; exact hj)]
        rfl)
      unfold cellsOf
      rw [Nat.add_assoc]
      exact this
    refine Rd.lst sz (xs.map g) b o c (fun i j => if hi : i < xs.length then (f xs[i]).getD j undef else undef) (by rw [← hn]; exact hc) (fun i hi => ?_) (fun i j hi hj => ?_) (fun i j hi hj => ?_)
    · rw [List.getElem_map, hg, List.length_map, hsz]
    · have hi' : i < xs.length := by simpa using hi
      rw [dif_pos hi']
      exact hcell i j hi' hj
    · have hi' : i < xs.length := by simpa using hi
      rw [dif_pos hi']
      have e : (List.map g xs)[i] = (f xs[i]).map V.sc := by rw [List.getElem_map, hg]
      have hj' : j < (f xs[i]).length := by rw [e, List.length_map] at hj; exact hj
      have e2 : ((List.map g xs)[i])[j] = .sc ((f xs[i])[j]) := by
        simp only [e, List.getElem_map]
      rw [e2, List.getD_eq_getElem?_getD, List.getElem?_eq_getElem hj']
      exact Rd.sc _
  by_cases hx : xs = []
  · rcases hA hx with ⟨rfl, rfl, rfl⟩ | ⟨b, o, hb⟩
    · subst hx; exact Rd.nil0 sz
    · exact key b o hb
  · have hp : 0 < (xs.map f).length := by simpa using List.length_pos_iff.2 hx
    obtain ⟨b, o, hb, _, _⟩ := h3 0 hp
    exact key b o hb
theorem argsok_vals {m : Mem} {w : World} : ∀ {xs : List V} {vals : List Value}, vals.length = xs.length → (∀ (j : Nat) (x : V) (v : Value), xs[j]? = some x → vals[j]? = some v → Rd m x v) → ArgsOk m w [] (xs.map fun x => .ca (.val x)) vals []
  | [], [], _, _ => .nil
  | x :: xs, v :: vs, hl, h => by
    have := ArgsOk.cons (m := m) (w := w) (bs := []) (a := .ca (.val x)) (v := v) (F := []) ⟨h 0 x v rfl rfl, rfl⟩ (argsok_vals (w := w) (xs := xs) (vals := vs) (by simpa using hl) fun j y u h1 h2 => h (j + 1) y u (by simpa using h1) (by simpa using h2)) (fun b h => by cases h)
    exact this
  | [], _ :: _, hl, _ => by simp at hl
  | _ :: _, [], hl, _ => by simp at hl
theorem holds_vals {w : World} {vals : List Value} {xs : List V} (h : vals.length = xs.length) (hv : ∀ (j : Nat) (x : V) (v : Value), xs[j]? = some x → vals[j]? = some v → Rd (cellsOf w) x v) : Holds (cellsOf w) w vals (xs.map fun x => .ca (.val x)) [] [] [] [] where
  ms := fun b i v h => h
  ar := argsok_vals h hv
  ob := .nil
  di := fun b h => by cases h
/-- A call of values alone. -/
theorem spec_vals {P : Program} {K : FuncId} {xs : List V} {y : V} (h : ∀ (m : Mem) (w : World) (vals : List Value), (∀ b i v, m b i = some v → w.cell? ⟨b, i, none⟩ = some v) → vals.length = xs.length → (∀ (j : Nat) (x : V) (v : Value), xs[j]? = some x → vals[j]? = some v → Rd m x v) →
    Calls P K vals.toArray w fun e w' => ∃ (v : Value) (m' : Mem), e = .returned v ∧ Rd m' y v ∧ m.le m' ∧ (∀ b i v, m' b i = some v → w'.cell? ⟨b, i, none⟩ = some v) ∧ Chg Nothing w w' ∧ ∀ (b i : Nat), b < w.heap.size → m' b i = m b i) : Spec P K (xs.map fun x => .ca (.val x)) [] (.ca (.val y)) [] := by
  intro m w vals bs F G H
  have hl := H.ar.len
  rw [List.length_map] at hl
  have hbs : bs = [] := List.eq_nil_of_length_eq_zero H.ob.len
  subst hbs
  have hv : ∀ {xs : List V} {vals : List Value} {F : List Nat}, ArgsOk m w [] (xs.map fun x => .ca (.val x)) vals F → F = [] ∧ ∀ (j : Nat) (x : V) (v : Value), xs[j]? = some x → vals[j]? = some v → Rd m x v := by
    intro xs
    induction xs with
    | nil => intro vals F h; cases h; exact ⟨rfl, fun j x v h => by simp at h⟩
    | cons x xs ih =>
      intro vals F h
      rw [List.map_cons] at h
      cases h with
      | cons h1 h2 h3 =>
        obtain ⟨e1, e2⟩ := ih h2
        obtain ⟨e3, rfl⟩ := h1
        subst e1
        refine ⟨rfl, fun j y v h4 h5 => ?_⟩
        cases j with
        | zero => simp at h4 h5; subst h4 h5; exact e3
        | succ j => exact e2 j y v (by simpa using h4) (by simpa using h5)
  obtain ⟨hF, hr⟩ := hv H.ar
  have hG := H.ob
  cases hG
  subst hF
  refine (h m w vals H.ms hl hr).mono ?_
  rintro e w' ⟨v, m', rfl, h1, h2, h3, h4, h5⟩
  exact ⟨v, m', [], [], [], rfl, ⟨h3, .cons (F := []) (F' := []) ⟨h1, rfl⟩ .nil (fun b h => by cases h), .nil, fun b h => by cases h⟩, h2, h4.mono fun i _ h => h.elim, fun i b h => by simp at h, fun b i hb _ => h5 b i hb, fun b h => by cases h⟩
theorem top_sc {P : Program} {K : FuncId} {xs : List V} {vals : List Value} {u : Value} {w : World} (hs : Spec P K (xs.map fun x => .ca (.val x)) [] (.ca (.val (.sc u))) []) (h : vals.length = xs.length) (hv : ∀ (j : Nat) (x : V) (v : Value), xs[j]? = some x → vals[j]? = some v → Rd (cellsOf w) x v) :
    Calls P K vals.toArray w fun e w' => e = .returned u ∧ Chg Nothing w w' := by
  refine (hs (cellsOf w) w vals [] [] [] (holds_vals h hv)).mono ?_
  rintro e w' ⟨v, m', bs', F', G', rfl, hh, _, hc, _⟩
  have hu : v = u := by
    have := hh.ar
    cases this with
    | cons h1 _ _ => exact Rd.sc_eq h1.1
  subst hu
  exact ⟨rfl, hc.mono fun b _ hb => by cases hb⟩

theorem mk_append (a b : List UInt8) : ((⟨a.toArray⟩ : ByteArray) ++ ⟨b.toArray⟩) = ⟨(a ++ b).toArray⟩ := by
  apply ByteArray.ext
  simp [ByteArray.data_append]
theorem mk_size (a : List UInt8) : (ByteArray.mk a.toArray).size = a.length := by simp [ByteArray.size]
attribute [go_sem] mk_append mk_size beq_self_eq_true
theorem okWide_addr {P : Program} {w : World} {t e : TypeId} {base n c : Nat} {A : Option Addr} (ht : P.underlying t = some (.slice e)) (h : Value.okWide P w .any base t (.slice A n c)) : A = none ∧ n = 0 ∧ c = 0 ∨ ∃ b o, A = some ⟨b, o, none⟩ := by
  simp only [Value.okWide, ht, Cell.okWide] at h
  cases A with
  | none =>
    left
    unfold Cell.ok at h
    rw [ht] at h
    split at h <;> simp_all
  | some a =>
    right
    unfold Cell.ok at h
    rw [ht] at h
    have h2 : a.spot = none := by
      split at h <;> simp_all [World.has]
    exact ⟨a.block, a.off, by cases a; simp_all⟩

theorem bne_ff : (false != false) = false := rfl
theorem bne_tt : (true != true) = false := rfl
theorem bne_tf : (true != false) = true := rfl
theorem bne_ft : (false != true) = true := rfl
theorem beq_ff : (false == false) = true := rfl
theorem beq_tt : (true == true) = true := rfl
theorem beq_tf : (true == false) = false := rfl
theorem beq_ft : (false == true) = false := rfl
attribute [go_sem] bne_ff bne_tt bne_tf bne_ft beq_ff beq_tt beq_tf beq_ft
section
variable {P : Program} {ops : Array Oper} {C : Ctx} {md : Bool} {σ : St} {K : St → List FP → Prop} {acc : List FP} {rest : List Oper}
theorem gcmpA_s {j : Nat} {g : Bool} {d : Tmp} {op : BinOp} {t t' : TypeId} {x y : Operand} {ty : TypeId} {pos : String} {af : Array Edge} (xs ys : List Value) (b : Bool) (hop : op = .eql ∨ op = .neq)
    (hd : ((ops[j]?).bind (·.dst)).isSome = true ∧ σ (.s (gslot ops j)) = .av (.val (.sc (.bool g)))) (hx : ev σ x = .val (.agg (xs.map .sc))) (hy : ev σ y = .val (.agg (ys.map .sc)))
    (hm : P.eqGuardType P.depth t = false) (hq : ∀ w, (binOp op t (.agg xs.toArray) (.agg ys.toArray)).run P w = .ok (.bool b) w)
    (k : exec P ops C md K rest (put σ (.s d) (.av (.val (.sc (.bool b))))) ((.s (gslot ops j) :: (rdl x ++ rdl y), [.s d]) :: acc)) : Run P ops C md K (⟨some d, .binOp op t x y t', ty, pos, af, some (j, g)⟩ :: rest) σ acc :=
  run_cons (ok_guard hd.1 hd.2 (ok_cmpA hop hx hy hm hq _ _ _ rfl trivial ops ty pos af)) (exec_run k)
end
end Go.Proofs.YtjkmnjmmnjhacaaGreat
namespace Go.Proofs.YtjkmnjmmnjhacaaGreat
open Go.RowKit
set_option linter.unusedVariables false
set_option linter.unusedSimpArgs false

theorem bne_same (b : Bool) : (b != b) = false := by cases b <;> rfl
theorem beq_same (b : Bool) : (b == b) = true := by cases b <;> rfl
attribute [go_sem] bne_same beq_same
section
variable {P : Program} {C : Ctx} {σ : St} {Q : Exit → St → Prop}
/-- A walk may stop ahead of a statement that begins with this region. -/
theorem stop_reg (n : Nat) {l : Array Oper} {d : Bool} {x y : Code} (h : AW P C (.seq (.seq (.region n l d) x) y) σ Q) : AW P C (.seq (.seq (.region n l d) x) y) σ Q := h
/-- What holds where ways meet. -/
def MeetS {α : Type} (I : α → List (Pl × X)) (σ : St) : Prop := ∃ y, weakF σ (I y)
theorem at_meet {α : Type} {I : α → List (Pl × X)} (y : α) (h : weakF σ (I y)) : MeetS I σ := ⟨y, h⟩
theorem meet_s {α : Type} {x y : Code} (I : α → List (Pl × X)) (h1 : AW P C x σ (thenQ (MeetS I) Q)) (h2 : ∀ a, AW P C y (mkSt (I a)) Q) : AW P C (.seq x y) σ Q :=
  aw_seq fun E a w hg => by
    refine Code.wp_mono (fun e a' w' hq => ?_) (h1 E a w hg)
    obtain ⟨E', σ', h3, h4⟩ := hq
    refine ⟨E', σ', ?_, h4⟩
    cases e with
    | normal => obtain ⟨z, h5⟩ := h3; exact aw_weak (I z) (weakF_ok h5) (h2 z)
    | _ => exact h3
end
end Go.Proofs.YtjkmnjmmnjhacaaGreat
namespace Go.Proofs.YtjkmnjmmnjhacaaGreat
open Go.RowKit Go.ChangeShapes Go.WideShapes Go.Deep
set_option linter.unusedVariables false
set_option linter.unusedSimpArgs false

def RowV (f : TypeId → V → Prop) : List TypeId → List V → Prop
  | [], [] => True
  | t :: ts, x :: xs => f t x ∧ RowV f ts xs
  | _, _ => False
def Rds (m : Mem) : List V → List Value → Prop
  | [], [] => True
  | x :: xs, v :: vs => Rd m x v ∧ Rds m xs vs
  | _, _ => False
theorem Rds.len {m : Mem} : ∀ {xs : List V} {vs : List Value}, Rds m xs vs → xs.length = vs.length
  | [], [], _ => rfl
  | x :: xs, v :: vs, h => by simp [Rds.len h.2]
  | [], _ :: _, h => h.elim
  | _ :: _, [], h => h.elim
theorem Rds.get {m : Mem} : ∀ {xs : List V} {vs : List Value}, Rds m xs vs → ∀ (j : Nat) (h1 : j < xs.length) (h2 : j < vs.length), Rd m xs[j] vs[j]
  | x :: xs, v :: vs, h, 0, _, _ => h.1
  | x :: xs, v :: vs, h, j + 1, h1, h2 => Rds.get h.2 j (by simpa using h1) (by simpa using h2)
  | [], _, _, _, h1, _ => by simp at h1
  | _ :: _, [], h, _, _, _ => h.elim
theorem RowV.mono {f g : TypeId → V → Prop} (h : ∀ t x, f t x → g t x) : ∀ {ts : List TypeId} {xs : List V}, RowV f ts xs → RowV g ts xs
  | [], [], _ => trivial
  | t :: ts, x :: xs, k => ⟨h _ _ k.1, RowV.mono h k.2⟩
  | [], _ :: _, k => k.elim
  | _ :: _, [], k => k.elim

section
variable {H : Type} {enc : TypeId × Value → H} {P : Program} {w : World} {base : Nat} {spare : Nat → Bool} {held : Bool}
end
section
variable {P : Program} {n : Nat} {t : TypeId} {x : V}
end
section
variable {H : Type} {enc : TypeId × Value → H} {P : Program} {w : World} {base : Nat} {spare : Nat → Bool} {held : Bool} {t : TypeId} {v : Value} {d : DataW H} {p : List MemPlace} {r : Reach} {b0 : Nat}
end
/-- Arguments, read. -/
theorem vals_cons {m : Mem} {x : V} {v : Value} {xs : List V} {vs : List Value} (h : Rd m x v) (k : ∀ (j : Nat) (y : V) (u : Value), xs[j]? = some y → vs[j]? = some u → Rd m y u) :
    ∀ (j : Nat) (y : V) (u : Value), (x :: xs)[j]? = some y → (v :: vs)[j]? = some u → Rd m y u
  | 0, y, u, hy, hu => by cases hy; cases hu; exact h
  | j + 1, y, u, hy, hu => k j y u (by simpa using hy) (by simpa using hu)
theorem vals_nil {m : Mem} : ∀ (j : Nat) (y : V) (u : Value), ([] : List V)[j]? = some y → ([] : List Value)[j]? = some u → Rd m y u := fun j y u hy _ => by simp at hy
end Go.Proofs.YtjkmnjmmnjhacaaGreat

