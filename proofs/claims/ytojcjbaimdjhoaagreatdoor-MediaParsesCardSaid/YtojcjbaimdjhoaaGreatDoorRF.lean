
/- Structs compared; a law's call, by what its function is known to do. -/
import Derived.Test.YtojcjbaimdjhoaaGreatDoorRE
import Derived.Test.YtojcjbaimdjhoaaGreatDoorOpen
import Derived.Laws.StructEq
namespace Go.Proofs.YtojcjbaimdjhoaaGreatDoor
open Go.RowKit
set_option linter.unusedVariables false
set_option linter.unusedSimpArgs false

section
variable {P : Program} {ops : Array Oper} {C : Ctx} {md : Bool} {σ : St} {K : St → List FP → Prop} {acc : List FP} {rest : List Oper}
theorem rd_agg_sc {m : Mem} {xs : List Value} {v : Value} (h : Rd m (.agg (xs.map .sc)) v) : v = .agg xs.toArray := by
  cases h with
  | agg _ ys hl hh =>
    congr 1
    apply Array.ext
    · simpa using hl
    · intro i h1 h2
      have h3 : i < (xs.map V.sc).length := by omega
      have := hh i h3
      rw [List.getElem_map] at this
      have := Rd.sc_eq this
      simpa using this
theorem ok_cmpA {d : Tmp} {op : BinOp} {t t' : TypeId} {x y : Operand} {xs ys : List Value} {b : Bool} (hop : op = .eql ∨ op = .neq) (hx : ev σ x = .val (.agg (xs.map .sc))) (hy : ev σ y = .val (.agg (ys.map .sc)))
    (hm : P.eqGuardType P.depth t = false) (hq : ∀ w, (binOp op t (.agg xs.toArray) (.agg ys.toArray)).run P w = .ok (.bool b) w) :
    StOk P C σ (some d) (.binOp op t x y t') (some (True, rdl x ++ rdl y, [(.s d, .av (.val (.sc (.bool b))))])) := by
  refine ok_pure fun hc ty pos af E σ' a w hr hg => ?_
  obtain ⟨h1, h2⟩ := mem_l hr
  have e1 := ev_ok hg x
  have e2 := ev_ok hg y
  rw [ev_congr h1, hx] at e1
  rw [ev_congr h2, hy] at e2
  have e1 := rd_agg_sc e1
  have e2 := rd_agg_sc e2
  refine ⟨.bool b, ?_, Rd.sc _⟩
  rcases hop with rfl | rfl <;> simp [execOp, e1, e2, run_eqGuard_agg (hm := hm), hq]
theorem cmpA_s {d : Tmp} {op : BinOp} {t t' : TypeId} {x y : Operand} {ty : TypeId} {pos : String} {af : Array Edge} (xs ys : List Value) (b : Bool) (hop : op = .eql ∨ op = .neq) (hx : ev σ x = .val (.agg (xs.map .sc))) (hy : ev σ y = .val (.agg (ys.map .sc)))
    (hm : P.eqGuardType P.depth t = false) (hq : ∀ w, (binOp op t (.agg xs.toArray) (.agg ys.toArray)).run P w = .ok (.bool b) w)
    (k : exec P ops C md K rest (put σ (.s d) (.av (.val (.sc (.bool b))))) ((rdl x ++ rdl y, [.s d]) :: acc)) : Run P ops C md K (⟨some d, .binOp op t x y t', ty, pos, af, none⟩ :: rest) σ acc :=
  run_any (ok_cmpA hop hx hy hm hq) rfl trivial k
end

/-! ### A law's call -/
/-- All cells of a world. -/
def cellsOf (w : World) : Mem := fun b i => w.cell? ⟨b, i, none⟩
theorem rows_rd {α : Type} {w : World} {A : Option Addr} {sz n c : Nat} {xs : List α} {f : α → List Value} {g : α → List V} (h : ArgRows w A sz n (xs.map f)) (hl : xs.length = n) (hc : n ≤ c) (hA : xs = [] → A = none ∧ n = 0 ∧ c = 0 ∨ ∃ b o, A = some ⟨b, o, none⟩)
    (hsz : ∀ x, (f x).length = sz) (hg : ∀ x, g x = (f x).map V.sc) : Rd (cellsOf w) (.lst sz (xs.map g)) (.slice A n c) := by
  obtain ⟨h1, h2, h3⟩ := h
  have key : ∀ b o, A = some ⟨b, o, none⟩ → Rd (cellsOf w) (.lst sz (xs.map g)) (.slice A n c) := fun b o hb => by
    have hn : n = (xs.map g).length := by simp [hl]
    rw [hb, hn]
    have hcell : ∀ i j (hi : i < xs.length) (hj : j < sz), cellsOf w b (o + i * sz + j) = some ((f xs[i]).getD j undef) := fun i j hi hj => by
      obtain ⟨b', o', e, _, hh⟩ := h3 i (by simpa using hi)
      rw [hb] at e
      cases e
      have := hh j ((f xs[i]).getD j undef) (by
        rw [List.getElem_map]
        rw [List.getD_eq_getElem?_getD, List.getElem?_eq_getElem (by rw [hsz]; exact hj)]
        rfl)
      unfold cellsOf
      rw [Nat.add_assoc]
      exact this
    refine Rd.lst sz (xs.map g) b o c (fun i j => if hi : i < xs.length then (f xs[i]).getD j undef else undef) (by rw [← hn]; exact hc) (fun i hi => ?_) (fun i j hi hj => ?_) (fun i j hi hj => ?_)
    · rw [List.getElem_map, hg, List.length_map, hsz]
    · have hi' : i < xs.length := by simpa using hi
      rw [dif_pos hi']
      exact hcell i j hi' hj
    · have hi' : i < xs.length := by simpa using hi
      rw [dif_pos hi']
      have e : (List.map g xs)[i] = (f xs[i]).map V.sc := by rw [List.getElem_map, hg]
      have hj' : j < (f xs[i]).length := by rw [e, List.length_map] at hj; exact hj
      have e2 : ((List.map g xs)[i])[j] = .sc ((f xs[i])[j]) := by
        simp only [e, List.getElem_map]
      rw [e2, List.getD_eq_getElem?_getD, List.getElem?_eq_getElem hj']
      exact Rd.sc _
  by_cases hx : xs = []
  · rcases hA hx with ⟨rfl, rfl, rfl⟩ | ⟨b, o, hb⟩
    · subst hx; exact Rd.nil0 sz
    · exact key b o hb
  · have hp : 0 < (xs.map f).length := by simpa using List.length_pos_iff.2 hx
    obtain ⟨b, o, hb, _, _⟩ := h3 0 hp
    exact key b o hb
theorem argsok_vals {m : Mem} {w : World} : ∀ {xs : List V} {vals : List Value}, vals.length = xs.length → (∀ (j : Nat) (x : V) (v : Value), xs[j]? = some x → vals[j]? = some v → Rd m x v) → ArgsOk m w [] (xs.map fun x => .ca (.val x)) vals []
  | [], [], _, _ => .nil
  | x :: xs, v :: vs, hl, h => by
    have := ArgsOk.cons (m := m) (w := w) (bs := []) (a := .ca (.val x)) (v := v) (F := []) ⟨h 0 x v rfl rfl, rfl⟩ (argsok_vals (w := w) (xs := xs) (vals := vs) (by simpa using hl) fun j y u h1 h2 => h (j + 1) y u (by simpa using h1) (by simpa using h2)) (fun b h => by cases h)
    exact this
  | [], _ :: _, hl, _ => by simp at hl
  | _ :: _, [], hl, _ => by simp at hl
theorem holds_vals {w : World} {vals : List Value} {xs : List V} (h : vals.length = xs.length) (hv : ∀ (j : Nat) (x : V) (v : Value), xs[j]? = some x → vals[j]? = some v → Rd (cellsOf w) x v) : Holds (cellsOf w) w vals (xs.map fun x => .ca (.val x)) [] [] [] [] where
  ms := fun b i v h => h
  ar := argsok_vals h hv
  ob := .nil
  di := fun b h => by cases h
/-- A call of values alone. -/
theorem spec_vals {P : Program} {K : FuncId} {xs : List V} {y : V} (h : ∀ (m : Mem) (w : World) (vals : List Value), (∀ b i v, m b i = some v → w.cell? ⟨b, i, none⟩ = some v) → vals.length = xs.length → (∀ (j : Nat) (x : V) (v : Value), xs[j]? = some x → vals[j]? = some v → Rd m x v) →
    Calls P K vals.toArray w fun e w' => ∃ (v : Value) (m' : Mem), e = .returned v ∧ Rd m' y v ∧ m.le m' ∧ (∀ b i v, m' b i = some v → w'.cell? ⟨b, i, none⟩ = some v) ∧ Chg Nothing w w' ∧ ∀ (b i : Nat), b < w.heap.size → m' b i = m b i) : Spec P K (xs.map fun x => .ca (.val x)) [] (.ca (.val y)) [] := by
  intro m w vals bs F G H
  have hl := H.ar.len
  rw [List.length_map] at hl
  have hbs : bs = [] := List.eq_nil_of_length_eq_zero H.ob.len
  subst hbs
  have hv : ∀ {xs : List V} {vals : List Value} {F : List Nat}, ArgsOk m w [] (xs.map fun x => .ca (.val x)) vals F → F = [] ∧ ∀ (j : Nat) (x : V) (v : Value), xs[j]? = some x → vals[j]? = some v → Rd m x v := by
    intro xs
    induction xs with
    | nil => intro vals F h; cases h; exact ⟨rfl, fun j x v h => by simp at h⟩
    | cons x xs ih =>
      intro vals F h
      rw [List.map_cons] at h
      cases h with
      | cons h1 h2 h3 =>
        obtain ⟨e1, e2⟩ := ih h2
        obtain ⟨e3, rfl⟩ := h1
        subst e1
        refine ⟨rfl, fun j y v h4 h5 => ?_⟩
        cases j with
        | zero => simp at h4 h5; subst h4 h5; exact e3
        | succ j => exact e2 j y v (by simpa using h4) (by simpa using h5)
  obtain ⟨hF, hr⟩ := hv H.ar
  have hG := H.ob
  cases hG
  subst hF
  refine (h m w vals H.ms hl hr).mono ?_
  rintro e w' ⟨v, m', rfl, h1, h2, h3, h4, h5⟩
  exact ⟨v, m', [], [], [], rfl, ⟨h3, .cons (F := []) (F' := []) ⟨h1, rfl⟩ .nil (fun b h => by cases h), .nil, fun b h => by cases h⟩, h2, h4.mono fun i _ h => h.elim, fun i b h => by simp at h, fun b i hb _ => h5 b i hb, fun b h => by cases h⟩
theorem top_sc {P : Program} {K : FuncId} {xs : List V} {vals : List Value} {u : Value} {w : World} (hs : Spec P K (xs.map fun x => .ca (.val x)) [] (.ca (.val (.sc u))) []) (h : vals.length = xs.length) (hv : ∀ (j : Nat) (x : V) (v : Value), xs[j]? = some x → vals[j]? = some v → Rd (cellsOf w) x v) :
    Calls P K vals.toArray w fun e w' => e = .returned u ∧ Chg Nothing w w' := by
  refine (hs (cellsOf w) w vals [] [] [] (holds_vals h hv)).mono ?_
  rintro e w' ⟨v, m', bs', F', G', rfl, hh, _, hc, _⟩
  have hu : v = u := by
    have := hh.ar
    cases this with
    | cons h1 _ _ => exact Rd.sc_eq h1.1
  subst hu
  exact ⟨rfl, hc.mono fun b _ hb => by cases hb⟩

theorem mk_append (a b : List UInt8) : ((⟨a.toArray⟩ : ByteArray) ++ ⟨b.toArray⟩) = ⟨(a ++ b).toArray⟩ := by
  apply ByteArray.ext
  simp [ByteArray.data_append]
theorem mk_size (a : List UInt8) : (ByteArray.mk a.toArray).size = a.length := by simp [ByteArray.size]
attribute [go_sem] mk_append mk_size beq_self_eq_true
theorem okWide_addr {P : Program} {w : World} {t e : TypeId} {base n c : Nat} {A : Option Addr} (ht : P.underlying t = some (.slice e)) (h : Value.okWide P w .any base t (.slice A n c)) : A = none ∧ n = 0 ∧ c = 0 ∨ ∃ b o, A = some ⟨b, o, none⟩ := by
  simp only [Value.okWide, ht, Cell.okWide] at h
  cases A with
  | none =>
    left
    unfold Cell.ok at h
    rw [ht] at h
    split at h <;> simp_all
  | some a =>
    right
    unfold Cell.ok at h
    rw [ht] at h
    have h2 : a.spot = none := by
      split at h <;> simp_all [World.has]
    exact ⟨a.block, a.off, by cases a; simp_all⟩

theorem bne_ff : (false != false) = false := rfl
theorem bne_tt : (true != true) = false := rfl
theorem bne_tf : (true != false) = true := rfl
theorem bne_ft : (false != true) = true := rfl
theorem beq_ff : (false == false) = true := rfl
theorem beq_tt : (true == true) = true := rfl
theorem beq_tf : (true == false) = false := rfl
theorem beq_ft : (false == true) = false := rfl
attribute [go_sem] bne_ff bne_tt bne_tf bne_ft beq_ff beq_tt beq_tf beq_ft

section
variable {P : Program} {ops : Array Oper} {C : Ctx} {md : Bool} {σ : St} {K : St → List FP → Prop} {acc : List FP} {rest : List Oper}
theorem gcmpA_s {j : Nat} {g : Bool} {d : Tmp} {op : BinOp} {t t' : TypeId} {x y : Operand} {ty : TypeId} {pos : String} {af : Array Edge} (xs ys : List Value) (b : Bool) (hop : op = .eql ∨ op = .neq)
    (hd : ((ops[j]?).bind (·.dst)).isSome = true ∧ σ (.s (gslot ops j)) = .av (.val (.sc (.bool g)))) (hx : ev σ x = .val (.agg (xs.map .sc))) (hy : ev σ y = .val (.agg (ys.map .sc)))
    (hm : P.eqGuardType P.depth t = false) (hq : ∀ w, (binOp op t (.agg xs.toArray) (.agg ys.toArray)).run P w = .ok (.bool b) w)
    (k : exec P ops C md K rest (put σ (.s d) (.av (.val (.sc (.bool b))))) ((.s (gslot ops j) :: (rdl x ++ rdl y), [.s d]) :: acc)) : Run P ops C md K (⟨some d, .binOp op t x y t', ty, pos, af, some (j, g)⟩ :: rest) σ acc :=
  run_cons (ok_guard hd.1 hd.2 (ok_cmpA hop hx hy hm hq _ _ _ rfl trivial ops ty pos af)) (exec_run k)
end
end Go.Proofs.YtojcjbaimdjhoaaGreatDoor
