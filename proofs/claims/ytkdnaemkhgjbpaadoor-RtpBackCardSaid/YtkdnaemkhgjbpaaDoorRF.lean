
/- Structs compared; a law's call, by what its function is known to do. -/
import Derived.Test.YtkdnaemkhgjbpaaDoorRE
import Derived.Test.YtkdnaemkhgjbpaaDoorOpen
import Derived.Laws.StructEq
namespace Go.Proofs.YtkdnaemkhgjbpaaDoor
open Go.RowKit
set_option linter.unusedVariables false
set_option linter.unusedSimpArgs false

section
variable {P : Program} {ops : Array Oper} {C : Ctx} {σ : St} {K : St → List FP → Prop} {acc : List FP} {rest : List Oper}
theorem rd_agg_sc {m : Mem} {xs : List Value} {v : Value} (h : Rd m (.agg (xs.map .sc)) v) : v = .agg xs.toArray := by
  cases h with
  | agg _ ys hl hh =>
    congr 1
    apply Array.ext
    · simpa using hl
    · intro i h1 h2
      have h3 : i < (xs.map V.sc).length := by omega
      have := hh i h3
      rw [List.getElem_map] at this
      have := Rd.sc_eq this
      simpa using this
theorem ok_cmpA {d : Tmp} {op : BinOp} {t t' : TypeId} {x y : Operand} {xs ys : List Value} {b : Bool} (hop : op = .eql ∨ op = .neq) (hx : ev σ x = .val (.agg (xs.map .sc))) (hy : ev σ y = .val (.agg (ys.map .sc)))
    (hm : P.eqGuardType P.depth t = false) (hq : ∀ w, (binOp op t (.agg xs.toArray) (.agg ys.toArray)).run P w = .ok (.bool b) w) :
    StOk P C σ (some d) (.binOp op t x y t') (some (True, rdl x ++ rdl y, [(.s d, .av (.val (.sc (.bool b))))])) := by
  refine ok_pure fun hc ty pos af E σ' a w hr hg => ?_
  obtain ⟨h1, h2⟩ := mem_l hr
  have e1 := ev_ok hg x
  have e2 := ev_ok hg y
  rw [ev_congr h1, hx] at e1
  rw [ev_congr h2, hy] at e2
  have e1 := rd_agg_sc e1
  have e2 := rd_agg_sc e2
  refine ⟨.bool b, ?_, Rd.sc _⟩
  rcases hop with rfl | rfl <;> simp [execOp, e1, e2, run_eqGuard_agg (hm := hm), hq]
theorem cmpA_s {d : Tmp} {op : BinOp} {t t' : TypeId} {x y : Operand} {ty : TypeId} {pos : String} {af : Array Edge} (xs ys : List Value) (b : Bool) (hop : op = .eql ∨ op = .neq) (hx : ev σ x = .val (.agg (xs.map .sc))) (hy : ev σ y = .val (.agg (ys.map .sc)))
    (hm : P.eqGuardType P.depth t = false) (hq : ∀ w, (binOp op t (.agg xs.toArray) (.agg ys.toArray)).run P w = .ok (.bool b) w)
    (k : exec P ops C K rest (put σ (.s d) (.av (.val (.sc (.bool b))))) ((rdl x ++ rdl y, [.s d]) :: acc)) : Run P ops C K (⟨some d, .binOp op t x y t', ty, pos, af, none⟩ :: rest) σ acc :=
  run_any (ok_cmpA hop hx hy hm hq) rfl trivial k
end

/-! ### A law's call -/
/-- All cells of a world. -/
def cellsOf (w : World) : Mem := fun b i => w.cell? ⟨b, i, none⟩
theorem rows_rd {α : Type} {w : World} {A : Option Addr} {sz n c : Nat} {xs : List α} {f : α → List Value} {g : α → List V} (h : ArgRows w A sz n (xs.map f)) (hl : xs.length = n) (hc : n ≤ c) (hA : xs = [] → A = none ∧ n = 0 ∧ c = 0 ∨ ∃ b o, A = some ⟨b, o, none⟩)
    (hsz : ∀ x, (f x).length = sz) (hg : ∀ x, g x = (f x).map V.sc) : Rd (cellsOf w) (.lst sz (xs.map g)) (.slice A n c) := by
  obtain ⟨h1, h2, h3⟩ := h
  have key : ∀ b o, A = some ⟨b, o, none⟩ → Rd (cellsOf w) (.lst sz (xs.map g)) (.slice A n c) := fun b o hb => by
    have hn : n = (xs.map g).length := by simp [hl]
    rw [hb, hn]
    have hcell : ∀ i j (hi : i < xs.length) (hj : j < sz), cellsOf w b (o + i * sz + j) = some ((f xs[i]).getD j undef) := fun i j hi hj => by
      obtain ⟨b', o', e, _, hh⟩ := h3 i (by simpa using hi)
      rw [hb] at e
      cases e
      have := hh j ((f xs[i]).getD j undef) (by
        rw [List.getElem_map]
        rw [List.getD_eq_getElem?_getD, List.getElem?_eq_getElem (by rw [hsz]; exact hj)]
        rfl)
      unfold cellsOf
      rw [Nat.add_assoc]
      exact this
    refine Rd.lst sz (xs.map g) b o c (fun i j => if hi : i < xs.length then (f xs[i]).getD j undef else undef) (by rw [← hn]; exact hc) (fun i hi => ?_) (fun i j hi hj => ?_) (fun i j hi hj => ?_)
    · rw [List.getElem_map, hg, List.length_map, hsz]
    · have hi' : i < xs.length := by simpa using hi
      rw [dif_pos hi']
      exact hcell i j hi' hj
    · have hi' : i < xs.length := by simpa using hi
      rw [dif_pos hi']
      have e : (List.map g xs)[i] = (f xs[i]).map V.sc := by rw [List.getElem_map, hg]
      have hj' : j < (f xs[i]).length := by rw [e, List.length_map] at hj; exact hj
      have e2 : ((List.map g xs)[i])[j] = .sc ((f xs[i])[j]) := by
        simp only [e, List.getElem_map]
      rw [e2, List.getD_eq_getElem?_getD, List.getElem?_eq_getElem hj']
      exact Rd.sc _
  by_cases hx : xs = []
  · rcases hA hx with ⟨rfl, rfl, rfl⟩ | ⟨b, o, hb⟩
    · subst hx; exact Rd.nil0 sz
    · exact key b o hb
  · have hp : 0 < (xs.map f).length := by simpa using List.length_pos_iff.2 hx
    obtain ⟨b, o, hb, _, _⟩ := h3 0 hp
    exact key b o hb
theorem holds_vals {w : World} {vals : List Value} {xs : List V} (h : vals.length = xs.length) (hv : ∀ (j : Nat) (x : V) (v : Value), xs[j]? = some x → vals[j]? = some v → Rd (cellsOf w) x v) : Holds (cellsOf w) w vals (xs.map fun x => .ca (.val x)) [] [] [] where
  ms := fun b i v h => h
  hl := by simpa using h
  ol := rfl
  cl := rfl
  ca := fun j c v hj hvj => by
    rw [List.getElem?_map] at hj
    cases hx : xs[j]? with
    | none => rw [hx] at hj; cases hj
    | some x => rw [hx] at hj; cases hj; exact hv j x v hx hvj
  pt := fun j i off v hj _ => by
    rw [List.getElem?_map] at hj
    cases hx : xs[j]? with
    | none => rw [hx] at hj; cases hj
    | some x => rw [hx] at hj; cases hj
  ob := fun i b cs vs h => by simp at h
  di := fun x y b hx => by
    cases x with
    | ob i => simp [Ow] at hx
    | ce i j => obtain ⟨_, _, _, _, h, _⟩ := hx; simp at h
    | ar j =>
      obtain ⟨c, v, h1, _, h3⟩ := hx
      rw [List.getElem?_map] at h1
      cases hxj : xs[j]? with
      | none => rw [hxj] at h1; cases h1
      | some x => rw [hxj] at h1; cases h1; cases h3
theorem no_ow {vals : List Value} {xs : List V} {x : Rx} {b : Nat} : ¬ Ow vals (xs.map fun x => .ca (.val x)) [] [] [] x b := fun hx => by
  cases x with
  | ob i => simp [Ow] at hx
  | ce i j => obtain ⟨_, _, _, _, h, _⟩ := hx; simp at h
  | ar j =>
    obtain ⟨c, v, h1, _, h3⟩ := hx
    rw [List.getElem?_map] at h1
    cases hxj : xs[j]? with
    | none => rw [hxj] at h1; cases h1
    | some x => rw [hxj] at h1; cases h1; cases h3
theorem top_sc {P : Program} {K : FuncId} {xs : List V} {vals : List Value} {u : Value} {w : World} (hs : Spec P K (xs.map fun x => .ca (.val x)) [] (.ca (.val (.sc u))) []) (h : vals.length = xs.length) (hv : ∀ (j : Nat) (x : V) (v : Value), xs[j]? = some x → vals[j]? = some v → Rd (cellsOf w) x v) :
    Calls P K vals.toArray w fun e w' => e = .returned u ∧ Chg Nothing w w' := by
  refine (hs (cellsOf w) w vals [] [] (holds_vals h hv)).mono ?_
  rintro e w' ⟨v, m', bs', cvs', rfl, hh, _, hc, _⟩
  have := hh.ca 0 (.val (.sc u)) v rfl rfl
  have := Rd.sc_eq this
  subst this
  exact ⟨rfl, hc.mono fun b _ hb => let ⟨x, hx⟩ := hb; (no_ow hx).elim⟩

theorem mk_append (a b : List UInt8) : ((⟨a.toArray⟩ : ByteArray) ++ ⟨b.toArray⟩) = ⟨(a ++ b).toArray⟩ := by
  apply ByteArray.ext
  simp [ByteArray.data_append]
theorem mk_size (a : List UInt8) : (ByteArray.mk a.toArray).size = a.length := by simp [ByteArray.size]
attribute [go_sem] mk_append mk_size beq_self_eq_true
theorem okWide_addr {P : Program} {w : World} {t e : TypeId} {base n c : Nat} {A : Option Addr} (ht : P.underlying t = some (.slice e)) (h : Value.okWide P w .any base t (.slice A n c)) : A = none ∧ n = 0 ∧ c = 0 ∨ ∃ b o, A = some ⟨b, o, none⟩ := by
  simp only [Value.okWide, ht, Cell.okWide] at h
  cases A with
  | none =>
    left
    unfold Cell.ok at h
    rw [ht] at h
    split at h <;> simp_all
  | some a =>
    right
    unfold Cell.ok at h
    rw [ht] at h
    have h2 : a.spot = none := by
      split at h <;> simp_all [World.has]
    exact ⟨a.block, a.off, by cases a; simp_all⟩

theorem bne_ff : (false != false) = false := rfl
theorem bne_tt : (true != true) = false := rfl
theorem bne_tf : (true != false) = true := rfl
theorem bne_ft : (false != true) = true := rfl
theorem beq_ff : (false == false) = true := rfl
theorem beq_tt : (true == true) = true := rfl
theorem beq_tf : (true == false) = false := rfl
theorem beq_ft : (false == true) = false := rfl
attribute [go_sem] bne_ff bne_tt bne_tf bne_ft beq_ff beq_tt beq_tf beq_ft

section
variable {P : Program} {ops : Array Oper} {C : Ctx} {σ : St} {K : St → List FP → Prop} {acc : List FP} {rest : List Oper}
theorem gcmpA_s {j : Nat} {g : Bool} {d : Tmp} {op : BinOp} {t t' : TypeId} {x y : Operand} {ty : TypeId} {pos : String} {af : Array Edge} (xs ys : List Value) (b : Bool) (hop : op = .eql ∨ op = .neq)
    (hd : ((ops[j]?).bind (·.dst)).isSome = true ∧ σ (.s (gslot ops j)) = .av (.val (.sc (.bool g)))) (hx : ev σ x = .val (.agg (xs.map .sc))) (hy : ev σ y = .val (.agg (ys.map .sc)))
    (hm : P.eqGuardType P.depth t = false) (hq : ∀ w, (binOp op t (.agg xs.toArray) (.agg ys.toArray)).run P w = .ok (.bool b) w)
    (k : exec P ops C K rest (put σ (.s d) (.av (.val (.sc (.bool b))))) ((.s (gslot ops j) :: (rdl x ++ rdl y), [.s d]) :: acc)) : Run P ops C K (⟨some d, .binOp op t x y t', ty, pos, af, some (j, g)⟩ :: rest) σ acc :=
  run_cons (ok_guard hd.1 hd.2 (ok_cmpA hop hx hy hm hq _ _ _ rfl trivial ops ty pos af)) (exec_run k)
end
end Go.Proofs.YtkdnaemkhgjbpaaDoor
