
/- Values of any type: made, told apart, compared with nil. -/
import Derived.Test.YtekpaepkoeelfaaRK
namespace Go.Proofs.Ytekpaepkoeelfaa
open Go.RowKit
set_option linter.unusedVariables false
set_option linter.unusedSimpArgs false

def concr (P : Program) (t : TypeId) : Bool := match P.underlying t with | some (.interface _) => false | some _ => true | none => false
theorem concr_some {P : Program} {t : TypeId} (h : concr P t = true) : ∃ d, P.underlying t = some d ∧ ∀ ms, d ≠ .interface ms := by
  unfold concr at h
  cases hd : P.underlying t with
  | none => rw [hd] at h; cases h
  | some d =>
    rw [hd] at h
    refine ⟨d, rfl, fun ms e => ?_⟩
    subst e; cases h
def isIf (P : Program) (t : TypeId) : Bool := match P.underlying t with | some (.interface _) => true | _ => false
theorem isIf_some {P : Program} {t : TypeId} (h : isIf P t = true) : ∃ ms, P.underlying t = some (.interface ms) := by
  unfold isIf at h
  split at h
  · rename_i ms hd; exact ⟨ms, hd⟩
  · cases h
/-- Of another type, or nil. -/
def missI (at' : TypeId) : AV → Prop
  | .val (.ifc t _) => t ≠ at'
  | .val (.sc v) => v = .nilIface
  | _ => False
def nilI : AV → Option Bool
  | .val (.ifc _ _) => some false
  | .val (.sc .nilIface) => some true
  | _ => none
attribute [go_sem] missI nilI
section
variable {P : Program} {ops : Array Oper} {C : Ctx} {E : Env} {σ : St} {a : Act} {w : World} {md : Bool} {K : St → List FP → Prop} {acc : List FP} {rest : List Oper} {Q : Exit → St → Prop}
theorem ok_mkI {d : Tmp} {t : TypeId} {x : Operand} (ht : concr P t = true) : StOk P C σ (some d) (.makeInterface t x) (some (True, rdl x, [(.s d, .av (.val (.ifc t (plain (ev σ x)))))])) := by
  refine ok_pure fun _ ty pos af E σ' a w hr hg => ⟨.iface t (a.eval x), ?_, .ifc t _ _ (by rw [← ev_congr hr]; exact plain_ok (ev_ok hg x))⟩
  obtain ⟨dd, h1, h2⟩ := concr_some ht
  have : (Instr.makeInterface t (a.eval x)).run P w = .ok (.iface t (a.eval x)) w := by
    unfold Instr.makeInterface
    simp only [Sem.run_bind, run_underlying h1, Result.andThen_ok]
    cases dd <;> first | rfl | exact absurd rfl (h2 _)
  simp [execOp, this]
theorem mkI_s {d : Tmp} {t : TypeId} {x : Operand} {ty : TypeId} {pos : String} {af : Array Edge} (ht : concr P t = true)
    (k : exec P ops C md K rest (put σ (.s d) (.av (.val (.ifc t (plain (ev σ x)))))) ((rdl x, [.s d]) :: acc)) : Run P ops C md K (⟨some d, .makeInterface t x, ty, pos, af, none⟩ :: rest) σ acc :=
  run_any (ok_mkI ht) rfl trivial k
theorem ok_taY {d : Tmp} {x : Operand} {xt at' : TypeId} {y : V} (hc : concr P at' = true) (hx : ev σ x = .val (.ifc at' y)) : StOk P C σ (some d) (.typeAssert x xt at' true) (some (True, rdl x, [(.s d, .av (.val (.tup [y, .sc (.bool true)])))])) := by
  refine ok_pure fun _ ty pos af E σ' a w hr hg => ?_
  have h := ev_ok hg x
  rw [ev_congr hr, hx] at h
  have h : Rd E.m (.ifc at' y) (a.eval x) := h
  generalize hv : a.eval x = v at h
  cases h with
  | ifc _ _ u hu =>
    obtain ⟨dd, h1, h2⟩ := concr_some hc
    refine ⟨.tuple #[u, .bool true], ?_, .tup _ _ rfl fun i hi => ?_⟩
    · have : (Instr.typeAssert (.iface at' u) xt at' true).run P w = .ok (.tuple #[u, .bool true]) w := by
        unfold Instr.typeAssert
        simp only [Sem.run_bind, run_underlying h1, Result.andThen_ok]
        cases dd <;> first | exact absurd rfl (h2 _) | simp
      simp [execOp, hv, this]
    · have : i = 0 ∨ i = 1 := by simp at hi; omega
      rcases this with rfl | rfl
      · exact hu
      · exact Rd.sc _
theorem taY_s {d : Tmp} {x : Operand} {xt at' : TypeId} {ty : TypeId} {pos : String} {af : Array Edge} (hc : concr P at' = true) (y : V) (hx : ev σ x = .val (.ifc at' y))
    (k : exec P ops C md K rest (put σ (.s d) (.av (.val (.tup [y, .sc (.bool true)])))) ((rdl x, [.s d]) :: acc)) : Run P ops C md K (⟨some d, .typeAssert x xt at' true, ty, pos, af, none⟩ :: rest) σ acc :=
  run_any (ok_taY hc hx) rfl trivial k
theorem ok_taN {d : Tmp} {x : Operand} {xt at' : TypeId} {z : Value} (hc : concr P at' = true) (hx : missI at' (ev σ x)) (hz : zeroOf P at' = some z) :
    StOk P C σ (some d) (.typeAssert x xt at' true) (some (True, rdl x, [(.s d, .av (.val (.tup [vOf z, .sc (.bool false)])))])) := by
  refine ok_pure fun _ ty pos af E σ' a w hr hg => ?_
  have h := ev_ok hg x
  rw [ev_congr hr] at h
  obtain ⟨dd, h1, h2⟩ := concr_some hc
  have hzr : (zeroValue at').run P w = .ok z w := by
    unfold zeroOf at hz
    obtain ⟨i, hi, hz⟩ := Option.bind_eq_some_iff.1 hz
    simp [zeroValue, typeInfo, hi, hz]
  refine ⟨.tuple #[z, .bool false], ?_, .tup _ _ rfl fun i hi => ?_⟩
  · have key : ∀ v, (v = .nilIface ∨ ∃ t u, v = .iface t u ∧ t ≠ at') → (Instr.typeAssert v xt at' true).run P w = .ok (.tuple #[z, .bool false]) w := fun v hv => by
      unfold Instr.typeAssert
      simp only [Sem.run_bind, run_underlying h1, Result.andThen_ok]
      rcases hv with rfl | ⟨t, u, rfl, hne⟩ <;> cases dd <;> first | exact absurd rfl (h2 _) | (simp [hzr, hne]; done) | (simp [hzr]; done)
    have hv : a.eval x = .nilIface ∨ ∃ t u, a.eval x = .iface t u ∧ t ≠ at' := by
      cases he : ev σ x with
      | val X =>
        rw [he] at h hx
        cases X with
        | sc u => exact .inl ((Rd.sc_eq h).trans hx)
        | ifc t y =>
          have h : Rd E.m (.ifc t y) (a.eval x) := h
          generalize a.eval x = v at h
          cases h with
          | ifc _ _ u hu => exact .inr ⟨t, u, rfl, hx⟩
        | _ => exact hx.elim
      | _ => rw [he] at hx; exact hx.elim
    simp [execOp, key _ hv]
  · have : i = 0 ∨ i = 1 := by simp at hi; omega
    rcases this with rfl | rfl
    · exact vOf_ok _ _
    · exact Rd.sc _
theorem taN_s {d : Tmp} {x : Operand} {xt at' : TypeId} {ty : TypeId} {pos : String} {af : Array Edge} (hc : concr P at' = true) (hx : missI at' (ev σ x)) (z : Value) (hz : zeroOf P at' = some z)
    (k : exec P ops C md K rest (put σ (.s d) (.av (.val (.tup [vOf z, .sc (.bool false)])))) ((rdl x, [.s d]) :: acc)) : Run P ops C md K (⟨some d, .typeAssert x xt at' true, ty, pos, af, none⟩ :: rest) σ acc :=
  run_any (ok_taN hc hx hz) rfl trivial k
theorem ok_inil {d : Tmp} {op : BinOp} {t t' : TypeId} {x : Operand} {b : Bool} (hop : op = .eql ∨ op = .neq) (ht : isIf P t = true) (hx : nilI (ev σ x) = some b) :
    StOk P C σ (some d) (.binOp op t x (.const .nilIface) t') (some (True, rdl x, [(.s d, .av (.val (.sc (.bool (if op = .eql then b else !b)))))])) := by
  refine ok_pure fun _ ty pos af E σ' a w hr hg => ⟨_, ?_, Rd.sc _⟩
  have h := ev_ok hg x
  rw [ev_congr hr] at h
  obtain ⟨ms, h1⟩ := isIf_some ht
  have hv : (a.eval x = .nilIface ∧ b = true) ∨ ∃ t u, a.eval x = .iface t u ∧ b = false := by
    cases he : ev σ x with
    | val X =>
      rw [he] at h hx
      cases X with
      | sc u =>
        have h := Rd.sc_eq h
        cases u <;> simp [nilI] at hx
        exact .inl ⟨h, hx⟩
      | ifc t y =>
        have h : Rd E.m (.ifc t y) (a.eval x) := h
        simp [nilI] at hx
        generalize a.eval x = v at h
        cases h with
        | ifc _ _ u hu => exact .inr ⟨t, u, rfl, hx⟩
      | _ => simp [nilI] at hx
    | _ => rw [he] at hx; simp [nilI] at hx
  have hq : ∀ v n, ((v = .nilIface ∧ b = true) ∨ ∃ t u, v = .iface t u ∧ b = false) → (Op.equalIn (n + 1) t v .nilIface).run P w = .ok b w := fun v n hv => by
    rcases hv with ⟨rfl, rfl⟩ | ⟨t', u, rfl, rfl⟩ <;> simp [Op.equalIn, run_underlying h1]
  have hg : ∀ v, ((v = .nilIface ∧ b = true) ∨ ∃ t u, v = .iface t u ∧ b = false) → (eqGuard op t x (.const .nilIface) v .nilIface).run P w = .ok () w := fun v hv => by
    unfold eqGuard
    rcases hv with ⟨rfl, rfl⟩ | ⟨t', u, rfl, rfl⟩ <;> rcases hop with rfl | rfl <;> simp
  have hb : ∀ v, ((v = .nilIface ∧ b = true) ∨ ∃ t u, v = .iface t u ∧ b = false) → (binOp op t v .nilIface).run P w = .ok (.bool (if op = .eql then b else !b)) w := fun v hv => by
    have h2 := hq v 9999 hv
    rcases hv with ⟨rfl, rfl⟩ | ⟨t', u, rfl, rfl⟩ <;> rcases hop with rfl | rfl <;> simp [binOp, Op.equal, Op.maxDepth, h2]
  have he : a.eval (.const .nilIface) = .nilIface := rfl
  simp [execOp, he, hg _ hv, hb _ hv]
theorem inil_s {d : Tmp} {op : BinOp} {t t' : TypeId} {x : Operand} {ty : TypeId} {pos : String} {af : Array Edge} (hop : op = .eql ∨ op = .neq) (ht : isIf P t = true) (b : Bool) (hx : nilI (ev σ x) = some b)
    (k : exec P ops C md K rest (put σ (.s d) (.av (.val (.sc (.bool (if op = .eql then b else !b)))))) ((rdl x, [.s d]) :: acc)) : Run P ops C md K (⟨some d, .binOp op t x (.const .nilIface) t', ty, pos, af, none⟩ :: rest) σ acc :=
  run_any (ok_inil hop ht hx) rfl trivial k
end
end Go.Proofs.Ytekpaepkoeelfaa
