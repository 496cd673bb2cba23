
/- Rules: a method called through an interface. -/
import Derived.Test.YtekpaepkoeelfaaRN
import Derived.Test.YtekpaepkoeelfaaRL
namespace Go.Proofs.Ytekpaepkoeelfaa
open Go.RowKit
set_option linter.unusedVariables false
set_option linter.unusedSimpArgs false

/-- A type's method of its own, its receiver by value. -/
def methAt (P : Program) (t : TypeId) (name : String) : Option (List FieldStep × Option (FuncId × Bool)) :=
  (P.info? t).bind fun i => (i.methods.find? (·.name == name)).map fun m => (m.path.toList, m.func)
section
variable {P : Program} {ops : Array Oper} {C : Ctx} {σ : St} {md : Bool} {K : St → List FP → Prop} {acc : List FP} {rest : List Oper}
theorem meth_run {t : TypeId} {name : String} {F : FuncId} {d : TypeDesc} (hu : P.underlying t = some d) (hd : ∀ e, d ≠ .pointer e) (h : methAt P t name = some ([], some (F, false))) (n : Nat) (v : Value) (w : World) : (method (n + 1) t v name).run P w = .ok (F, v) w := by
  unfold methAt at h
  cases hi : P.info? t with
  | none => rw [hi] at h; cases h
  | some i =>
    rw [hi] at h
    simp only [Option.bind_some] at h
    cases hm : i.methods.find? (·.name == name) with
    | none => rw [hm] at h; cases h
    | some m =>
      rw [hm] at h
      simp only [Option.map_some, Option.some.injEq, Prod.mk.injEq] at h
      obtain ⟨h1, h2⟩ := h
      have hr : ∀ nm, (receiverAt t (.val v) false nm).run P w = .ok v w := fun nm => by
        unfold receiverAt
        simp only [Sem.run_bind, run_underlying hu, Result.andThen_ok]
        cases d <;> first | rfl | exact absurd rfl (hd _)
      simp [method, typeInfo, hi, hm, h1, h2, follow, hr]
theorem ok_inv {d : Tmp} {F : FuncId} (hK : ∀ args w, (callFunc F args).run P w = .ok (.enter F args) w) {r : Operand} {name : String} {T : TypeId} {y : V} (hr : ev σ r = .val (.ifc T y)) (hc : (∃ d, P.underlying T = some d ∧ ∀ e, d ≠ .pointer e)) (hm : methAt P T name = some ([], some (F, false))) {xs : List Operand} {tys : Array TypeId} {args : List Arg} {objs objs' : List (List CA)} {res : Arg} (hspec : Spec P F args objs res objs')
    (ids : List Id) {ts1 ts2 : List Ho} (h1 : MArgs σ ids (.val y :: xs.map (ev σ)) args ts1) (h2 : MObjs σ ids ids objs ts2) (hn : (ts1 ++ ts2).Nodup) (hi : NamesOk d ids objs') (hlen : objs'.length = objs.length ∨ objs'.length = objs.length + 1)
    (ty : TypeId) (pos : String) (af : Array Edge) :
    OpOk P ops C ⟨some d, .call { callee := .invoke r name, args := xs.toArray, argTypes := tys }, ty, pos, af, none⟩ (rds σ ((rdl r ++ opndsL xs) ++ callL d [] ids (ts1 ++ ts2) objs objs')) (callW σ d ids (ts1 ++ ts2) objs' res) :=
  ok_call' (L0 := rdl r ++ opndsL xs) (xs := []) (zs := .val y :: xs.map (ev σ)) (extra := []) hspec ids (by simpa using h1) (fun E σ' a w hr' hg => by
      obtain ⟨k1, k2⟩ := mem_l hr'
      have hv := ev_ok hg r
      rw [ev_congr k1, hr] at hv
      have hv : Rd E.m (.ifc T y) (a.eval r) := hv
      generalize hav : a.eval r = v at hv
      cases hv with
      | ifc _ _ u hu =>
        refine ⟨u :: xs.map a.eval, by simp, fun j x v q1 q2 => ?_, fun ty pos af => ?_⟩
        · cases j with
          | zero => simp at q1 q2; subst q1 q2; exact hu
          | succ j =>
            simp only [List.getElem?_cons_succ] at q1 q2
            rw [← evs_congr k2] at q1
            rw [List.getElem?_map] at q1 q2
            cases hx : xs[j]? with
            | none => rw [hx] at q1; cases q1
            | some z => rw [hx] at q1 q2; cases q1; cases q2; exact ev_ok hg z
        · obtain ⟨dd, hc1, hc2⟩ := hc
          have hrun := meth_run hc1 hc2 hm (P.types.size + (Made.depth - 1)) u w
          have hrun2 : (method (P.types.size + Made.depth) T u name).run P w = .ok (F, u) w := hrun
          simp [execOp, resolve, invoke, callMethod, hav, hrun2, hK]
          exact List.take_of_length_le (by simp)) h2 hn hi hlen ty pos af
/-- A method called through an interface. -/
theorem inv_u {d : Tmp} {F : FuncId} (hK : ∀ args w, (callFunc F args).run P w = .ok (.enter F args) w) {r : Operand} {name : String} (T : TypeId) (y : V) {xs : List Operand} {tys : Array TypeId} {args : List Arg} {objs objs' : List (List CA)} {res : Arg} {ty : TypeId} {pos : String} {af : Array Edge}
    (hc : (∃ d, P.underlying T = some d ∧ ∀ e, d ≠ .pointer e)) (hm : methAt P T name = some ([], some (F, false))) (hspec : Spec P F args objs res objs') (ids : List Id)
    (h : ev σ r = .val (.ifc T y) ∧ mArgs σ ids (.val y :: xs.map (ev σ)) args ∧ mObjs σ ids ids objs ∧ (tokArgs (.val y :: xs.map (ev σ)) args ++ tokObjs σ ids objs).Nodup)
    (k : exec P ops C md K rest (puts σ (callW σ d ids (tokArgs (.val y :: xs.map (ev σ)) args ++ tokObjs σ ids objs) objs' res)) (((rdl r ++ opndsL xs) ++ callL d [] ids (tokArgs (.val y :: xs.map (ev σ)) args ++ tokObjs σ ids objs) objs objs', locs (callW σ d ids (tokArgs (.val y :: xs.map (ev σ)) args ++ tokObjs σ ids objs) objs' res)) :: acc))
    (hn : namesB d ids objs' = true := by kernel_rfl) (hl : lenB objs.length objs'.length = true := by kernel_rfl) :
    Run P ops C md K (⟨some d, .call { callee := .invoke r name, args := xs.toArray, argTypes := tys }, ty, pos, af, none⟩ :: rest) σ acc :=
  run_cons (ok_inv hK h.1 hc hm hspec ids (mArgs_ok h.2.1) (mObjs_ok h.2.2.1) h.2.2.2 (namesB_ok hn) (lenB_ok hl) ty pos af) (exec_run k)
end
end Go.Proofs.Ytekpaepkoeelfaa
