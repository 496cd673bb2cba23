
/- A slice compared with nil. -/
import Derived.Test.YtojcjbaimdjhoaaDoorRJ
import Derived.Lib.SliceRun
import Derived.WalkSpells
namespace Go.Proofs.YtojcjbaimdjhoaaDoor
open Go.RowKit
set_option linter.unusedVariables false
set_option linter.unusedSimpArgs false

section
variable {P : Program} {ops : Array Oper} {C : Ctx} {σ : St} {K : St → List FP → Prop} {acc : List FP} {rest : List Oper}
theorem guard_slice {op : BinOp} {t : TypeId} {x y : Operand} {a : Option Addr} {n c : Nat} {u : Value} (w : World) : (eqGuard op t x y (.slice a n c) u).run P w = .ok () w := by
  unfold eqGuard
  cases op <;> simp
theorem rd_slice {m : Mem} {sz : Nat} {es : List (List V)} {v : Value} (h : Rd m (.lst sz es) v) : ∃ a n c, v = .slice a n c ∧ (a.isNone = true → es = []) := by
  cases h with
  | nil A c => exact ⟨_, _, _, rfl, fun _ => rfl⟩
  | lst => exact ⟨_, _, _, rfl, fun h => by cases h⟩
/-- A slice is nil, then it is without elements, or it is not. -/
theorem nil_s {d : Tmp} {t t' : TypeId} {x : Operand} {n c : Nat} {ty : TypeId} {pos : String} {af : Array Edge} (sz : Nat) (es : List (List V)) (hx : plain (ev σ x) = .lst sz es) (ht : (tiOf P t).map (·.sh) = some .slice)
    (k : ∀ b : Bool, (b = true → es = []) → exec P ops C true K rest (put σ (.s d) (.av (.val (.sc (.bool b))))) ((rdl x, [.s d]) :: acc)) :
    Run P ops C true K (⟨some d, .binOp .eql t x (.const (.slice none n c)) t', ty, pos, af, none⟩ :: rest) σ acc :=
  .alt (L := rdl x) (Ws := fun W => ∃ b : Bool, (b = true → es = []) ∧ W = [(.s d, .av (.val (.sc (.bool b))))]) rfl (fun E σ' a w Kt Q hd hr0 hg hK => by
      rw [if_pos (by simp [Region.wanted])]
      have hr := rds_all hr0
      have hv := ev_ok hg x
      rw [ev_congr hr] at hv
      have hv := plain_ok hv
      rw [hx] at hv
      obtain ⟨A, n', c', h1, h2⟩ := rd_slice hv
      obtain ⟨e, he⟩ := sh_slice ht
      show Oper.upon _ _ _ _ _ _
      have hrun : (execOp a.eval ⟨some d, .binOp .eql t x (.const (.slice none n c)) t', ty, pos, af, none⟩).run P w = .ok (.value (.bool A.isNone)) w := by
        have hc : a.eval (.const (.slice none n c)) = .slice none n c := rfl
        simp only [execOp, h1, hc, Sem.run_bind, guard_slice, Result.andThen_ok, Lib.run_eql_slice_nil w t e A n' c' n c he, Sem.run_pure]
      rw [hrun]
      exact hK _ _ _ E ⟨A.isNone, h2, rfl⟩ (hg.slot d _ _ (hd d rfl) (Rd.sc _))) fun W hW => by
    obtain ⟨b, h1, rfl⟩ := hW
    exact exec_run (k b h1)
/-- The same where it is asked whether it isn't nil. -/
theorem notnil_s {d : Tmp} {t t' : TypeId} {x : Operand} {n c : Nat} {ty : TypeId} {pos : String} {af : Array Edge} (sz : Nat) (es : List (List V)) (hx : plain (ev σ x) = .lst sz es) (ht : (tiOf P t).map (·.sh) = some .slice)
    (k : ∀ b : Bool, (b = false → es = []) → exec P ops C true K rest (put σ (.s d) (.av (.val (.sc (.bool b))))) ((rdl x, [.s d]) :: acc)) :
    Run P ops C true K (⟨some d, .binOp .neq t x (.const (.slice none n c)) t', ty, pos, af, none⟩ :: rest) σ acc :=
  .alt (L := rdl x) (Ws := fun W => ∃ b : Bool, (b = false → es = []) ∧ W = [(.s d, .av (.val (.sc (.bool b))))]) rfl (fun E σ' a w Kt Q hd hr0 hg hK => by
      rw [if_pos (by simp [Region.wanted])]
      have hr := rds_all hr0
      have hv := ev_ok hg x
      rw [ev_congr hr] at hv
      have hv := plain_ok hv
      rw [hx] at hv
      obtain ⟨A, n', c', h1, h2⟩ := rd_slice hv
      obtain ⟨e, he⟩ := sh_slice ht
      show Oper.upon _ _ _ _ _ _
      have hrun : (execOp a.eval ⟨some d, .binOp .neq t x (.const (.slice none n c)) t', ty, pos, af, none⟩).run P w = .ok (.value (.bool (!A.isNone))) w := by
        have hc : a.eval (.const (.slice none n c)) = .slice none n c := rfl
        simp only [execOp, h1, hc, Sem.run_bind, guard_slice, Result.andThen_ok, run_neq_slice_nil_any w t e A n' c' n c he, Sem.run_pure]
      rw [hrun]
      exact hK _ _ _ E ⟨!A.isNone, fun h => h2 (by simpa using h), rfl⟩ (hg.slot d _ _ (hd d rfl) (Rd.sc _))) fun W hW => by
    obtain ⟨b, h1, rfl⟩ := hW
    exact exec_run (k b h1)
end
end Go.Proofs.YtojcjbaimdjhoaaDoor
