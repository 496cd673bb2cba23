
/- Rules: a field of a value, guarded. -/
import Derived.Test.YtdgkehoodlncmaaRP
namespace Go.Proofs.Ytdgkehoodlncmaa
open Go.RowKit
set_option linter.unusedVariables false
set_option linter.unusedSimpArgs false

section
variable {P : Program} {ops : Array Oper} {C : Ctx} {E : Env} {σ : St} {a : Act} {w : World} {md : Bool} {K : St → List FP → Prop} {acc : List FP} {rest : List Oper}
theorem gfld_s {j : Nat} {g : Bool} {d : Tmp} {t : TypeId} {x : Operand} {f : Nat} {ty : TypeId} {pos : String} {af : Array Edge} (ft : TypeId) (off : Nat) (T : TI) (xs : List V) (y : V) (hf : fieldAt P t f = some (ft, off)) (hT : tiOf P ft = some T)
    (hd : ((ops[j]?).bind (·.dst)).isSome = true ∧ σ (.s (gslot ops j)) = .av (.val (.sc (.bool g)))) (hx : ev σ x = .val (.agg xs)) (hy : partT T off xs = some y)
    (k : exec P ops C md K rest (put σ (.s d) (.av (.val y))) ((.s (gslot ops j) :: rdl x, [.s d]) :: acc)) : Run P ops C md K (⟨some d, .field t x f, ty, pos, af, some (j, g)⟩ :: rest) σ acc :=
  run_cons (ok_guard hd.1 hd.2 (ok_fld hf hT hx hy _ _ _ rfl trivial ops ty pos af)) (exec_run k)
end
end Go.Proofs.Ytdgkehoodlncmaa
