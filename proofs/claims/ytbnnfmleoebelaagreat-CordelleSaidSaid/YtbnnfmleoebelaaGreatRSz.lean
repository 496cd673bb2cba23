/- Rules: a field of a value, guarded. -/
import Derived.Test.YtbnnfmleoebelaaGreatNack1z
namespace Go.Proofs.YtbnnfmleoebelaaGreat
open Go.RowKit
set_option linter.unusedVariables false
set_option linter.unusedSimpArgs false

section
variable {P : Program} {ops : Array Oper} {C : Ctx} {E : Env} {σ : St} {a : Act} {w : World} {md : Bool} {K : St → List FP → Prop} {acc : List FP} {rest : List Oper}
end
end Go.Proofs.YtbnnfmleoebelaaGreat

