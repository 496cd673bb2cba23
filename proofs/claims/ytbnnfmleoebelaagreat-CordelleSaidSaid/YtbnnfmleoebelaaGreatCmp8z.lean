/- Layer 12: the document's Parse; few, awake; CompoundParses, CompoundBursts; walked. -/
import Derived.Test.YtbnnfmleoebelaaGreatCmp4z
import Derived.Test.YtbnnfmleoebelaaGreatQCmp07z
import Derived.Test.YtbnnfmleoebelaaGreatCmp5z
namespace Go.Proofs.YtbnnfmleoebelaaGreat
open Go.RowKit
set_option linter.unusedVariables false
set_option linter.unusedSimpArgs false

end Go.Proofs.YtbnnfmleoebelaaGreat

namespace Go.Proofs.YtbnnfmleoebelaaGreat
open Go.RowKit
set_option linter.unusedVariables false
set_option linter.unusedSimpArgs false

theorem cmpE_nil : cmpE [] = 1 := cmpE_form fun h => h.1 rfl
end Go.Proofs.YtbnnfmleoebelaaGreat

