/- The document's layer 11: lines and adverts read; walked. -/
import Derived.Test.YtbnnfmleoebelaaGreatNack1z
import Derived.Test.YtbnnfmleoebelaaGreatRLz
import Derived.Test.YtbnnfmleoebelaaGreatQRefZz
import Derived.Test.YtbnnfmleoebelaaGreatCmp3z
import Derived.Test.YtbnnfmleoebelaaGreatShelfz
namespace Go.Proofs.YtbnnfmleoebelaaGreat
open Go.RowKit
set_option linter.unusedVariables false
set_option linter.unusedSimpArgs false

end Go.Proofs.YtbnnfmleoebelaaGreat

namespace Go.Proofs.YtbnnfmleoebelaaGreat
open Go.RowKit
set_option linter.unusedVariables false
set_option linter.unusedSimpArgs false

end Go.Proofs.YtbnnfmleoebelaaGreat

namespace Go.Proofs.YtbnnfmleoebelaaGreat
open Go.RowKit
set_option linter.unusedVariables false
set_option linter.unusedSimpArgs false

end Go.Proofs.YtbnnfmleoebelaaGreat

namespace Go.Proofs.YtbnnfmleoebelaaGreat
open Go.RowKit
set_option linter.unusedVariables false
set_option linter.unusedSimpArgs false

end Go.Proofs.YtbnnfmleoebelaaGreat

