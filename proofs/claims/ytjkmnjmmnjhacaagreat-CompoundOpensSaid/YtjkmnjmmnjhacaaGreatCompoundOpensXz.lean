/- What was left out of the pruned texts and is asked for here. -/
import Derived.Test.YtjkmnjmmnjhacaaGreatRHz
import Derived.Test.YtjkmnjmmnjhacaaGreatRPz
import Derived.Test.YtjkmnjmmnjhacaaGreatQLaw07z
import Derived.Test.YtjkmnjmmnjhacaaGreatCmp9z
import Derived.Test.YtjkmnjmmnjhacaaGreatCmpAz
namespace Go.Proofs.YtjkmnjmmnjhacaaGreat
open Go.RowKit
set_option linter.unusedVariables false
set_option linter.unusedSimpArgs false
theorem ti61 : tiOf Tryz.prog 61 = some { sh := Sh.array 8, agg := true, size := 8, bytes := 64, zero := [Value.int IntKind.i64 (0), Value.int IntKind.i64 (0), Value.int IntKind.i64 (0), Value.int IntKind.i64 (0), Value.int IntKind.i64 (0), Value.int IntKind.i64 (0), Value.int IntKind.i64 (0), Value.int IntKind.i64 (0)], elem := 3, fields := [], fok := true, zok := true } := by kernel_rfl
attribute [go_sem] ti61
end Go.Proofs.YtjkmnjmmnjhacaaGreat
