/- The document's layer 11: lines and adverts read; walked. -/
import Derived.Test.YthnbeodpckmjnaaGreatDoorNack1z
import Derived.Test.YthnbeodpckmjnaaGreatDoorQRefZz
import Derived.Test.YthnbeodpckmjnaaGreatDoorQRefZz
import Derived.Test.YthnbeodpckmjnaaGreatDoorCmp3z
import Derived.Test.YthnbeodpckmjnaaGreatDoorQCmp07z
namespace Go.Proofs.YthnbeodpckmjnaaGreatDoor
open Go.RowKit
set_option linter.unusedVariables false
set_option linter.unusedSimpArgs false

end Go.Proofs.YthnbeodpckmjnaaGreatDoor

namespace Go.Proofs.YthnbeodpckmjnaaGreatDoor
open Go.RowKit
set_option linter.unusedVariables false
set_option linter.unusedSimpArgs false

end Go.Proofs.YthnbeodpckmjnaaGreatDoor

namespace Go.Proofs.YthnbeodpckmjnaaGreatDoor
open Go.RowKit
set_option linter.unusedVariables false
set_option linter.unusedSimpArgs false

end Go.Proofs.YthnbeodpckmjnaaGreatDoor

namespace Go.Proofs.YthnbeodpckmjnaaGreatDoor
open Go.RowKit
set_option linter.unusedVariables false
set_option linter.unusedSimpArgs false

end Go.Proofs.YthnbeodpckmjnaaGreatDoor

