
/- Layer 4: awake; RtpControls, walked. -/
import Derived.Test.YtojcjbaimdjhoaaDoorRtp4
import Derived.Test.YtojcjbaimdjhoaaDoorQRefZ
namespace Go.Proofs.YtojcjbaimdjhoaaDoor
open Go.RowKit
set_option linter.unusedVariables false
set_option linter.unusedSimpArgs false

def isCtl (l : List UInt8) : Bool := decide (2 ≤ l.length ∧ 192 ≤ (l.getD 1 0).toNat ∧ (l.getD 1 0).toNat ≤ 223)
end Go.Proofs.YtojcjbaimdjhoaaDoor
