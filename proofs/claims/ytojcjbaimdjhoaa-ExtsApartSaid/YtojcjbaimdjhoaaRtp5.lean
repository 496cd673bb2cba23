
/- Layer 4: awake; RtpControls, walked. -/
import Derived.Test.YtojcjbaimdjhoaaRtp4
import Derived.Test.YtojcjbaimdjhoaaQRefZ
namespace Go.Proofs.Ytojcjbaimdjhoaa
open Go.RowKit
set_option linter.unusedVariables false
set_option linter.unusedSimpArgs false

def isCtl (l : List UInt8) : Bool := decide (2 ≤ l.length ∧ 192 ≤ (l.getD 1 0).toNat ∧ (l.getD 1 0).toNat ≤ 223)
end Go.Proofs.Ytojcjbaimdjhoaa
