
/- Layer 5: the reference Parse. -/
import Derived.Test.YtojcjbaimdjhoaaExts4
import Derived.Test.YtojcjbaimdjhoaaExts3
import Derived.Test.YtojcjbaimdjhoaaRtp7
namespace Go.Proofs.Ytojcjbaimdjhoaa
open Go.RowKit
set_option linter.unusedVariables false
set_option linter.unusedSimpArgs false

def Ref5 (f : Nat) (s : List UInt8) (x : Nat × List E5) : Prop := x.2.length ≤ x.1 ∧ x.1 ≤ s.length ∧ go5 f s = acc5 x.2 (go5 f (s.drop x.1))
theorem getD_at (s : List UInt8) (j : Nat) (h : j < s.length) : s.getD j 0 = s[j] := by simp [h]
end Go.Proofs.Ytojcjbaimdjhoaa
