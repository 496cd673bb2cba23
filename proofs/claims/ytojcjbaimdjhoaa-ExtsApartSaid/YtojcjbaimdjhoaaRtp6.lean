
/- Layer 4: the references May and Pack, Told, Same, Cut. -/
import Derived.Test.YtojcjbaimdjhoaaRtp5
namespace Go.Proofs.Ytojcjbaimdjhoaa
open Go.RowKit
set_option linter.unusedVariables false
set_option linter.unusedSimpArgs false

abbrev r4L (p : P4) : List V := [vb p.marker, vi p.kind, vi p.seq, vi p.time, vi p.src, .lst 1 (p.others.map intEl), vb p.hasExt, vi p.profile, vs p.ext, vs p.data, vi p.pad]
theorem zer_succ (k : Nat) : zer (k + 1) = zer k ++ [0] := List.replicate_succ'
end Go.Proofs.Ytojcjbaimdjhoaa
