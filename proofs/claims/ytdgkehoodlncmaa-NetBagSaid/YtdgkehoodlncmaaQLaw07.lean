
/- Layer 7: the reference and the law's helpers, by abstract values. -/
import Derived.Test.YtdgkehoodlncmaaQPiece
import Derived.Test.YtdgkehoodlncmaaQRef
namespace Go.Proofs.Ytdgkehoodlncmaa
open Go.RowKit
set_option linter.unusedVariables false
set_option linter.unusedSimpArgs false

theorem cut60 (l : List UInt8) (hl : l.length ≤ maxLen) : Spec Try.prog 45 [.ca (.val (vs l)), .ca (.val (vi 60))] [] (.ca (.val (vs (l.take 60)))) [] := q_cut l 60 hl (by decide)
/-- A piece, its body cut. -/
def cutP (p : Pc) : Pc := (p.1, p.2.1, p.2.2.take 60)
end Go.Proofs.Ytdgkehoodlncmaa
