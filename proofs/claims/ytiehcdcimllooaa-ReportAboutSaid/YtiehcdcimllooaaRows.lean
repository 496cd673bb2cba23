/-
  No cell of these rows narrows 'for every input' (looked for: loops, veiled, ifaces, maps, wideKeys, modest, calm, conditions, laid).
  DERIVED. THE GIVEN ROWS OF THIS SEAT. 12 by the template 'for every input the law returns true; each argument reads behind the call as it read before'; 0 by the template 'total and deterministic' (their statements: YtiehcdcimllooaaTotals.lean).
  GIVEN WITH THE SEED: the statements are not yours to turn. If you find one false, say at which input.
  Laid BY PROGRAM, IN A SANDBOX (cutbox-rows.mjs): the forced cells as the released guide's own fill.sh prints them over the translation 9fc08199ae4718cc… (all of the seat's roots in one cut). By AI agents, Wed Nov 11 2026. No macro, syntax, notation, axiom, sorry.
-/
import Derived.Test.YtiehcdcimllooaaChecked
import GoSem.Claim
import GoSem.ClaimJoined
import GoSem.ClaimMapViews
import Derived.JoinedTies
import Derived.KernelRfl
namespace Go.Proofs.Ytiehcdcimllooaa
/- THE CELL 'sum', in the pinned program and in every row, IS THE sha256 OF THE DUMP (.gsa) THAT YtiehcdcimllooaaProg.lean LOADS. Nothing in Lean hashes anything: it is a label: what it is worth is what the hold of that sum in a sandbox is worth. -/
noncomputable def Try.pinned : Pinned := { name := "ytiehcdcimllooaa", sum := "9fc08199ae4718cc70b872bfdef343b998e8e9d0f5ba55b14d9641c616367329", checked := Try.checked }
namespace Rows
def none {H : Type} : Left H := { results := [], args := [] }

/-- 'cordellelaw03.PenTakes': WHATEVER THE INPUT: true; the input reads as it did. -/
def penTakesSpec : ChangeSpec := { name := "penTakes", fn := fun _ => fun
  | [d1, d2] => { results := [.lit (.bool true)], args := [d1, d2] }
  | _ => none }
def penTakesRow : OpenClaim := { program := "ytiehcdcimllooaa", sum := "9fc08199ae4718cc70b872bfdef343b998e8e9d0f5ba55b14d9641c616367329", func := "cordelle/cordellelaw03.PenTakes", spec := "penTakes", plainKeys := false, apart := false }
def PenTakesSaid : Prop := penTakesRow.holds Try.pinned (OpenSpec.ofChange penTakesSpec)

/-- ITS FALSE NEIGHBOUR: 'it returns false'. Refute it at one input. -/
def penTakesWrong : ChangeSpec := { name := "penTakes", fn := fun _ => fun
  | [d1, d2] => { results := [.lit (.bool false)], args := [d1, d2] }
  | _ => none }
def PenTakesWrongFalsely : Prop := penTakesRow.holds Try.pinned (OpenSpec.ofChange penTakesWrong)

/-- 'cordellelaw03.PenReads': WHATEVER THE INPUT: true; the input reads as it did. -/
def penReadsSpec : ChangeSpec := { name := "penReads", fn := fun _ => fun
  | [d1, d2] => { results := [.lit (.bool true)], args := [d1, d2] }
  | _ => none }
def penReadsRow : OpenClaim := { program := "ytiehcdcimllooaa", sum := "9fc08199ae4718cc70b872bfdef343b998e8e9d0f5ba55b14d9641c616367329", func := "cordelle/cordellelaw03.PenReads", spec := "penReads", plainKeys := false, apart := false }
def PenReadsSaid : Prop := penReadsRow.holds Try.pinned (OpenSpec.ofChange penReadsSpec)

/-- ITS FALSE NEIGHBOUR: 'it returns false'. Refute it at one input. -/
def penReadsWrong : ChangeSpec := { name := "penReads", fn := fun _ => fun
  | [d1, d2] => { results := [.lit (.bool false)], args := [d1, d2] }
  | _ => none }
def PenReadsWrongFalsely : Prop := penReadsRow.holds Try.pinned (OpenSpec.ofChange penReadsWrong)

/-- 'cordellelaw03.PenWrites': WHATEVER THE INPUT: true; the input reads as it did. -/
def penWritesSpec : ChangeSpec := { name := "penWrites", fn := fun _ => fun
  | [d] => { results := [.lit (.bool true)], args := [d] }
  | _ => none }
def penWritesRow : OpenClaim := { program := "ytiehcdcimllooaa", sum := "9fc08199ae4718cc70b872bfdef343b998e8e9d0f5ba55b14d9641c616367329", func := "cordelle/cordellelaw03.PenWrites", spec := "penWrites", plainKeys := false, apart := false }
def PenWritesSaid : Prop := penWritesRow.holds Try.pinned (OpenSpec.ofChange penWritesSpec)

/-- ITS FALSE NEIGHBOUR: 'it returns false'. Refute it at one input. -/
def penWritesWrong : ChangeSpec := { name := "penWrites", fn := fun _ => fun
  | [d] => { results := [.lit (.bool false)], args := [d] }
  | _ => none }
def PenWritesWrongFalsely : Prop := penWritesRow.holds Try.pinned (OpenSpec.ofChange penWritesWrong)

/-- 'cordellelaw03.PenBack': WHATEVER THE INPUT: true; the input reads as it did. -/
def penBackSpec : ChangeSpec := { name := "penBack", fn := fun _ => fun
  | [d1, d2, d3] => { results := [.lit (.bool true)], args := [d1, d2, d3] }
  | _ => none }
def penBackRow : OpenClaim := { program := "ytiehcdcimllooaa", sum := "9fc08199ae4718cc70b872bfdef343b998e8e9d0f5ba55b14d9641c616367329", func := "cordelle/cordellelaw03.PenBack", spec := "penBack", plainKeys := false, apart := false }
def PenBackSaid : Prop := penBackRow.holds Try.pinned (OpenSpec.ofChange penBackSpec)

/-- ITS FALSE NEIGHBOUR: 'it returns false'. Refute it at one input. -/
def penBackWrong : ChangeSpec := { name := "penBack", fn := fun _ => fun
  | [d1, d2, d3] => { results := [.lit (.bool false)], args := [d1, d2, d3] }
  | _ => none }
def PenBackWrongFalsely : Prop := penBackRow.holds Try.pinned (OpenSpec.ofChange penBackWrong)

/-- 'cordellelaw28.NetBag': WHATEVER THE INPUT: true; the input reads as it did. -/
def netBagSpec : ChangeSpec := { name := "netBag", fn := fun _ => fun
  | [d1, d2] => { results := [.lit (.bool true)], args := [d1, d2] }
  | _ => none }
def netBagRow : OpenClaim := { program := "ytiehcdcimllooaa", sum := "9fc08199ae4718cc70b872bfdef343b998e8e9d0f5ba55b14d9641c616367329", func := "cordelle/cordellelaw28.NetBag", spec := "netBag", plainKeys := false, apart := false }
def NetBagSaid : Prop := netBagRow.holds Try.pinned (OpenSpec.ofChange netBagSpec)

/-- ITS FALSE NEIGHBOUR: 'it returns false'. Refute it at one input. -/
def netBagWrong : ChangeSpec := { name := "netBag", fn := fun _ => fun
  | [d1, d2] => { results := [.lit (.bool false)], args := [d1, d2] }
  | _ => none }
def NetBagWrongFalsely : Prop := netBagRow.holds Try.pinned (OpenSpec.ofChange netBagWrong)

/-- 'cordellelaw07.PieceSplits': WHATEVER THE INPUT: true; the input reads as it did. -/
def pieceSplitsSpec : ChangeSpec := { name := "pieceSplits", fn := fun _ => fun
  | [d] => { results := [.lit (.bool true)], args := [d] }
  | _ => none }
def pieceSplitsRow : OpenClaim := { program := "ytiehcdcimllooaa", sum := "9fc08199ae4718cc70b872bfdef343b998e8e9d0f5ba55b14d9641c616367329", func := "cordelle/cordellelaw07.PieceSplits", spec := "pieceSplits", plainKeys := false, apart := false }
def PieceSplitsSaid : Prop := pieceSplitsRow.holds Try.pinned (OpenSpec.ofChange pieceSplitsSpec)

/-- ITS FALSE NEIGHBOUR: 'it returns false'. Refute it at one input. -/
def pieceSplitsWrong : ChangeSpec := { name := "pieceSplits", fn := fun _ => fun
  | [d] => { results := [.lit (.bool false)], args := [d] }
  | _ => none }
def PieceSplitsWrongFalsely : Prop := pieceSplitsRow.holds Try.pinned (OpenSpec.ofChange pieceSplitsWrong)

/-- 'cordellelaw07.PieceJoins': WHATEVER THE INPUT: true; the input reads as it did. -/
def pieceJoinsSpec : ChangeSpec := { name := "pieceJoins", fn := fun _ => fun
  | [d1, d2] => { results := [.lit (.bool true)], args := [d1, d2] }
  | _ => none }
def pieceJoinsRow : OpenClaim := { program := "ytiehcdcimllooaa", sum := "9fc08199ae4718cc70b872bfdef343b998e8e9d0f5ba55b14d9641c616367329", func := "cordelle/cordellelaw07.PieceJoins", spec := "pieceJoins", plainKeys := false, apart := false }
def PieceJoinsSaid : Prop := pieceJoinsRow.holds Try.pinned (OpenSpec.ofChange pieceJoinsSpec)

/-- ITS FALSE NEIGHBOUR: 'it returns false'. Refute it at one input. -/
def pieceJoinsWrong : ChangeSpec := { name := "pieceJoins", fn := fun _ => fun
  | [d1, d2] => { results := [.lit (.bool false)], args := [d1, d2] }
  | _ => none }
def PieceJoinsWrongFalsely : Prop := pieceJoinsRow.holds Try.pinned (OpenSpec.ofChange pieceJoinsWrong)

/-- 'cordellelaw07.PieceBack': WHATEVER THE INPUT: true; the input reads as it did. -/
def pieceBackSpec : ChangeSpec := { name := "pieceBack", fn := fun _ => fun
  | [d] => { results := [.lit (.bool true)], args := [d] }
  | _ => none }
def pieceBackRow : OpenClaim := { program := "ytiehcdcimllooaa", sum := "9fc08199ae4718cc70b872bfdef343b998e8e9d0f5ba55b14d9641c616367329", func := "cordelle/cordellelaw07.PieceBack", spec := "pieceBack", plainKeys := false, apart := false }
def PieceBackSaid : Prop := pieceBackRow.holds Try.pinned (OpenSpec.ofChange pieceBackSpec)

/-- ITS FALSE NEIGHBOUR: 'it returns false'. Refute it at one input. -/
def pieceBackWrong : ChangeSpec := { name := "pieceBack", fn := fun _ => fun
  | [d] => { results := [.lit (.bool false)], args := [d] }
  | _ => none }
def PieceBackWrongFalsely : Prop := pieceBackRow.holds Try.pinned (OpenSpec.ofChange pieceBackWrong)

/-- 'cordellelaw08.ReportReads': WHATEVER THE INPUT: true; the input reads as it did. -/
def reportReadsSpec : ChangeSpec := { name := "reportReads", fn := fun _ => fun
  | [d] => { results := [.lit (.bool true)], args := [d] }
  | _ => none }
def reportReadsRow : OpenClaim := { program := "ytiehcdcimllooaa", sum := "9fc08199ae4718cc70b872bfdef343b998e8e9d0f5ba55b14d9641c616367329", func := "cordelle/cordellelaw08.ReportReads", spec := "reportReads", plainKeys := false, apart := false }
def ReportReadsSaid : Prop := reportReadsRow.holds Try.pinned (OpenSpec.ofChange reportReadsSpec)

/-- ITS FALSE NEIGHBOUR: 'it returns false'. Refute it at one input. -/
def reportReadsWrong : ChangeSpec := { name := "reportReads", fn := fun _ => fun
  | [d] => { results := [.lit (.bool false)], args := [d] }
  | _ => none }
def ReportReadsWrongFalsely : Prop := reportReadsRow.holds Try.pinned (OpenSpec.ofChange reportReadsWrong)

/-- 'cordellelaw08.ReportBack': WHATEVER THE INPUT: true; the input reads as it did. -/
def reportBackSpec : ChangeSpec := { name := "reportBack", fn := fun _ => fun
  | [d] => { results := [.lit (.bool true)], args := [d] }
  | _ => none }
def reportBackRow : OpenClaim := { program := "ytiehcdcimllooaa", sum := "9fc08199ae4718cc70b872bfdef343b998e8e9d0f5ba55b14d9641c616367329", func := "cordelle/cordellelaw08.ReportBack", spec := "reportBack", plainKeys := false, apart := false }
def ReportBackSaid : Prop := reportBackRow.holds Try.pinned (OpenSpec.ofChange reportBackSpec)

/-- ITS FALSE NEIGHBOUR: 'it returns false'. Refute it at one input. -/
def reportBackWrong : ChangeSpec := { name := "reportBack", fn := fun _ => fun
  | [d] => { results := [.lit (.bool false)], args := [d] }
  | _ => none }
def ReportBackWrongFalsely : Prop := reportBackRow.holds Try.pinned (OpenSpec.ofChange reportBackWrong)

/-- 'cordellelaw08.ReportApart': WHATEVER THE INPUT: true; the input reads as it did. -/
def reportApartSpec : ChangeSpec := { name := "reportApart", fn := fun _ => fun
  | [d1, d2] => { results := [.lit (.bool true)], args := [d1, d2] }
  | _ => none }
def reportApartRow : OpenClaim := { program := "ytiehcdcimllooaa", sum := "9fc08199ae4718cc70b872bfdef343b998e8e9d0f5ba55b14d9641c616367329", func := "cordelle/cordellelaw08.ReportApart", spec := "reportApart", plainKeys := false, apart := false }
def ReportApartSaid : Prop := reportApartRow.holds Try.pinned (OpenSpec.ofChange reportApartSpec)

/-- ITS FALSE NEIGHBOUR: 'it returns false'. Refute it at one input. -/
def reportApartWrong : ChangeSpec := { name := "reportApart", fn := fun _ => fun
  | [d1, d2] => { results := [.lit (.bool false)], args := [d1, d2] }
  | _ => none }
def ReportApartWrongFalsely : Prop := reportApartRow.holds Try.pinned (OpenSpec.ofChange reportApartWrong)

/-- 'cordellelaw08.ReportAbout': WHATEVER THE INPUT: true; the input reads as it did. -/
def reportAboutSpec : ChangeSpec := { name := "reportAbout", fn := fun _ => fun
  | [d1, d2, d3] => { results := [.lit (.bool true)], args := [d1, d2, d3] }
  | _ => none }
def reportAboutRow : OpenClaim := { program := "ytiehcdcimllooaa", sum := "9fc08199ae4718cc70b872bfdef343b998e8e9d0f5ba55b14d9641c616367329", func := "cordelle/cordellelaw08.ReportAbout", spec := "reportAbout", plainKeys := false, apart := false }
def ReportAboutSaid : Prop := reportAboutRow.holds Try.pinned (OpenSpec.ofChange reportAboutSpec)

/-- ITS FALSE NEIGHBOUR: 'it returns false'. Refute it at one input. -/
def reportAboutWrong : ChangeSpec := { name := "reportAbout", fn := fun _ => fun
  | [d1, d2, d3] => { results := [.lit (.bool false)], args := [d1, d2, d3] }
  | _ => none }
def ReportAboutWrongFalsely : Prop := reportAboutRow.holds Try.pinned (OpenSpec.ofChange reportAboutWrong)

/- THE SECOND FORM. 'bulk': how many values and letters a reading holds, each counted each time it is reached (what is shared counts as often as it is met; a slice's spare places count too). A statement '..UptoSaid' is the law's where the arguments, and the package variables that the reading takes, are together of bulk at most 1048576: NARROWER than '..Said'. Prove '..Said' where nothing that the law and all that it calls make is longer than what came in: it says more and counts as full. Else prove '..UptoSaid'. A law counts once. -/
mutual
def uptoBulk {H : Type} : DataW H → Nat
  | .lit (.string bytes) => bytes.length + 1
  | .lit _ => 1
  | .nil => 1
  | .ptr d => uptoBulk d + 1
  | .slice elems spare => uptoBulkAll elems + uptoBulkAll spare + 1
  | .agg parts => uptoBulkAll parts + 1
  | .iface _ d => uptoBulk d + 1
  | .map entries => uptoBulkEntries entries + 1
  | .held _ => 1
def uptoBulkAll {H : Type} : List (DataW H) → Nat
  | [] => 0
  | d :: r => uptoBulk d + uptoBulkAll r
def uptoBulkEntries {H : Type} : List (Lit × DataW H) → Nat
  | [] => 0
  | x :: r => uptoBulkEntry x + uptoBulkEntries r
def uptoBulkEntry {H : Type} : Lit × DataW H → Nat
  | (.string bytes, d) => bytes.length + uptoBulk d + 1
  | (_, d) => uptoBulk d + 1
 end
def uptoSmall : (H : Type) → List (DataW H) → Bool := fun _ ds => decide (uptoBulkAll ds ≤ 1048576)
def OpenSpec.upto (s : _root_.Go.ChangeSpec) : _root_.Go.OpenSpec := { _root_.Go.OpenSpec.ofChange s with cond := some uptoSmall }

/-- 'cordellelaw03.PenTakes', WHERE WHAT IT READS IS OF BULK AT MOST 1048576: true; the input reads as it did. -/
def penTakesUptoRow : OpenClaim := { program := "ytiehcdcimllooaa", sum := "9fc08199ae4718cc70b872bfdef343b998e8e9d0f5ba55b14d9641c616367329", func := "cordelle/cordellelaw03.PenTakes", spec := "penTakes", plainKeys := false, apart := false, narrowed := true }
def PenTakesUptoSaid : Prop := penTakesUptoRow.holds Try.pinned (OpenSpec.upto penTakesSpec)

/-- 'cordellelaw03.PenReads', WHERE WHAT IT READS IS OF BULK AT MOST 1048576: true; the input reads as it did. -/
def penReadsUptoRow : OpenClaim := { program := "ytiehcdcimllooaa", sum := "9fc08199ae4718cc70b872bfdef343b998e8e9d0f5ba55b14d9641c616367329", func := "cordelle/cordellelaw03.PenReads", spec := "penReads", plainKeys := false, apart := false, narrowed := true }
def PenReadsUptoSaid : Prop := penReadsUptoRow.holds Try.pinned (OpenSpec.upto penReadsSpec)

/-- 'cordellelaw03.PenWrites', WHERE WHAT IT READS IS OF BULK AT MOST 1048576: true; the input reads as it did. -/
def penWritesUptoRow : OpenClaim := { program := "ytiehcdcimllooaa", sum := "9fc08199ae4718cc70b872bfdef343b998e8e9d0f5ba55b14d9641c616367329", func := "cordelle/cordellelaw03.PenWrites", spec := "penWrites", plainKeys := false, apart := false, narrowed := true }
def PenWritesUptoSaid : Prop := penWritesUptoRow.holds Try.pinned (OpenSpec.upto penWritesSpec)

/-- 'cordellelaw03.PenBack', WHERE WHAT IT READS IS OF BULK AT MOST 1048576: true; the input reads as it did. -/
def penBackUptoRow : OpenClaim := { program := "ytiehcdcimllooaa", sum := "9fc08199ae4718cc70b872bfdef343b998e8e9d0f5ba55b14d9641c616367329", func := "cordelle/cordellelaw03.PenBack", spec := "penBack", plainKeys := false, apart := false, narrowed := true }
def PenBackUptoSaid : Prop := penBackUptoRow.holds Try.pinned (OpenSpec.upto penBackSpec)

/-- 'cordellelaw28.NetBag', WHERE WHAT IT READS IS OF BULK AT MOST 1048576: true; the input reads as it did. -/
def netBagUptoRow : OpenClaim := { program := "ytiehcdcimllooaa", sum := "9fc08199ae4718cc70b872bfdef343b998e8e9d0f5ba55b14d9641c616367329", func := "cordelle/cordellelaw28.NetBag", spec := "netBag", plainKeys := false, apart := false, narrowed := true }
def NetBagUptoSaid : Prop := netBagUptoRow.holds Try.pinned (OpenSpec.upto netBagSpec)

/-- 'cordellelaw07.PieceSplits', WHERE WHAT IT READS IS OF BULK AT MOST 1048576: true; the input reads as it did. -/
def pieceSplitsUptoRow : OpenClaim := { program := "ytiehcdcimllooaa", sum := "9fc08199ae4718cc70b872bfdef343b998e8e9d0f5ba55b14d9641c616367329", func := "cordelle/cordellelaw07.PieceSplits", spec := "pieceSplits", plainKeys := false, apart := false, narrowed := true }
def PieceSplitsUptoSaid : Prop := pieceSplitsUptoRow.holds Try.pinned (OpenSpec.upto pieceSplitsSpec)

/-- 'cordellelaw07.PieceJoins', WHERE WHAT IT READS IS OF BULK AT MOST 1048576: true; the input reads as it did. -/
def pieceJoinsUptoRow : OpenClaim := { program := "ytiehcdcimllooaa", sum := "9fc08199ae4718cc70b872bfdef343b998e8e9d0f5ba55b14d9641c616367329", func := "cordelle/cordellelaw07.PieceJoins", spec := "pieceJoins", plainKeys := false, apart := false, narrowed := true }
def PieceJoinsUptoSaid : Prop := pieceJoinsUptoRow.holds Try.pinned (OpenSpec.upto pieceJoinsSpec)

/-- 'cordellelaw07.PieceBack', WHERE WHAT IT READS IS OF BULK AT MOST 1048576: true; the input reads as it did. -/
def pieceBackUptoRow : OpenClaim := { program := "ytiehcdcimllooaa", sum := "9fc08199ae4718cc70b872bfdef343b998e8e9d0f5ba55b14d9641c616367329", func := "cordelle/cordellelaw07.PieceBack", spec := "pieceBack", plainKeys := false, apart := false, narrowed := true }
def PieceBackUptoSaid : Prop := pieceBackUptoRow.holds Try.pinned (OpenSpec.upto pieceBackSpec)

/-- 'cordellelaw08.ReportReads', WHERE WHAT IT READS IS OF BULK AT MOST 1048576: true; the input reads as it did. -/
def reportReadsUptoRow : OpenClaim := { program := "ytiehcdcimllooaa", sum := "9fc08199ae4718cc70b872bfdef343b998e8e9d0f5ba55b14d9641c616367329", func := "cordelle/cordellelaw08.ReportReads", spec := "reportReads", plainKeys := false, apart := false, narrowed := true }
def ReportReadsUptoSaid : Prop := reportReadsUptoRow.holds Try.pinned (OpenSpec.upto reportReadsSpec)

/-- 'cordellelaw08.ReportBack', WHERE WHAT IT READS IS OF BULK AT MOST 1048576: true; the input reads as it did. -/
def reportBackUptoRow : OpenClaim := { program := "ytiehcdcimllooaa", sum := "9fc08199ae4718cc70b872bfdef343b998e8e9d0f5ba55b14d9641c616367329", func := "cordelle/cordellelaw08.ReportBack", spec := "reportBack", plainKeys := false, apart := false, narrowed := true }
def ReportBackUptoSaid : Prop := reportBackUptoRow.holds Try.pinned (OpenSpec.upto reportBackSpec)

/-- 'cordellelaw08.ReportApart', WHERE WHAT IT READS IS OF BULK AT MOST 1048576: true; the input reads as it did. -/
def reportApartUptoRow : OpenClaim := { program := "ytiehcdcimllooaa", sum := "9fc08199ae4718cc70b872bfdef343b998e8e9d0f5ba55b14d9641c616367329", func := "cordelle/cordellelaw08.ReportApart", spec := "reportApart", plainKeys := false, apart := false, narrowed := true }
def ReportApartUptoSaid : Prop := reportApartUptoRow.holds Try.pinned (OpenSpec.upto reportApartSpec)

/-- 'cordellelaw08.ReportAbout', WHERE WHAT IT READS IS OF BULK AT MOST 1048576: true; the input reads as it did. -/
def reportAboutUptoRow : OpenClaim := { program := "ytiehcdcimllooaa", sum := "9fc08199ae4718cc70b872bfdef343b998e8e9d0f5ba55b14d9641c616367329", func := "cordelle/cordellelaw08.ReportAbout", spec := "reportAbout", plainKeys := false, apart := false, narrowed := true }
def ReportAboutUptoSaid : Prop := reportAboutUptoRow.holds Try.pinned (OpenSpec.upto reportAboutSpec)

end Rows
end Go.Proofs.Ytiehcdcimllooaa
