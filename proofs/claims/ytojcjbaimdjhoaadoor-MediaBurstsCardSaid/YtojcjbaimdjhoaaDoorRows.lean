/-
  NARROWER THAN 'FOR EVERY INPUT', by the rows' own cells (each row's printed sentence says how): ExtsParse: laid · ExtsBack: laid · ExtsHeaders: laid · MediaApart: laid · MediaTracks: laid · MediaBursts: laid.
  DERIVED. THE GIVEN ROWS OF THIS SEAT. 6 by the template 'for every input the law returns true; each argument reads behind the call as it read before'; 0 by the template 'total and deterministic' (their statements: YtojcjbaimdjhoaaDoorTotals.lean).
  GIVEN WITH THE SEED: the statements are not yours to turn. If you find one false, say at which input.
  Laid BY PROGRAM, IN A SANDBOX (cutbox-rows.mjs): the forced cells as the released guide's own fill.sh prints them over the translation d48aed56e70b87c4… (all of the seat's roots in one cut). By AI agents, Wed Nov 11 2026. No macro, syntax, notation, axiom, sorry.
-/
import Derived.Test.YtojcjbaimdjhoaaDoorChecked
import GoSem.PinnedTables
import GoSem.Claim
import GoSem.ClaimJoined
import GoSem.ClaimMapViews
import Derived.JoinedTies
import Derived.KernelRfl
namespace Go.Proofs.YtojcjbaimdjhoaaDoor
/- THE CELL 'sum', in the pinned program and in every row, IS THE sha256 OF THE DUMP (.gsa) THAT YtojcjbaimdjhoaaDoorProg.lean LOADS. Nothing in Lean hashes anything: it is a label: what it is worth is what the hold of that sum in a sandbox is worth. -/
noncomputable def Tryd.pinned : Pinned := { name := "ytojcjbaimdjhoaadoor", sum := "d48aed56e70b87c4a1547a3ed856c15ed354726789687b2b12d5f2b3c735b764", checked := Tryd.checked }
namespace Rows
def none {H : Type} : Left H := { results := [], args := [] }

/- WHAT THE LISTED PACKAGE-LEVEL VARIABLES READ AS WHEN THE CALL BEGINS. Each datum BY PROGRAM (the guide's laid-datum.mjs) off the statement by which the dump's own 'gosem.cut.vars' lays the variable. In a bare row this is a premise. The card (YtojcjbaimdjhoaaDoorCards.lean) ties it to the program's text. -/
def laid_unicode_utf8_acceptRanges {H : Type} : DataW H := .agg [.agg [.lit (.int .u8 128), .lit (.int .u8 191)], .agg [.lit (.int .u8 160), .lit (.int .u8 191)], .agg [.lit (.int .u8 128), .lit (.int .u8 159)], .agg [.lit (.int .u8 144), .lit (.int .u8 191)], .agg [.lit (.int .u8 128), .lit (.int .u8 143)], .agg [.lit (.int .u8 0), .lit (.int .u8 0)], .agg [.lit (.int .u8 0), .lit (.int .u8 0)], .agg [.lit (.int .u8 0), .lit (.int .u8 0)], .agg [.lit (.int .u8 0), .lit (.int .u8 0)], .agg [.lit (.int .u8 0), .lit (.int .u8 0)], .agg [.lit (.int .u8 0), .lit (.int .u8 0)], .agg [.lit (.int .u8 0), .lit (.int .u8 0)], .agg [.lit (.int .u8 0), .lit (.int .u8 0)], .agg [.lit (.int .u8 0), .lit (.int .u8 0)], .agg [.lit (.int .u8 0), .lit (.int .u8 0)], .agg [.lit (.int .u8 0), .lit (.int .u8 0)]]
/-- One of Go's own tables, pinned by name: the form's constant. -/
def laid_unicode_utf8_first : DataW Unit := Go.Pinned.utf8First

/-- 'cordellelaw05.ExtsParse': WHATEVER THE INPUT: true; the input reads as it did. -/
def extsParseSpec : ChangeSpec := { name := "extsParse", fn := fun _ => fun
  | [d1, d2] => { results := [.lit (.bool true)], args := [d1, d2] }
  | _ => none }
def extsParseRow : OpenClaim := { program := "ytojcjbaimdjhoaadoor", sum := "d48aed56e70b87c4a1547a3ed856c15ed354726789687b2b12d5f2b3c735b764", func := "cordelle/cordellelaw05.ExtsParse", spec := "extsParse", inPlace := ["internal/abi.NoEscape", "internal/bytealg.MakeNoZero", "internal/bytealg.IndexByteString", "internal/bytealg.IndexString"], unfollowed := true, recurses := true, named := ["unicode/utf8.first", "unicode/utf8.acceptRanges", "internal/bytealg.MaxLen"], apart := false, laid := [("unicode/utf8.acceptRanges", laid_unicode_utf8_acceptRanges), ("unicode/utf8.first", laid_unicode_utf8_first)] }
def ExtsParseSaid : Prop := extsParseRow.holds Tryd.pinned (OpenSpec.ofChange extsParseSpec)

/-- ITS FALSE NEIGHBOUR: 'it returns false'. Refute it at one input. -/
def extsParseWrong : ChangeSpec := { name := "extsParse", fn := fun _ => fun
  | [d1, d2] => { results := [.lit (.bool false)], args := [d1, d2] }
  | _ => none }
def ExtsParseWrongFalsely : Prop := extsParseRow.holds Tryd.pinned (OpenSpec.ofChange extsParseWrong)

/-- 'cordellelaw05.ExtsBack': WHATEVER THE INPUT: true; the input reads as it did. -/
def extsBackSpec : ChangeSpec := { name := "extsBack", fn := fun _ => fun
  | [d1, d2] => { results := [.lit (.bool true)], args := [d1, d2] }
  | _ => none }
def extsBackRow : OpenClaim := { program := "ytojcjbaimdjhoaadoor", sum := "d48aed56e70b87c4a1547a3ed856c15ed354726789687b2b12d5f2b3c735b764", func := "cordelle/cordellelaw05.ExtsBack", spec := "extsBack", inPlace := ["internal/abi.NoEscape", "internal/bytealg.MakeNoZero", "internal/bytealg.IndexByteString", "internal/bytealg.IndexString"], unfollowed := true, recurses := true, named := ["unicode/utf8.first", "unicode/utf8.acceptRanges", "internal/bytealg.MaxLen"], apart := false, laid := [("unicode/utf8.acceptRanges", laid_unicode_utf8_acceptRanges), ("unicode/utf8.first", laid_unicode_utf8_first)] }
def ExtsBackSaid : Prop := extsBackRow.holds Tryd.pinned (OpenSpec.ofChange extsBackSpec)

/-- ITS FALSE NEIGHBOUR: 'it returns false'. Refute it at one input. -/
def extsBackWrong : ChangeSpec := { name := "extsBack", fn := fun _ => fun
  | [d1, d2] => { results := [.lit (.bool false)], args := [d1, d2] }
  | _ => none }
def ExtsBackWrongFalsely : Prop := extsBackRow.holds Tryd.pinned (OpenSpec.ofChange extsBackWrong)

/-- 'cordellelaw05.ExtsHeaders': WHATEVER THE INPUT: true; the input reads as it did. -/
def extsHeadersSpec : ChangeSpec := { name := "extsHeaders", fn := fun _ => fun
  | [d] => { results := [.lit (.bool true)], args := [d] }
  | _ => none }
def extsHeadersRow : OpenClaim := { program := "ytojcjbaimdjhoaadoor", sum := "d48aed56e70b87c4a1547a3ed856c15ed354726789687b2b12d5f2b3c735b764", func := "cordelle/cordellelaw05.ExtsHeaders", spec := "extsHeaders", inPlace := ["internal/abi.NoEscape", "internal/bytealg.MakeNoZero", "internal/bytealg.IndexByteString", "internal/bytealg.IndexString"], unfollowed := true, recurses := true, named := ["unicode/utf8.first", "unicode/utf8.acceptRanges", "internal/bytealg.MaxLen"], apart := false, laid := [("unicode/utf8.acceptRanges", laid_unicode_utf8_acceptRanges), ("unicode/utf8.first", laid_unicode_utf8_first)] }
def ExtsHeadersSaid : Prop := extsHeadersRow.holds Tryd.pinned (OpenSpec.ofChange extsHeadersSpec)

/-- ITS FALSE NEIGHBOUR: 'it returns false'. Refute it at one input. -/
def extsHeadersWrong : ChangeSpec := { name := "extsHeaders", fn := fun _ => fun
  | [d] => { results := [.lit (.bool false)], args := [d] }
  | _ => none }
def ExtsHeadersWrongFalsely : Prop := extsHeadersRow.holds Tryd.pinned (OpenSpec.ofChange extsHeadersWrong)

/-- 'cordellelaw06.MediaApart': WHATEVER THE INPUT: true; the input reads as it did. -/
def mediaApartSpec : ChangeSpec := { name := "mediaApart", fn := fun _ => fun
  | [d1, d2] => { results := [.lit (.bool true)], args := [d1, d2] }
  | _ => none }
def mediaApartRow : OpenClaim := { program := "ytojcjbaimdjhoaadoor", sum := "d48aed56e70b87c4a1547a3ed856c15ed354726789687b2b12d5f2b3c735b764", func := "cordelle/cordellelaw06.MediaApart", spec := "mediaApart", inPlace := ["internal/abi.NoEscape", "internal/bytealg.MakeNoZero", "internal/bytealg.IndexByteString", "internal/bytealg.IndexString"], unfollowed := true, recurses := true, named := ["unicode/utf8.first", "unicode/utf8.acceptRanges", "internal/bytealg.MaxLen"], apart := false, laid := [("unicode/utf8.acceptRanges", laid_unicode_utf8_acceptRanges), ("unicode/utf8.first", laid_unicode_utf8_first)] }
def MediaApartSaid : Prop := mediaApartRow.holds Tryd.pinned (OpenSpec.ofChange mediaApartSpec)

/-- ITS FALSE NEIGHBOUR: 'it returns false'. Refute it at one input. -/
def mediaApartWrong : ChangeSpec := { name := "mediaApart", fn := fun _ => fun
  | [d1, d2] => { results := [.lit (.bool false)], args := [d1, d2] }
  | _ => none }
def MediaApartWrongFalsely : Prop := mediaApartRow.holds Tryd.pinned (OpenSpec.ofChange mediaApartWrong)

/-- 'cordellelaw06.MediaTracks': WHATEVER THE INPUT: true; the input reads as it did. -/
def mediaTracksSpec : ChangeSpec := { name := "mediaTracks", fn := fun _ => fun
  | [d1, d2, d3] => { results := [.lit (.bool true)], args := [d1, d2, d3] }
  | _ => none }
def mediaTracksRow : OpenClaim := { program := "ytojcjbaimdjhoaadoor", sum := "d48aed56e70b87c4a1547a3ed856c15ed354726789687b2b12d5f2b3c735b764", func := "cordelle/cordellelaw06.MediaTracks", spec := "mediaTracks", inPlace := ["internal/abi.NoEscape", "internal/bytealg.MakeNoZero", "internal/bytealg.IndexByteString", "internal/bytealg.IndexString"], unfollowed := true, recurses := true, named := ["unicode/utf8.first", "unicode/utf8.acceptRanges", "internal/bytealg.MaxLen"], apart := false, laid := [("unicode/utf8.acceptRanges", laid_unicode_utf8_acceptRanges), ("unicode/utf8.first", laid_unicode_utf8_first)] }
def MediaTracksSaid : Prop := mediaTracksRow.holds Tryd.pinned (OpenSpec.ofChange mediaTracksSpec)

/-- ITS FALSE NEIGHBOUR: 'it returns false'. Refute it at one input. -/
def mediaTracksWrong : ChangeSpec := { name := "mediaTracks", fn := fun _ => fun
  | [d1, d2, d3] => { results := [.lit (.bool false)], args := [d1, d2, d3] }
  | _ => none }
def MediaTracksWrongFalsely : Prop := mediaTracksRow.holds Tryd.pinned (OpenSpec.ofChange mediaTracksWrong)

/-- 'cordellelaw06.MediaBursts': WHATEVER THE INPUT: true; the input reads as it did. -/
def mediaBurstsSpec : ChangeSpec := { name := "mediaBursts", fn := fun _ => fun
  | [d1, d2, d3] => { results := [.lit (.bool true)], args := [d1, d2, d3] }
  | _ => none }
def mediaBurstsRow : OpenClaim := { program := "ytojcjbaimdjhoaadoor", sum := "d48aed56e70b87c4a1547a3ed856c15ed354726789687b2b12d5f2b3c735b764", func := "cordelle/cordellelaw06.MediaBursts", spec := "mediaBursts", inPlace := ["internal/abi.NoEscape", "internal/bytealg.MakeNoZero", "internal/bytealg.IndexByteString", "internal/bytealg.IndexString"], unfollowed := true, recurses := true, named := ["unicode/utf8.first", "unicode/utf8.acceptRanges", "internal/bytealg.MaxLen"], apart := false, laid := [("unicode/utf8.acceptRanges", laid_unicode_utf8_acceptRanges), ("unicode/utf8.first", laid_unicode_utf8_first)] }
def MediaBurstsSaid : Prop := mediaBurstsRow.holds Tryd.pinned (OpenSpec.ofChange mediaBurstsSpec)

/-- ITS FALSE NEIGHBOUR: 'it returns false'. Refute it at one input. -/
def mediaBurstsWrong : ChangeSpec := { name := "mediaBursts", fn := fun _ => fun
  | [d1, d2, d3] => { results := [.lit (.bool false)], args := [d1, d2, d3] }
  | _ => none }
def MediaBurstsWrongFalsely : Prop := mediaBurstsRow.holds Tryd.pinned (OpenSpec.ofChange mediaBurstsWrong)

/- THE SECOND FORM. 'bulk': how many values and letters a reading holds, each counted each time it is reached (what is shared counts as often as it is met; a slice's spare places count too). A statement '..UptoSaid' is the law's where the arguments, and the package variables that the reading takes, are together of bulk at most 1048576: NARROWER than '..Said'. Prove '..Said' where nothing that the law and all that it calls make is longer than what came in: it says more and counts as full. Else prove '..UptoSaid'. A law counts once. -/
mutual
def uptoBulk {H : Type} : DataW H → Nat
  | .lit (.string bytes) => bytes.length + 1
  | .lit _ => 1
  | .nil => 1
  | .ptr d => uptoBulk d + 1
  | .slice elems spare => uptoBulkAll elems + uptoBulkAll spare + 1
  | .agg parts => uptoBulkAll parts + 1
  | .iface _ d => uptoBulk d + 1
  | .map entries => uptoBulkEntries entries + 1
  | .held _ => 1
def uptoBulkAll {H : Type} : List (DataW H) → Nat
  | [] => 0
  | d :: r => uptoBulk d + uptoBulkAll r
def uptoBulkEntries {H : Type} : List (Lit × DataW H) → Nat
  | [] => 0
  | x :: r => uptoBulkEntry x + uptoBulkEntries r
def uptoBulkEntry {H : Type} : Lit × DataW H → Nat
  | (.string bytes, d) => bytes.length + uptoBulk d + 1
  | (_, d) => uptoBulk d + 1
 end
def uptoSmall : (H : Type) → List (DataW H) → Bool := fun _ ds => decide (uptoBulkAll ds ≤ 1048576)
def OpenSpec.upto (s : _root_.Go.ChangeSpec) : _root_.Go.OpenSpec := { _root_.Go.OpenSpec.ofChange s with cond := some uptoSmall }

/-- 'cordellelaw05.ExtsParse', WHERE WHAT IT READS IS OF BULK AT MOST 1048576: true; the input reads as it did. -/
def extsParseUptoRow : OpenClaim := { program := "ytojcjbaimdjhoaadoor", sum := "d48aed56e70b87c4a1547a3ed856c15ed354726789687b2b12d5f2b3c735b764", func := "cordelle/cordellelaw05.ExtsParse", spec := "extsParse", inPlace := ["internal/abi.NoEscape", "internal/bytealg.MakeNoZero", "internal/bytealg.IndexByteString", "internal/bytealg.IndexString"], unfollowed := true, recurses := true, named := ["unicode/utf8.first", "unicode/utf8.acceptRanges", "internal/bytealg.MaxLen"], apart := false, laid := [("unicode/utf8.acceptRanges", laid_unicode_utf8_acceptRanges), ("unicode/utf8.first", laid_unicode_utf8_first)], narrowed := true }
def ExtsParseUptoSaid : Prop := extsParseUptoRow.holds Tryd.pinned (OpenSpec.upto extsParseSpec)

/-- 'cordellelaw05.ExtsBack', WHERE WHAT IT READS IS OF BULK AT MOST 1048576: true; the input reads as it did. -/
def extsBackUptoRow : OpenClaim := { program := "ytojcjbaimdjhoaadoor", sum := "d48aed56e70b87c4a1547a3ed856c15ed354726789687b2b12d5f2b3c735b764", func := "cordelle/cordellelaw05.ExtsBack", spec := "extsBack", inPlace := ["internal/abi.NoEscape", "internal/bytealg.MakeNoZero", "internal/bytealg.IndexByteString", "internal/bytealg.IndexString"], unfollowed := true, recurses := true, named := ["unicode/utf8.first", "unicode/utf8.acceptRanges", "internal/bytealg.MaxLen"], apart := false, laid := [("unicode/utf8.acceptRanges", laid_unicode_utf8_acceptRanges), ("unicode/utf8.first", laid_unicode_utf8_first)], narrowed := true }
def ExtsBackUptoSaid : Prop := extsBackUptoRow.holds Tryd.pinned (OpenSpec.upto extsBackSpec)

/-- 'cordellelaw05.ExtsHeaders', WHERE WHAT IT READS IS OF BULK AT MOST 1048576: true; the input reads as it did. -/
def extsHeadersUptoRow : OpenClaim := { program := "ytojcjbaimdjhoaadoor", sum := "d48aed56e70b87c4a1547a3ed856c15ed354726789687b2b12d5f2b3c735b764", func := "cordelle/cordellelaw05.ExtsHeaders", spec := "extsHeaders", inPlace := ["internal/abi.NoEscape", "internal/bytealg.MakeNoZero", "internal/bytealg.IndexByteString", "internal/bytealg.IndexString"], unfollowed := true, recurses := true, named := ["unicode/utf8.first", "unicode/utf8.acceptRanges", "internal/bytealg.MaxLen"], apart := false, laid := [("unicode/utf8.acceptRanges", laid_unicode_utf8_acceptRanges), ("unicode/utf8.first", laid_unicode_utf8_first)], narrowed := true }
def ExtsHeadersUptoSaid : Prop := extsHeadersUptoRow.holds Tryd.pinned (OpenSpec.upto extsHeadersSpec)

/-- 'cordellelaw06.MediaApart', WHERE WHAT IT READS IS OF BULK AT MOST 1048576: true; the input reads as it did. -/
def mediaApartUptoRow : OpenClaim := { program := "ytojcjbaimdjhoaadoor", sum := "d48aed56e70b87c4a1547a3ed856c15ed354726789687b2b12d5f2b3c735b764", func := "cordelle/cordellelaw06.MediaApart", spec := "mediaApart", inPlace := ["internal/abi.NoEscape", "internal/bytealg.MakeNoZero", "internal/bytealg.IndexByteString", "internal/bytealg.IndexString"], unfollowed := true, recurses := true, named := ["unicode/utf8.first", "unicode/utf8.acceptRanges", "internal/bytealg.MaxLen"], apart := false, laid := [("unicode/utf8.acceptRanges", laid_unicode_utf8_acceptRanges), ("unicode/utf8.first", laid_unicode_utf8_first)], narrowed := true }
def MediaApartUptoSaid : Prop := mediaApartUptoRow.holds Tryd.pinned (OpenSpec.upto mediaApartSpec)

/-- 'cordellelaw06.MediaTracks', WHERE WHAT IT READS IS OF BULK AT MOST 1048576: true; the input reads as it did. -/
def mediaTracksUptoRow : OpenClaim := { program := "ytojcjbaimdjhoaadoor", sum := "d48aed56e70b87c4a1547a3ed856c15ed354726789687b2b12d5f2b3c735b764", func := "cordelle/cordellelaw06.MediaTracks", spec := "mediaTracks", inPlace := ["internal/abi.NoEscape", "internal/bytealg.MakeNoZero", "internal/bytealg.IndexByteString", "internal/bytealg.IndexString"], unfollowed := true, recurses := true, named := ["unicode/utf8.first", "unicode/utf8.acceptRanges", "internal/bytealg.MaxLen"], apart := false, laid := [("unicode/utf8.acceptRanges", laid_unicode_utf8_acceptRanges), ("unicode/utf8.first", laid_unicode_utf8_first)], narrowed := true }
def MediaTracksUptoSaid : Prop := mediaTracksUptoRow.holds Tryd.pinned (OpenSpec.upto mediaTracksSpec)

/-- 'cordellelaw06.MediaBursts', WHERE WHAT IT READS IS OF BULK AT MOST 1048576: true; the input reads as it did. -/
def mediaBurstsUptoRow : OpenClaim := { program := "ytojcjbaimdjhoaadoor", sum := "d48aed56e70b87c4a1547a3ed856c15ed354726789687b2b12d5f2b3c735b764", func := "cordelle/cordellelaw06.MediaBursts", spec := "mediaBursts", inPlace := ["internal/abi.NoEscape", "internal/bytealg.MakeNoZero", "internal/bytealg.IndexByteString", "internal/bytealg.IndexString"], unfollowed := true, recurses := true, named := ["unicode/utf8.first", "unicode/utf8.acceptRanges", "internal/bytealg.MaxLen"], apart := false, laid := [("unicode/utf8.acceptRanges", laid_unicode_utf8_acceptRanges), ("unicode/utf8.first", laid_unicode_utf8_first)], narrowed := true }
def MediaBurstsUptoSaid : Prop := mediaBurstsUptoRow.holds Tryd.pinned (OpenSpec.upto mediaBurstsSpec)

end Rows
end Go.Proofs.YtojcjbaimdjhoaaDoor
