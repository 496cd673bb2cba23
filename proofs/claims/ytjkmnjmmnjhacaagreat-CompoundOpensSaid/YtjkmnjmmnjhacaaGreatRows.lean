/-
  No cell of these rows narrows 'for every input' (looked for: loops, veiled, ifaces, maps, wideKeys, modest, calm, conditions, laid).
  DERIVED. THE GIVEN ROWS OF THIS SEAT. 5 by the template 'for every input the law returns true; each argument reads behind the call as it read before'; 0 by the template 'total and deterministic' (their statements: YtjkmnjmmnjhacaaGreatTotals.lean).
  GIVEN WITH THE SEED: the statements are not yours to turn. If you find one false, say at which input.
  Laid BY PROGRAM, IN A SANDBOX (cutbox-rows.mjs): the forced cells as the released guide's own fill.sh prints them over the translation 8010f8b2ee5c65c5… (all of the seat's roots in one cut). By AI agents, Wed Nov 11 2026. No macro, syntax, notation, axiom, sorry.
-/
import Derived.Test.YtjkmnjmmnjhacaaGreatChecked
import GoSem.Claim
import GoSem.ClaimJoined
import GoSem.ClaimMapViews
import Derived.JoinedTies
import Derived.KernelRfl
namespace Go.Proofs.YtjkmnjmmnjhacaaGreat
/- THE CELL 'sum', in the pinned program and in every row, IS THE sha256 OF THE DUMP (.gsa) THAT YtjkmnjmmnjhacaaGreatProg.lean LOADS. Nothing in Lean hashes anything: it is a label: what it is worth is what the hold of that sum in a sandbox is worth. -/
noncomputable def Tryz.pinned : Pinned := { name := "ytjkmnjmmnjhacaagreat", sum := "8010f8b2ee5c65c543765053684ee9d7229275f81206d17ff766717dad51c711", checked := Tryz.checked }
namespace Rows
def none {H : Type} : Left H := { results := [], args := [] }

/-- 'cordellelaw12.CompoundParses': WHATEVER THE INPUT: true; the input reads as it did. -/
def compoundParsesSpec : ChangeSpec := { name := "compoundParses", fn := fun _ => fun
  | [d1, d2] => { results := [.lit (.bool true)], args := [d1, d2] }
  | _ => none }
def compoundParsesRow : OpenClaim := { program := "ytjkmnjmmnjhacaagreat", sum := "8010f8b2ee5c65c543765053684ee9d7229275f81206d17ff766717dad51c711", func := "cordelle/cordellelaw12.CompoundParses", spec := "compoundParses", inPlace := ["internal/abi.NoEscape", "internal/bytealg.MakeNoZero"], unfollowed := true, recurses := true, apart := false }
def CompoundParsesSaid : Prop := compoundParsesRow.holds Tryz.pinned (OpenSpec.ofChange compoundParsesSpec)

/-- ITS FALSE NEIGHBOUR: 'it returns false'. Refute it at one input. -/
def compoundParsesWrong : ChangeSpec := { name := "compoundParses", fn := fun _ => fun
  | [d1, d2] => { results := [.lit (.bool false)], args := [d1, d2] }
  | _ => none }
def CompoundParsesWrongFalsely : Prop := compoundParsesRow.holds Tryz.pinned (OpenSpec.ofChange compoundParsesWrong)

/-- 'cordellelaw12.CompoundBursts': WHATEVER THE INPUT: true; the input reads as it did. -/
def compoundBurstsSpec : ChangeSpec := { name := "compoundBursts", fn := fun _ => fun
  | [d1, d2, d3] => { results := [.lit (.bool true)], args := [d1, d2, d3] }
  | _ => none }
def compoundBurstsRow : OpenClaim := { program := "ytjkmnjmmnjhacaagreat", sum := "8010f8b2ee5c65c543765053684ee9d7229275f81206d17ff766717dad51c711", func := "cordelle/cordellelaw12.CompoundBursts", spec := "compoundBursts", inPlace := ["internal/abi.NoEscape", "internal/bytealg.MakeNoZero"], unfollowed := true, recurses := true, apart := false }
def CompoundBurstsSaid : Prop := compoundBurstsRow.holds Tryz.pinned (OpenSpec.ofChange compoundBurstsSpec)

/-- ITS FALSE NEIGHBOUR: 'it returns false'. Refute it at one input. -/
def compoundBurstsWrong : ChangeSpec := { name := "compoundBursts", fn := fun _ => fun
  | [d1, d2, d3] => { results := [.lit (.bool false)], args := [d1, d2, d3] }
  | _ => none }
def CompoundBurstsWrongFalsely : Prop := compoundBurstsRow.holds Tryz.pinned (OpenSpec.ofChange compoundBurstsWrong)

/-- 'cordellelaw12.CompoundMore': WHATEVER THE INPUT: true; the input reads as it did. -/
def compoundMoreSpec : ChangeSpec := { name := "compoundMore", fn := fun _ => fun
  | [d1, d2] => { results := [.lit (.bool true)], args := [d1, d2] }
  | _ => none }
def compoundMoreRow : OpenClaim := { program := "ytjkmnjmmnjhacaagreat", sum := "8010f8b2ee5c65c543765053684ee9d7229275f81206d17ff766717dad51c711", func := "cordelle/cordellelaw12.CompoundMore", spec := "compoundMore", inPlace := ["internal/abi.NoEscape", "internal/bytealg.MakeNoZero"], unfollowed := true, recurses := true, apart := false }
def CompoundMoreSaid : Prop := compoundMoreRow.holds Tryz.pinned (OpenSpec.ofChange compoundMoreSpec)

/-- ITS FALSE NEIGHBOUR: 'it returns false'. Refute it at one input. -/
def compoundMoreWrong : ChangeSpec := { name := "compoundMore", fn := fun _ => fun
  | [d1, d2] => { results := [.lit (.bool false)], args := [d1, d2] }
  | _ => none }
def CompoundMoreWrongFalsely : Prop := compoundMoreRow.holds Tryz.pinned (OpenSpec.ofChange compoundMoreWrong)

/-- 'cordellelaw12.CompoundOpens': WHATEVER THE INPUT: true; the input reads as it did. -/
def compoundOpensSpec : ChangeSpec := { name := "compoundOpens", fn := fun _ => fun
  | [d] => { results := [.lit (.bool true)], args := [d] }
  | _ => none }
def compoundOpensRow : OpenClaim := { program := "ytjkmnjmmnjhacaagreat", sum := "8010f8b2ee5c65c543765053684ee9d7229275f81206d17ff766717dad51c711", func := "cordelle/cordellelaw12.CompoundOpens", spec := "compoundOpens", inPlace := ["internal/abi.NoEscape", "internal/bytealg.MakeNoZero"], unfollowed := true, recurses := true, apart := false }
def CompoundOpensSaid : Prop := compoundOpensRow.holds Tryz.pinned (OpenSpec.ofChange compoundOpensSpec)

/-- ITS FALSE NEIGHBOUR: 'it returns false'. Refute it at one input. -/
def compoundOpensWrong : ChangeSpec := { name := "compoundOpens", fn := fun _ => fun
  | [d] => { results := [.lit (.bool false)], args := [d] }
  | _ => none }
def CompoundOpensWrongFalsely : Prop := compoundOpensRow.holds Tryz.pinned (OpenSpec.ofChange compoundOpensWrong)

/-- 'cordelletop.CordelleSaid': WHATEVER THE INPUT: true; the input reads as it did. -/
def cordelleSaidSpec : ChangeSpec := { name := "cordelleSaid", fn := fun _ => fun
  | [d] => { results := [.lit (.bool true)], args := [d] }
  | _ => none }
def cordelleSaidRow : OpenClaim := { program := "ytjkmnjmmnjhacaagreat", sum := "8010f8b2ee5c65c543765053684ee9d7229275f81206d17ff766717dad51c711", func := "cordelle/cordelletop.CordelleSaid", spec := "cordelleSaid", inPlace := ["internal/abi.NoEscape", "internal/bytealg.MakeNoZero"], unfollowed := true, recurses := true, apart := false }
def CordelleSaidSaid : Prop := cordelleSaidRow.holds Tryz.pinned (OpenSpec.ofChange cordelleSaidSpec)

/-- ITS FALSE NEIGHBOUR: 'it returns false'. Refute it at one input. -/
def cordelleSaidWrong : ChangeSpec := { name := "cordelleSaid", fn := fun _ => fun
  | [d] => { results := [.lit (.bool false)], args := [d] }
  | _ => none }
def CordelleSaidWrongFalsely : Prop := cordelleSaidRow.holds Tryz.pinned (OpenSpec.ofChange cordelleSaidWrong)

/- THE SECOND FORM. 'bulk': how many values and letters a reading holds, each counted each time it is reached (what is shared counts as often as it is met; a slice's spare places count too). A statement '..UptoSaid' is the law's where the arguments, and the package variables that the reading takes, are together of bulk at most 1048576: NARROWER than '..Said'. Prove '..Said' where nothing that the law and all that it calls make is longer than what came in: it says more and counts as full. Else prove '..UptoSaid'. A law counts once. -/
mutual
def uptoBulk {H : Type} : DataW H → Nat
  | .lit (.string bytes) => bytes.length + 1
  | .lit _ => 1
  | .nil => 1
  | .ptr d => uptoBulk d + 1
  | .slice elems spare => uptoBulkAll elems + uptoBulkAll spare + 1
  | .agg parts => uptoBulkAll parts + 1
  | .iface _ d => uptoBulk d + 1
  | .map entries => uptoBulkEntries entries + 1
  | .held _ => 1
def uptoBulkAll {H : Type} : List (DataW H) → Nat
  | [] => 0
  | d :: r => uptoBulk d + uptoBulkAll r
def uptoBulkEntries {H : Type} : List (Lit × DataW H) → Nat
  | [] => 0
  | x :: r => uptoBulkEntry x + uptoBulkEntries r
def uptoBulkEntry {H : Type} : Lit × DataW H → Nat
  | (.string bytes, d) => bytes.length + uptoBulk d + 1
  | (_, d) => uptoBulk d + 1
 end
def uptoSmall : (H : Type) → List (DataW H) → Bool := fun _ ds => decide (uptoBulkAll ds ≤ 1048576)
def OpenSpec.upto (s : _root_.Go.ChangeSpec) : _root_.Go.OpenSpec := { _root_.Go.OpenSpec.ofChange s with cond := some uptoSmall }

/-- 'cordellelaw12.CompoundParses', WHERE WHAT IT READS IS OF BULK AT MOST 1048576: true; the input reads as it did. -/
def compoundParsesUptoRow : OpenClaim := { program := "ytjkmnjmmnjhacaagreat", sum := "8010f8b2ee5c65c543765053684ee9d7229275f81206d17ff766717dad51c711", func := "cordelle/cordellelaw12.CompoundParses", spec := "compoundParses", inPlace := ["internal/abi.NoEscape", "internal/bytealg.MakeNoZero"], unfollowed := true, recurses := true, apart := false, narrowed := true }
def CompoundParsesUptoSaid : Prop := compoundParsesUptoRow.holds Tryz.pinned (OpenSpec.upto compoundParsesSpec)

/-- 'cordellelaw12.CompoundBursts', WHERE WHAT IT READS IS OF BULK AT MOST 1048576: true; the input reads as it did. -/
def compoundBurstsUptoRow : OpenClaim := { program := "ytjkmnjmmnjhacaagreat", sum := "8010f8b2ee5c65c543765053684ee9d7229275f81206d17ff766717dad51c711", func := "cordelle/cordellelaw12.CompoundBursts", spec := "compoundBursts", inPlace := ["internal/abi.NoEscape", "internal/bytealg.MakeNoZero"], unfollowed := true, recurses := true, apart := false, narrowed := true }
def CompoundBurstsUptoSaid : Prop := compoundBurstsUptoRow.holds Tryz.pinned (OpenSpec.upto compoundBurstsSpec)

/-- 'cordellelaw12.CompoundMore', WHERE WHAT IT READS IS OF BULK AT MOST 1048576: true; the input reads as it did. -/
def compoundMoreUptoRow : OpenClaim := { program := "ytjkmnjmmnjhacaagreat", sum := "8010f8b2ee5c65c543765053684ee9d7229275f81206d17ff766717dad51c711", func := "cordelle/cordellelaw12.CompoundMore", spec := "compoundMore", inPlace := ["internal/abi.NoEscape", "internal/bytealg.MakeNoZero"], unfollowed := true, recurses := true, apart := false, narrowed := true }
def CompoundMoreUptoSaid : Prop := compoundMoreUptoRow.holds Tryz.pinned (OpenSpec.upto compoundMoreSpec)

/-- 'cordellelaw12.CompoundOpens', WHERE WHAT IT READS IS OF BULK AT MOST 1048576: true; the input reads as it did. -/
def compoundOpensUptoRow : OpenClaim := { program := "ytjkmnjmmnjhacaagreat", sum := "8010f8b2ee5c65c543765053684ee9d7229275f81206d17ff766717dad51c711", func := "cordelle/cordellelaw12.CompoundOpens", spec := "compoundOpens", inPlace := ["internal/abi.NoEscape", "internal/bytealg.MakeNoZero"], unfollowed := true, recurses := true, apart := false, narrowed := true }
def CompoundOpensUptoSaid : Prop := compoundOpensUptoRow.holds Tryz.pinned (OpenSpec.upto compoundOpensSpec)

/-- 'cordelletop.CordelleSaid', WHERE WHAT IT READS IS OF BULK AT MOST 1048576: true; the input reads as it did. -/
def cordelleSaidUptoRow : OpenClaim := { program := "ytjkmnjmmnjhacaagreat", sum := "8010f8b2ee5c65c543765053684ee9d7229275f81206d17ff766717dad51c711", func := "cordelle/cordelletop.CordelleSaid", spec := "cordelleSaid", inPlace := ["internal/abi.NoEscape", "internal/bytealg.MakeNoZero"], unfollowed := true, recurses := true, apart := false, narrowed := true }
def CordelleSaidUptoSaid : Prop := cordelleSaidUptoRow.holds Tryz.pinned (OpenSpec.upto cordelleSaidSpec)

end Rows
end Go.Proofs.YtjkmnjmmnjhacaaGreat
