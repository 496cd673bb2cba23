/-
  No cell of these rows narrows 'for every input' (looked for: loops, veiled, ifaces, maps, wideKeys, modest, calm, conditions, laid).
  DERIVED. THE GIVEN ROWS OF THIS SEAT. 11 by the template 'for every input the law returns true; each argument reads behind the call as it read before'; 0 by the template 'total and deterministic' (their statements: YtlhkhncdnaibgaaTotals.lean).
  GIVEN WITH THE SEED: the statements are not yours to turn. If you find one false, say at which input.
  Laid BY PROGRAM, IN A SANDBOX (cutbox-rows.mjs): the forced cells as the released guide's own fill.sh prints them over the translation be73921b921c36c0… (all of the seat's roots in one cut). By AI agents, Wed Nov 11 2026. No macro, syntax, notation, axiom, sorry.
-/
import Derived.Test.YtlhkhncdnaibgaaChecked
import GoSem.Claim
import GoSem.ClaimJoined
import GoSem.ClaimMapViews
import Derived.JoinedTies
import Derived.KernelRfl
namespace Go.Proofs.Ytlhkhncdnaibgaa
/- THE CELL 'sum', in the pinned program and in every row, IS THE sha256 OF THE DUMP (.gsa) THAT YtlhkhncdnaibgaaProg.lean LOADS. Nothing in Lean hashes anything: it is a label: what it is worth is what the hold of that sum in a sandbox is worth. -/
noncomputable def Try.pinned : Pinned := { name := "ytlhkhncdnaibgaa", sum := "be73921b921c36c0a0b47b39506dabcef68eee194e92f964d4389c3c3a0d8355", checked := Try.checked }
namespace Rows
def none {H : Type} : Left H := { results := [], args := [] }

/-- 'cordellelaw16.TableOrder': WHATEVER THE INPUT: true; the input reads as it did. -/
def tableOrderSpec : ChangeSpec := { name := "tableOrder", fn := fun _ => fun
  | [d] => { results := [.lit (.bool true)], args := [d] }
  | _ => none }
def tableOrderRow : OpenClaim := { program := "ytlhkhncdnaibgaa", sum := "be73921b921c36c0a0b47b39506dabcef68eee194e92f964d4389c3c3a0d8355", func := "cordelle/cordellelaw16.TableOrder", spec := "tableOrder", inPlace := ["slices.overlaps[cordelle/table.Entry]"], unfollowed := true, recurses := true, apart := false }
def TableOrderSaid : Prop := tableOrderRow.holds Try.pinned (OpenSpec.ofChange tableOrderSpec)

/-- ITS FALSE NEIGHBOUR: 'it returns false'. Refute it at one input. -/
def tableOrderWrong : ChangeSpec := { name := "tableOrder", fn := fun _ => fun
  | [d] => { results := [.lit (.bool false)], args := [d] }
  | _ => none }
def TableOrderWrongFalsely : Prop := tableOrderRow.holds Try.pinned (OpenSpec.ofChange tableOrderWrong)

/-- 'cordellelaw05.ExtsApart': WHATEVER THE INPUT: true; the input reads as it did. -/
def extsApartSpec : ChangeSpec := { name := "extsApart", fn := fun _ => fun
  | [d1, d2, d3] => { results := [.lit (.bool true)], args := [d1, d2, d3] }
  | _ => none }
def extsApartRow : OpenClaim := { program := "ytlhkhncdnaibgaa", sum := "be73921b921c36c0a0b47b39506dabcef68eee194e92f964d4389c3c3a0d8355", func := "cordelle/cordellelaw05.ExtsApart", spec := "extsApart", inPlace := ["internal/abi.NoEscape", "internal/bytealg.MakeNoZero"], unfollowed := true, recurses := true, apart := false }
def ExtsApartSaid : Prop := extsApartRow.holds Try.pinned (OpenSpec.ofChange extsApartSpec)

/-- ITS FALSE NEIGHBOUR: 'it returns false'. Refute it at one input. -/
def extsApartWrong : ChangeSpec := { name := "extsApart", fn := fun _ => fun
  | [d1, d2, d3] => { results := [.lit (.bool false)], args := [d1, d2, d3] }
  | _ => none }
def ExtsApartWrongFalsely : Prop := extsApartRow.holds Try.pinned (OpenSpec.ofChange extsApartWrong)

/-- 'cordellelaw09.NotesByes': WHATEVER THE INPUT: true; the input reads as it did. -/
def notesByesSpec : ChangeSpec := { name := "notesByes", fn := fun _ => fun
  | [d1, d2] => { results := [.lit (.bool true)], args := [d1, d2] }
  | _ => none }
def notesByesRow : OpenClaim := { program := "ytlhkhncdnaibgaa", sum := "be73921b921c36c0a0b47b39506dabcef68eee194e92f964d4389c3c3a0d8355", func := "cordelle/cordellelaw09.NotesByes", spec := "notesByes", inPlace := ["internal/abi.NoEscape", "internal/bytealg.MakeNoZero"], apart := false }
def NotesByesSaid : Prop := notesByesRow.holds Try.pinned (OpenSpec.ofChange notesByesSpec)

/-- ITS FALSE NEIGHBOUR: 'it returns false'. Refute it at one input. -/
def notesByesWrong : ChangeSpec := { name := "notesByes", fn := fun _ => fun
  | [d1, d2] => { results := [.lit (.bool false)], args := [d1, d2] }
  | _ => none }
def NotesByesWrongFalsely : Prop := notesByesRow.holds Try.pinned (OpenSpec.ofChange notesByesWrong)

/-- 'cordellelaw09.NotesApps': WHATEVER THE INPUT: true; the input reads as it did. -/
def notesAppsSpec : ChangeSpec := { name := "notesApps", fn := fun _ => fun
  | [d] => { results := [.lit (.bool true)], args := [d] }
  | _ => none }
def notesAppsRow : OpenClaim := { program := "ytlhkhncdnaibgaa", sum := "be73921b921c36c0a0b47b39506dabcef68eee194e92f964d4389c3c3a0d8355", func := "cordelle/cordellelaw09.NotesApps", spec := "notesApps", inPlace := ["internal/abi.NoEscape", "internal/bytealg.MakeNoZero"], apart := false }
def NotesAppsSaid : Prop := notesAppsRow.holds Try.pinned (OpenSpec.ofChange notesAppsSpec)

/-- ITS FALSE NEIGHBOUR: 'it returns false'. Refute it at one input. -/
def notesAppsWrong : ChangeSpec := { name := "notesApps", fn := fun _ => fun
  | [d] => { results := [.lit (.bool false)], args := [d] }
  | _ => none }
def NotesAppsWrongFalsely : Prop := notesAppsRow.holds Try.pinned (OpenSpec.ofChange notesAppsWrong)

/-- 'cordellelaw18.ShareScales': WHATEVER THE INPUT: true; the input reads as it did. -/
def shareScalesSpec : ChangeSpec := { name := "shareScales", fn := fun _ => fun
  | [d1, d2, d3] => { results := [.lit (.bool true)], args := [d1, d2, d3] }
  | _ => none }
def shareScalesRow : OpenClaim := { program := "ytlhkhncdnaibgaa", sum := "be73921b921c36c0a0b47b39506dabcef68eee194e92f964d4389c3c3a0d8355", func := "cordelle/cordellelaw18.ShareScales", spec := "shareScales", inPlace := ["slices.overlaps[cordelle/share.load]"], unfollowed := true, recurses := true, apart := false }
def ShareScalesSaid : Prop := shareScalesRow.holds Try.pinned (OpenSpec.ofChange shareScalesSpec)

/-- ITS FALSE NEIGHBOUR: 'it returns false'. Refute it at one input. -/
def shareScalesWrong : ChangeSpec := { name := "shareScales", fn := fun _ => fun
  | [d1, d2, d3] => { results := [.lit (.bool false)], args := [d1, d2, d3] }
  | _ => none }
def ShareScalesWrongFalsely : Prop := shareScalesRow.holds Try.pinned (OpenSpec.ofChange shareScalesWrong)

/-- 'cordellelaw09.NotesNames': WHATEVER THE INPUT: true; the input reads as it did. -/
def notesNamesSpec : ChangeSpec := { name := "notesNames", fn := fun _ => fun
  | [d] => { results := [.lit (.bool true)], args := [d] }
  | _ => none }
def notesNamesRow : OpenClaim := { program := "ytlhkhncdnaibgaa", sum := "be73921b921c36c0a0b47b39506dabcef68eee194e92f964d4389c3c3a0d8355", func := "cordelle/cordellelaw09.NotesNames", spec := "notesNames", inPlace := ["internal/abi.NoEscape", "internal/bytealg.MakeNoZero"], apart := false }
def NotesNamesSaid : Prop := notesNamesRow.holds Try.pinned (OpenSpec.ofChange notesNamesSpec)

/-- ITS FALSE NEIGHBOUR: 'it returns false'. Refute it at one input. -/
def notesNamesWrong : ChangeSpec := { name := "notesNames", fn := fun _ => fun
  | [d] => { results := [.lit (.bool false)], args := [d] }
  | _ => none }
def NotesNamesWrongFalsely : Prop := notesNamesRow.holds Try.pinned (OpenSpec.ofChange notesNamesWrong)

/-- 'cordellelaw18.ShareFair': WHATEVER THE INPUT: true; the input reads as it did. -/
def shareFairSpec : ChangeSpec := { name := "shareFair", fn := fun _ => fun
  | [d1, d2] => { results := [.lit (.bool true)], args := [d1, d2] }
  | _ => none }
def shareFairRow : OpenClaim := { program := "ytlhkhncdnaibgaa", sum := "be73921b921c36c0a0b47b39506dabcef68eee194e92f964d4389c3c3a0d8355", func := "cordelle/cordellelaw18.ShareFair", spec := "shareFair", inPlace := ["slices.overlaps[cordelle/share.load]"], unfollowed := true, recurses := true, apart := false }
def ShareFairSaid : Prop := shareFairRow.holds Try.pinned (OpenSpec.ofChange shareFairSpec)

/-- ITS FALSE NEIGHBOUR: 'it returns false'. Refute it at one input. -/
def shareFairWrong : ChangeSpec := { name := "shareFair", fn := fun _ => fun
  | [d1, d2] => { results := [.lit (.bool false)], args := [d1, d2] }
  | _ => none }
def ShareFairWrongFalsely : Prop := shareFairRow.holds Try.pinned (OpenSpec.ofChange shareFairWrong)

/-- 'cordellelaw09.NotesRead': WHATEVER THE INPUT: true; the input reads as it did. -/
def notesReadSpec : ChangeSpec := { name := "notesRead", fn := fun _ => fun
  | [d] => { results := [.lit (.bool true)], args := [d] }
  | _ => none }
def notesReadRow : OpenClaim := { program := "ytlhkhncdnaibgaa", sum := "be73921b921c36c0a0b47b39506dabcef68eee194e92f964d4389c3c3a0d8355", func := "cordelle/cordellelaw09.NotesRead", spec := "notesRead", inPlace := ["internal/abi.NoEscape", "internal/bytealg.MakeNoZero"], apart := false }
def NotesReadSaid : Prop := notesReadRow.holds Try.pinned (OpenSpec.ofChange notesReadSpec)

/-- ITS FALSE NEIGHBOUR: 'it returns false'. Refute it at one input. -/
def notesReadWrong : ChangeSpec := { name := "notesRead", fn := fun _ => fun
  | [d] => { results := [.lit (.bool false)], args := [d] }
  | _ => none }
def NotesReadWrongFalsely : Prop := notesReadRow.holds Try.pinned (OpenSpec.ofChange notesReadWrong)

/-- 'cordellelaw09.NotesApart': WHATEVER THE INPUT: true; the input reads as it did. -/
def notesApartSpec : ChangeSpec := { name := "notesApart", fn := fun _ => fun
  | [d1, d2, d3] => { results := [.lit (.bool true)], args := [d1, d2, d3] }
  | _ => none }
def notesApartRow : OpenClaim := { program := "ytlhkhncdnaibgaa", sum := "be73921b921c36c0a0b47b39506dabcef68eee194e92f964d4389c3c3a0d8355", func := "cordelle/cordellelaw09.NotesApart", spec := "notesApart", inPlace := ["internal/abi.NoEscape", "internal/bytealg.MakeNoZero"], apart := false }
def NotesApartSaid : Prop := notesApartRow.holds Try.pinned (OpenSpec.ofChange notesApartSpec)

/-- ITS FALSE NEIGHBOUR: 'it returns false'. Refute it at one input. -/
def notesApartWrong : ChangeSpec := { name := "notesApart", fn := fun _ => fun
  | [d1, d2, d3] => { results := [.lit (.bool false)], args := [d1, d2, d3] }
  | _ => none }
def NotesApartWrongFalsely : Prop := notesApartRow.holds Try.pinned (OpenSpec.ofChange notesApartWrong)

/-- 'cordellelaw24.BufferSorts': WHATEVER THE INPUT: true; the input reads as it did. -/
def bufferSortsSpec : ChangeSpec := { name := "bufferSorts", fn := fun _ => fun
  | [d1, d2] => { results := [.lit (.bool true)], args := [d1, d2] }
  | _ => none }
def bufferSortsRow : OpenClaim := { program := "ytlhkhncdnaibgaa", sum := "be73921b921c36c0a0b47b39506dabcef68eee194e92f964d4389c3c3a0d8355", func := "cordelle/cordellelaw24.BufferSorts", spec := "bufferSorts", inPlace := ["slices.overlaps[*cordelle/split.Frame]", "internal/abi.NoEscape"], unfollowed := true, recurses := true, apart := false }
def BufferSortsSaid : Prop := bufferSortsRow.holds Try.pinned (OpenSpec.ofChange bufferSortsSpec)

/-- ITS FALSE NEIGHBOUR: 'it returns false'. Refute it at one input. -/
def bufferSortsWrong : ChangeSpec := { name := "bufferSorts", fn := fun _ => fun
  | [d1, d2] => { results := [.lit (.bool false)], args := [d1, d2] }
  | _ => none }
def BufferSortsWrongFalsely : Prop := bufferSortsRow.holds Try.pinned (OpenSpec.ofChange bufferSortsWrong)

/-- 'cordellelaw18.SharePlays': WHATEVER THE INPUT: true; the input reads as it did. -/
def sharePlaysSpec : ChangeSpec := { name := "sharePlays", fn := fun _ => fun
  | [d1, d2] => { results := [.lit (.bool true)], args := [d1, d2] }
  | _ => none }
def sharePlaysRow : OpenClaim := { program := "ytlhkhncdnaibgaa", sum := "be73921b921c36c0a0b47b39506dabcef68eee194e92f964d4389c3c3a0d8355", func := "cordelle/cordellelaw18.SharePlays", spec := "sharePlays", inPlace := ["slices.overlaps[cordelle/share.load]"], unfollowed := true, recurses := true, apart := false }
def SharePlaysSaid : Prop := sharePlaysRow.holds Try.pinned (OpenSpec.ofChange sharePlaysSpec)

/-- ITS FALSE NEIGHBOUR: 'it returns false'. Refute it at one input. -/
def sharePlaysWrong : ChangeSpec := { name := "sharePlays", fn := fun _ => fun
  | [d1, d2] => { results := [.lit (.bool false)], args := [d1, d2] }
  | _ => none }
def SharePlaysWrongFalsely : Prop := sharePlaysRow.holds Try.pinned (OpenSpec.ofChange sharePlaysWrong)

/- THE SECOND FORM. 'bulk': how many values and letters a reading holds, each counted each time it is reached (what is shared counts as often as it is met; a slice's spare places count too). A statement '..UptoSaid' is the law's where the arguments, and the package variables that the reading takes, are together of bulk at most 1048576: NARROWER than '..Said'. Prove '..Said' where nothing that the law and all that it calls make is longer than what came in: it says more and counts as full. Else prove '..UptoSaid'. A law counts once. -/
mutual
def uptoBulk {H : Type} : DataW H → Nat
  | .lit (.string bytes) => bytes.length + 1
  | .lit _ => 1
  | .nil => 1
  | .ptr d => uptoBulk d + 1
  | .slice elems spare => uptoBulkAll elems + uptoBulkAll spare + 1
  | .agg parts => uptoBulkAll parts + 1
  | .iface _ d => uptoBulk d + 1
  | .map entries => uptoBulkEntries entries + 1
  | .held _ => 1
def uptoBulkAll {H : Type} : List (DataW H) → Nat
  | [] => 0
  | d :: r => uptoBulk d + uptoBulkAll r
def uptoBulkEntries {H : Type} : List (Lit × DataW H) → Nat
  | [] => 0
  | x :: r => uptoBulkEntry x + uptoBulkEntries r
def uptoBulkEntry {H : Type} : Lit × DataW H → Nat
  | (.string bytes, d) => bytes.length + uptoBulk d + 1
  | (_, d) => uptoBulk d + 1
 end
def uptoSmall : (H : Type) → List (DataW H) → Bool := fun _ ds => decide (uptoBulkAll ds ≤ 1048576)
def OpenSpec.upto (s : _root_.Go.ChangeSpec) : _root_.Go.OpenSpec := { _root_.Go.OpenSpec.ofChange s with cond := some uptoSmall }

/-- 'cordellelaw16.TableOrder', WHERE WHAT IT READS IS OF BULK AT MOST 1048576: true; the input reads as it did. -/
def tableOrderUptoRow : OpenClaim := { program := "ytlhkhncdnaibgaa", sum := "be73921b921c36c0a0b47b39506dabcef68eee194e92f964d4389c3c3a0d8355", func := "cordelle/cordellelaw16.TableOrder", spec := "tableOrder", inPlace := ["slices.overlaps[cordelle/table.Entry]"], unfollowed := true, recurses := true, apart := false, narrowed := true }
def TableOrderUptoSaid : Prop := tableOrderUptoRow.holds Try.pinned (OpenSpec.upto tableOrderSpec)

/-- 'cordellelaw05.ExtsApart', WHERE WHAT IT READS IS OF BULK AT MOST 1048576: true; the input reads as it did. -/
def extsApartUptoRow : OpenClaim := { program := "ytlhkhncdnaibgaa", sum := "be73921b921c36c0a0b47b39506dabcef68eee194e92f964d4389c3c3a0d8355", func := "cordelle/cordellelaw05.ExtsApart", spec := "extsApart", inPlace := ["internal/abi.NoEscape", "internal/bytealg.MakeNoZero"], unfollowed := true, recurses := true, apart := false, narrowed := true }
def ExtsApartUptoSaid : Prop := extsApartUptoRow.holds Try.pinned (OpenSpec.upto extsApartSpec)

/-- 'cordellelaw09.NotesByes', WHERE WHAT IT READS IS OF BULK AT MOST 1048576: true; the input reads as it did. -/
def notesByesUptoRow : OpenClaim := { program := "ytlhkhncdnaibgaa", sum := "be73921b921c36c0a0b47b39506dabcef68eee194e92f964d4389c3c3a0d8355", func := "cordelle/cordellelaw09.NotesByes", spec := "notesByes", inPlace := ["internal/abi.NoEscape", "internal/bytealg.MakeNoZero"], apart := false, narrowed := true }
def NotesByesUptoSaid : Prop := notesByesUptoRow.holds Try.pinned (OpenSpec.upto notesByesSpec)

/-- 'cordellelaw09.NotesApps', WHERE WHAT IT READS IS OF BULK AT MOST 1048576: true; the input reads as it did. -/
def notesAppsUptoRow : OpenClaim := { program := "ytlhkhncdnaibgaa", sum := "be73921b921c36c0a0b47b39506dabcef68eee194e92f964d4389c3c3a0d8355", func := "cordelle/cordellelaw09.NotesApps", spec := "notesApps", inPlace := ["internal/abi.NoEscape", "internal/bytealg.MakeNoZero"], apart := false, narrowed := true }
def NotesAppsUptoSaid : Prop := notesAppsUptoRow.holds Try.pinned (OpenSpec.upto notesAppsSpec)

/-- 'cordellelaw18.ShareScales', WHERE WHAT IT READS IS OF BULK AT MOST 1048576: true; the input reads as it did. -/
def shareScalesUptoRow : OpenClaim := { program := "ytlhkhncdnaibgaa", sum := "be73921b921c36c0a0b47b39506dabcef68eee194e92f964d4389c3c3a0d8355", func := "cordelle/cordellelaw18.ShareScales", spec := "shareScales", inPlace := ["slices.overlaps[cordelle/share.load]"], unfollowed := true, recurses := true, apart := false, narrowed := true }
def ShareScalesUptoSaid : Prop := shareScalesUptoRow.holds Try.pinned (OpenSpec.upto shareScalesSpec)

/-- 'cordellelaw09.NotesNames', WHERE WHAT IT READS IS OF BULK AT MOST 1048576: true; the input reads as it did. -/
def notesNamesUptoRow : OpenClaim := { program := "ytlhkhncdnaibgaa", sum := "be73921b921c36c0a0b47b39506dabcef68eee194e92f964d4389c3c3a0d8355", func := "cordelle/cordellelaw09.NotesNames", spec := "notesNames", inPlace := ["internal/abi.NoEscape", "internal/bytealg.MakeNoZero"], apart := false, narrowed := true }
def NotesNamesUptoSaid : Prop := notesNamesUptoRow.holds Try.pinned (OpenSpec.upto notesNamesSpec)

/-- 'cordellelaw18.ShareFair', WHERE WHAT IT READS IS OF BULK AT MOST 1048576: true; the input reads as it did. -/
def shareFairUptoRow : OpenClaim := { program := "ytlhkhncdnaibgaa", sum := "be73921b921c36c0a0b47b39506dabcef68eee194e92f964d4389c3c3a0d8355", func := "cordelle/cordellelaw18.ShareFair", spec := "shareFair", inPlace := ["slices.overlaps[cordelle/share.load]"], unfollowed := true, recurses := true, apart := false, narrowed := true }
def ShareFairUptoSaid : Prop := shareFairUptoRow.holds Try.pinned (OpenSpec.upto shareFairSpec)

/-- 'cordellelaw09.NotesRead', WHERE WHAT IT READS IS OF BULK AT MOST 1048576: true; the input reads as it did. -/
def notesReadUptoRow : OpenClaim := { program := "ytlhkhncdnaibgaa", sum := "be73921b921c36c0a0b47b39506dabcef68eee194e92f964d4389c3c3a0d8355", func := "cordelle/cordellelaw09.NotesRead", spec := "notesRead", inPlace := ["internal/abi.NoEscape", "internal/bytealg.MakeNoZero"], apart := false, narrowed := true }
def NotesReadUptoSaid : Prop := notesReadUptoRow.holds Try.pinned (OpenSpec.upto notesReadSpec)

/-- 'cordellelaw09.NotesApart', WHERE WHAT IT READS IS OF BULK AT MOST 1048576: true; the input reads as it did. -/
def notesApartUptoRow : OpenClaim := { program := "ytlhkhncdnaibgaa", sum := "be73921b921c36c0a0b47b39506dabcef68eee194e92f964d4389c3c3a0d8355", func := "cordelle/cordellelaw09.NotesApart", spec := "notesApart", inPlace := ["internal/abi.NoEscape", "internal/bytealg.MakeNoZero"], apart := false, narrowed := true }
def NotesApartUptoSaid : Prop := notesApartUptoRow.holds Try.pinned (OpenSpec.upto notesApartSpec)

/-- 'cordellelaw24.BufferSorts', WHERE WHAT IT READS IS OF BULK AT MOST 1048576: true; the input reads as it did. -/
def bufferSortsUptoRow : OpenClaim := { program := "ytlhkhncdnaibgaa", sum := "be73921b921c36c0a0b47b39506dabcef68eee194e92f964d4389c3c3a0d8355", func := "cordelle/cordellelaw24.BufferSorts", spec := "bufferSorts", inPlace := ["slices.overlaps[*cordelle/split.Frame]", "internal/abi.NoEscape"], unfollowed := true, recurses := true, apart := false, narrowed := true }
def BufferSortsUptoSaid : Prop := bufferSortsUptoRow.holds Try.pinned (OpenSpec.upto bufferSortsSpec)

/-- 'cordellelaw18.SharePlays', WHERE WHAT IT READS IS OF BULK AT MOST 1048576: true; the input reads as it did. -/
def sharePlaysUptoRow : OpenClaim := { program := "ytlhkhncdnaibgaa", sum := "be73921b921c36c0a0b47b39506dabcef68eee194e92f964d4389c3c3a0d8355", func := "cordelle/cordellelaw18.SharePlays", spec := "sharePlays", inPlace := ["slices.overlaps[cordelle/share.load]"], unfollowed := true, recurses := true, apart := false, narrowed := true }
def SharePlaysUptoSaid : Prop := sharePlaysUptoRow.holds Try.pinned (OpenSpec.upto sharePlaysSpec)

end Rows
end Go.Proofs.Ytlhkhncdnaibgaa
