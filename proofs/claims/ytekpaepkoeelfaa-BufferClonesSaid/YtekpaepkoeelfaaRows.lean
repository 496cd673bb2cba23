/-
  No cell of these rows narrows 'for every input' (looked for: loops, veiled, ifaces, maps, wideKeys, modest, calm, conditions, laid).
  DERIVED. THE GIVEN ROWS OF THIS SEAT. 4 by the template 'for every input the law returns true; each argument reads behind the call as it read before'; 0 by the template 'total and deterministic' (their statements: YtekpaepkoeelfaaTotals.lean).
  GIVEN WITH THE SEED: the statements are not yours to turn. If you find one false, say at which input.
  Laid BY PROGRAM, IN A SANDBOX (cutbox-rows.mjs): the forced cells as the released guide's own fill.sh prints them over the translation 9061e5f6f57d86ab… (all of the seat's roots in one cut). By AI agents, Wed Nov 11 2026. No macro, syntax, notation, axiom, sorry.
-/
import Derived.Test.YtekpaepkoeelfaaChecked
import GoSem.Claim
import GoSem.ClaimJoined
import GoSem.ClaimMapViews
import Derived.JoinedTies
import Derived.KernelRfl
namespace Go.Proofs.Ytekpaepkoeelfaa
/- THE CELL 'sum', in the pinned program and in every row, IS THE sha256 OF THE DUMP (.gsa) THAT YtekpaepkoeelfaaProg.lean LOADS. Nothing in Lean hashes anything: it is a label: what it is worth is what the hold of that sum in a sandbox is worth. -/
noncomputable def Try.pinned : Pinned := { name := "ytekpaepkoeelfaa", sum := "9061e5f6f57d86ab8175c0c10e2055e25235d2ab162dc6a8b8970a27925406c1", checked := Try.checked }
namespace Rows
def none {H : Type} : Left H := { results := [], args := [] }

/-- 'cordellelaw24.BufferSorts': WHATEVER THE INPUT: true; the input reads as it did. -/
def bufferSortsSpec : ChangeSpec := { name := "bufferSorts", fn := fun _ => fun
  | [d1, d2] => { results := [.lit (.bool true)], args := [d1, d2] }
  | _ => none }
def bufferSortsRow : OpenClaim := { program := "ytekpaepkoeelfaa", sum := "9061e5f6f57d86ab8175c0c10e2055e25235d2ab162dc6a8b8970a27925406c1", func := "cordelle/cordellelaw24.BufferSorts", spec := "bufferSorts", inPlace := ["slices.overlaps[*cordelle/split.Frame]", "internal/abi.NoEscape"], unfollowed := true, recurses := true, apart := false }
def BufferSortsSaid : Prop := bufferSortsRow.holds Try.pinned (OpenSpec.ofChange bufferSortsSpec)

/-- ITS FALSE NEIGHBOUR: 'it returns false'. Refute it at one input. -/
def bufferSortsWrong : ChangeSpec := { name := "bufferSorts", fn := fun _ => fun
  | [d1, d2] => { results := [.lit (.bool false)], args := [d1, d2] }
  | _ => none }
def BufferSortsWrongFalsely : Prop := bufferSortsRow.holds Try.pinned (OpenSpec.ofChange bufferSortsWrong)

/-- 'cordellelaw24.BufferRises': WHATEVER THE INPUT: true; the input reads as it did. -/
def bufferRisesSpec : ChangeSpec := { name := "bufferRises", fn := fun _ => fun
  | [d1, d2] => { results := [.lit (.bool true)], args := [d1, d2] }
  | _ => none }
def bufferRisesRow : OpenClaim := { program := "ytekpaepkoeelfaa", sum := "9061e5f6f57d86ab8175c0c10e2055e25235d2ab162dc6a8b8970a27925406c1", func := "cordelle/cordellelaw24.BufferRises", spec := "bufferRises", inPlace := ["slices.overlaps[*cordelle/split.Frame]", "internal/abi.NoEscape"], unfollowed := true, recurses := true, apart := false }
def BufferRisesSaid : Prop := bufferRisesRow.holds Try.pinned (OpenSpec.ofChange bufferRisesSpec)

/-- ITS FALSE NEIGHBOUR: 'it returns false'. Refute it at one input. -/
def bufferRisesWrong : ChangeSpec := { name := "bufferRises", fn := fun _ => fun
  | [d1, d2] => { results := [.lit (.bool false)], args := [d1, d2] }
  | _ => none }
def BufferRisesWrongFalsely : Prop := bufferRisesRow.holds Try.pinned (OpenSpec.ofChange bufferRisesWrong)

/-- 'cordellelaw24.BufferPlays': WHATEVER THE INPUT: true; the input reads as it did. -/
def bufferPlaysSpec : ChangeSpec := { name := "bufferPlays", fn := fun _ => fun
  | [d1, d2] => { results := [.lit (.bool true)], args := [d1, d2] }
  | _ => none }
def bufferPlaysRow : OpenClaim := { program := "ytekpaepkoeelfaa", sum := "9061e5f6f57d86ab8175c0c10e2055e25235d2ab162dc6a8b8970a27925406c1", func := "cordelle/cordellelaw24.BufferPlays", spec := "bufferPlays", inPlace := ["slices.overlaps[*cordelle/split.Frame]", "internal/abi.NoEscape"], unfollowed := true, recurses := true, apart := false }
def BufferPlaysSaid : Prop := bufferPlaysRow.holds Try.pinned (OpenSpec.ofChange bufferPlaysSpec)

/-- ITS FALSE NEIGHBOUR: 'it returns false'. Refute it at one input. -/
def bufferPlaysWrong : ChangeSpec := { name := "bufferPlays", fn := fun _ => fun
  | [d1, d2] => { results := [.lit (.bool false)], args := [d1, d2] }
  | _ => none }
def BufferPlaysWrongFalsely : Prop := bufferPlaysRow.holds Try.pinned (OpenSpec.ofChange bufferPlaysWrong)

/-- 'cordellelaw24.BufferClones': WHATEVER THE INPUT: true; the input reads as it did. -/
def bufferClonesSpec : ChangeSpec := { name := "bufferClones", fn := fun _ => fun
  | [d1, d2] => { results := [.lit (.bool true)], args := [d1, d2] }
  | _ => none }
def bufferClonesRow : OpenClaim := { program := "ytekpaepkoeelfaa", sum := "9061e5f6f57d86ab8175c0c10e2055e25235d2ab162dc6a8b8970a27925406c1", func := "cordelle/cordellelaw24.BufferClones", spec := "bufferClones", inPlace := ["slices.overlaps[*cordelle/split.Frame]", "internal/abi.NoEscape", "maps.clone"], unfollowed := true, recurses := true, apart := false }
def BufferClonesSaid : Prop := bufferClonesRow.holds Try.pinned (OpenSpec.ofChange bufferClonesSpec)

/-- ITS FALSE NEIGHBOUR: 'it returns false'. Refute it at one input. -/
def bufferClonesWrong : ChangeSpec := { name := "bufferClones", fn := fun _ => fun
  | [d1, d2] => { results := [.lit (.bool false)], args := [d1, d2] }
  | _ => none }
def BufferClonesWrongFalsely : Prop := bufferClonesRow.holds Try.pinned (OpenSpec.ofChange bufferClonesWrong)

/- THE SECOND FORM. 'bulk': how many values and letters a reading holds, each counted each time it is reached (what is shared counts as often as it is met; a slice's spare places count too). A statement '..UptoSaid' is the law's where the arguments, and the package variables that the reading takes, are together of bulk at most 1048576: NARROWER than '..Said'. Prove '..Said' where nothing that the law and all that it calls make is longer than what came in: it says more and counts as full. Else prove '..UptoSaid'. A law counts once. -/
mutual
def uptoBulk {H : Type} : DataW H → Nat
  | .lit (.string bytes) => bytes.length + 1
  | .lit _ => 1
  | .nil => 1
  | .ptr d => uptoBulk d + 1
  | .slice elems spare => uptoBulkAll elems + uptoBulkAll spare + 1
  | .agg parts => uptoBulkAll parts + 1
  | .iface _ d => uptoBulk d + 1
  | .map entries => uptoBulkEntries entries + 1
  | .held _ => 1
def uptoBulkAll {H : Type} : List (DataW H) → Nat
  | [] => 0
  | d :: r => uptoBulk d + uptoBulkAll r
def uptoBulkEntries {H : Type} : List (Lit × DataW H) → Nat
  | [] => 0
  | x :: r => uptoBulkEntry x + uptoBulkEntries r
def uptoBulkEntry {H : Type} : Lit × DataW H → Nat
  | (.string bytes, d) => bytes.length + uptoBulk d + 1
  | (_, d) => uptoBulk d + 1
 end
def uptoSmall : (H : Type) → List (DataW H) → Bool := fun _ ds => decide (uptoBulkAll ds ≤ 1048576)
def OpenSpec.upto (s : _root_.Go.ChangeSpec) : _root_.Go.OpenSpec := { _root_.Go.OpenSpec.ofChange s with cond := some uptoSmall }

/-- 'cordellelaw24.BufferSorts', WHERE WHAT IT READS IS OF BULK AT MOST 1048576: true; the input reads as it did. -/
def bufferSortsUptoRow : OpenClaim := { program := "ytekpaepkoeelfaa", sum := "9061e5f6f57d86ab8175c0c10e2055e25235d2ab162dc6a8b8970a27925406c1", func := "cordelle/cordellelaw24.BufferSorts", spec := "bufferSorts", inPlace := ["slices.overlaps[*cordelle/split.Frame]", "internal/abi.NoEscape"], unfollowed := true, recurses := true, apart := false, narrowed := true }
def BufferSortsUptoSaid : Prop := bufferSortsUptoRow.holds Try.pinned (OpenSpec.upto bufferSortsSpec)

/-- 'cordellelaw24.BufferRises', WHERE WHAT IT READS IS OF BULK AT MOST 1048576: true; the input reads as it did. -/
def bufferRisesUptoRow : OpenClaim := { program := "ytekpaepkoeelfaa", sum := "9061e5f6f57d86ab8175c0c10e2055e25235d2ab162dc6a8b8970a27925406c1", func := "cordelle/cordellelaw24.BufferRises", spec := "bufferRises", inPlace := ["slices.overlaps[*cordelle/split.Frame]", "internal/abi.NoEscape"], unfollowed := true, recurses := true, apart := false, narrowed := true }
def BufferRisesUptoSaid : Prop := bufferRisesUptoRow.holds Try.pinned (OpenSpec.upto bufferRisesSpec)

/-- 'cordellelaw24.BufferPlays', WHERE WHAT IT READS IS OF BULK AT MOST 1048576: true; the input reads as it did. -/
def bufferPlaysUptoRow : OpenClaim := { program := "ytekpaepkoeelfaa", sum := "9061e5f6f57d86ab8175c0c10e2055e25235d2ab162dc6a8b8970a27925406c1", func := "cordelle/cordellelaw24.BufferPlays", spec := "bufferPlays", inPlace := ["slices.overlaps[*cordelle/split.Frame]", "internal/abi.NoEscape"], unfollowed := true, recurses := true, apart := false, narrowed := true }
def BufferPlaysUptoSaid : Prop := bufferPlaysUptoRow.holds Try.pinned (OpenSpec.upto bufferPlaysSpec)

/-- 'cordellelaw24.BufferClones', WHERE WHAT IT READS IS OF BULK AT MOST 1048576: true; the input reads as it did. -/
def bufferClonesUptoRow : OpenClaim := { program := "ytekpaepkoeelfaa", sum := "9061e5f6f57d86ab8175c0c10e2055e25235d2ab162dc6a8b8970a27925406c1", func := "cordelle/cordellelaw24.BufferClones", spec := "bufferClones", inPlace := ["slices.overlaps[*cordelle/split.Frame]", "internal/abi.NoEscape", "maps.clone"], unfollowed := true, recurses := true, apart := false, narrowed := true }
def BufferClonesUptoSaid : Prop := bufferClonesUptoRow.holds Try.pinned (OpenSpec.upto bufferClonesSpec)

end Rows
end Go.Proofs.Ytekpaepkoeelfaa
