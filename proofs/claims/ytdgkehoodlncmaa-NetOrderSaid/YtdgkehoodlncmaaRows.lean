/-
  No cell of these rows narrows 'for every input' (looked for: loops, veiled, ifaces, maps, wideKeys, modest, calm, conditions, laid).
  DERIVED. THE GIVEN ROWS OF THIS SEAT. 11 by the template 'for every input the law returns true; each argument reads behind the call as it read before'; 0 by the template 'total and deterministic' (their statements: YtdgkehoodlncmaaTotals.lean).
  GIVEN WITH THE SEED: the statements are not yours to turn. If you find one false, say at which input.
  Laid BY PROGRAM, IN A SANDBOX (cutbox-rows.mjs): the forced cells as the released guide's own fill.sh prints them over the translation d85aa395ab694962… (all of the seat's roots in one cut). By AI agents, Wed Nov 11 2026. No macro, syntax, notation, axiom, sorry.
-/
import Derived.Test.YtdgkehoodlncmaaChecked
import GoSem.Claim
import GoSem.ClaimJoined
import GoSem.ClaimMapViews
import Derived.JoinedTies
import Derived.KernelRfl
namespace Go.Proofs.Ytdgkehoodlncmaa
/- THE CELL 'sum', in the pinned program and in every row, IS THE sha256 OF THE DUMP (.gsa) THAT YtdgkehoodlncmaaProg.lean LOADS. Nothing in Lean hashes anything: it is a label: what it is worth is what the hold of that sum in a sandbox is worth. -/
noncomputable def Try.pinned : Pinned := { name := "ytdgkehoodlncmaa", sum := "d85aa395ab6949620bf644c8ad0fe407a1338eef195e61332a6758722164619a", checked := Try.checked }
namespace Rows
def none {H : Type} : Left H := { results := [], args := [] }

/-- 'cordellelaw16.TableOrder': WHATEVER THE INPUT: true; the input reads as it did. -/
def tableOrderSpec : ChangeSpec := { name := "tableOrder", fn := fun _ => fun
  | [d] => { results := [.lit (.bool true)], args := [d] }
  | _ => none }
def tableOrderRow : OpenClaim := { program := "ytdgkehoodlncmaa", sum := "d85aa395ab6949620bf644c8ad0fe407a1338eef195e61332a6758722164619a", func := "cordelle/cordellelaw16.TableOrder", spec := "tableOrder", inPlace := ["slices.overlaps[cordelle/table.Entry]"], unfollowed := true, recurses := true, plainKeys := false, apart := false }
def TableOrderSaid : Prop := tableOrderRow.holds Try.pinned (OpenSpec.ofChange tableOrderSpec)

/-- ITS FALSE NEIGHBOUR: 'it returns false'. Refute it at one input. -/
def tableOrderWrong : ChangeSpec := { name := "tableOrder", fn := fun _ => fun
  | [d] => { results := [.lit (.bool false)], args := [d] }
  | _ => none }
def TableOrderWrongFalsely : Prop := tableOrderRow.holds Try.pinned (OpenSpec.ofChange tableOrderWrong)

/-- 'cordellelaw18.ShareScales': WHATEVER THE INPUT: true; the input reads as it did. -/
def shareScalesSpec : ChangeSpec := { name := "shareScales", fn := fun _ => fun
  | [d1, d2, d3] => { results := [.lit (.bool true)], args := [d1, d2, d3] }
  | _ => none }
def shareScalesRow : OpenClaim := { program := "ytdgkehoodlncmaa", sum := "d85aa395ab6949620bf644c8ad0fe407a1338eef195e61332a6758722164619a", func := "cordelle/cordellelaw18.ShareScales", spec := "shareScales", inPlace := ["slices.overlaps[cordelle/share.load]"], unfollowed := true, recurses := true, plainKeys := false, apart := false }
def ShareScalesSaid : Prop := shareScalesRow.holds Try.pinned (OpenSpec.ofChange shareScalesSpec)

/-- ITS FALSE NEIGHBOUR: 'it returns false'. Refute it at one input. -/
def shareScalesWrong : ChangeSpec := { name := "shareScales", fn := fun _ => fun
  | [d1, d2, d3] => { results := [.lit (.bool false)], args := [d1, d2, d3] }
  | _ => none }
def ShareScalesWrongFalsely : Prop := shareScalesRow.holds Try.pinned (OpenSpec.ofChange shareScalesWrong)

/-- 'cordellelaw18.ShareFair': WHATEVER THE INPUT: true; the input reads as it did. -/
def shareFairSpec : ChangeSpec := { name := "shareFair", fn := fun _ => fun
  | [d1, d2] => { results := [.lit (.bool true)], args := [d1, d2] }
  | _ => none }
def shareFairRow : OpenClaim := { program := "ytdgkehoodlncmaa", sum := "d85aa395ab6949620bf644c8ad0fe407a1338eef195e61332a6758722164619a", func := "cordelle/cordellelaw18.ShareFair", spec := "shareFair", inPlace := ["slices.overlaps[cordelle/share.load]"], unfollowed := true, recurses := true, plainKeys := false, apart := false }
def ShareFairSaid : Prop := shareFairRow.holds Try.pinned (OpenSpec.ofChange shareFairSpec)

/-- ITS FALSE NEIGHBOUR: 'it returns false'. Refute it at one input. -/
def shareFairWrong : ChangeSpec := { name := "shareFair", fn := fun _ => fun
  | [d1, d2] => { results := [.lit (.bool false)], args := [d1, d2] }
  | _ => none }
def ShareFairWrongFalsely : Prop := shareFairRow.holds Try.pinned (OpenSpec.ofChange shareFairWrong)

/-- 'cordellelaw18.SharePlays': WHATEVER THE INPUT: true; the input reads as it did. -/
def sharePlaysSpec : ChangeSpec := { name := "sharePlays", fn := fun _ => fun
  | [d1, d2] => { results := [.lit (.bool true)], args := [d1, d2] }
  | _ => none }
def sharePlaysRow : OpenClaim := { program := "ytdgkehoodlncmaa", sum := "d85aa395ab6949620bf644c8ad0fe407a1338eef195e61332a6758722164619a", func := "cordelle/cordellelaw18.SharePlays", spec := "sharePlays", inPlace := ["slices.overlaps[cordelle/share.load]"], unfollowed := true, recurses := true, plainKeys := false, apart := false }
def SharePlaysSaid : Prop := sharePlaysRow.holds Try.pinned (OpenSpec.ofChange sharePlaysSpec)

/-- ITS FALSE NEIGHBOUR: 'it returns false'. Refute it at one input. -/
def sharePlaysWrong : ChangeSpec := { name := "sharePlays", fn := fun _ => fun
  | [d1, d2] => { results := [.lit (.bool false)], args := [d1, d2] }
  | _ => none }
def SharePlaysWrongFalsely : Prop := sharePlaysRow.holds Try.pinned (OpenSpec.ofChange sharePlaysWrong)

/-- 'cordellelaw16.TableMerges': WHATEVER THE INPUT: true; the input reads as it did. -/
def tableMergesSpec : ChangeSpec := { name := "tableMerges", fn := fun _ => fun
  | [d1, d2] => { results := [.lit (.bool true)], args := [d1, d2] }
  | _ => none }
def tableMergesRow : OpenClaim := { program := "ytdgkehoodlncmaa", sum := "d85aa395ab6949620bf644c8ad0fe407a1338eef195e61332a6758722164619a", func := "cordelle/cordellelaw16.TableMerges", spec := "tableMerges", inPlace := ["slices.overlaps[cordelle/table.Entry]"], unfollowed := true, recurses := true, plainKeys := false, apart := false }
def TableMergesSaid : Prop := tableMergesRow.holds Try.pinned (OpenSpec.ofChange tableMergesSpec)

/-- ITS FALSE NEIGHBOUR: 'it returns false'. Refute it at one input. -/
def tableMergesWrong : ChangeSpec := { name := "tableMerges", fn := fun _ => fun
  | [d1, d2] => { results := [.lit (.bool false)], args := [d1, d2] }
  | _ => none }
def TableMergesWrongFalsely : Prop := tableMergesRow.holds Try.pinned (OpenSpec.ofChange tableMergesWrong)

/-- 'cordellelaw15.GaugeEven': WHATEVER THE INPUT: true; the input reads as it did. -/
def gaugeEvenSpec : ChangeSpec := { name := "gaugeEven", fn := fun _ => fun
  | [d1, d2] => { results := [.lit (.bool true)], args := [d1, d2] }
  | _ => none }
def gaugeEvenRow : OpenClaim := { program := "ytdgkehoodlncmaa", sum := "d85aa395ab6949620bf644c8ad0fe407a1338eef195e61332a6758722164619a", func := "cordelle/cordellelaw15.GaugeEven", spec := "gaugeEven", unfollowed := true, recurses := true, plainKeys := false, apart := false }
def GaugeEvenSaid : Prop := gaugeEvenRow.holds Try.pinned (OpenSpec.ofChange gaugeEvenSpec)

/-- ITS FALSE NEIGHBOUR: 'it returns false'. Refute it at one input. -/
def gaugeEvenWrong : ChangeSpec := { name := "gaugeEven", fn := fun _ => fun
  | [d1, d2] => { results := [.lit (.bool false)], args := [d1, d2] }
  | _ => none }
def GaugeEvenWrongFalsely : Prop := gaugeEvenRow.holds Try.pinned (OpenSpec.ofChange gaugeEvenWrong)

/-- 'cordellelaw15.GaugeSteady': WHATEVER THE INPUT: true; the input reads as it did. -/
def gaugeSteadySpec : ChangeSpec := { name := "gaugeSteady", fn := fun _ => fun
  | [d1, d2] => { results := [.lit (.bool true)], args := [d1, d2] }
  | _ => none }
def gaugeSteadyRow : OpenClaim := { program := "ytdgkehoodlncmaa", sum := "d85aa395ab6949620bf644c8ad0fe407a1338eef195e61332a6758722164619a", func := "cordelle/cordellelaw15.GaugeSteady", spec := "gaugeSteady", unfollowed := true, recurses := true, plainKeys := false, apart := false }
def GaugeSteadySaid : Prop := gaugeSteadyRow.holds Try.pinned (OpenSpec.ofChange gaugeSteadySpec)

/-- ITS FALSE NEIGHBOUR: 'it returns false'. Refute it at one input. -/
def gaugeSteadyWrong : ChangeSpec := { name := "gaugeSteady", fn := fun _ => fun
  | [d1, d2] => { results := [.lit (.bool false)], args := [d1, d2] }
  | _ => none }
def GaugeSteadyWrongFalsely : Prop := gaugeSteadyRow.holds Try.pinned (OpenSpec.ofChange gaugeSteadyWrong)

/-- 'cordellelaw15.GaugeFalls': WHATEVER THE INPUT: true; the input reads as it did. -/
def gaugeFallsSpec : ChangeSpec := { name := "gaugeFalls", fn := fun _ => fun
  | [d1, d2] => { results := [.lit (.bool true)], args := [d1, d2] }
  | _ => none }
def gaugeFallsRow : OpenClaim := { program := "ytdgkehoodlncmaa", sum := "d85aa395ab6949620bf644c8ad0fe407a1338eef195e61332a6758722164619a", func := "cordelle/cordellelaw15.GaugeFalls", spec := "gaugeFalls", unfollowed := true, recurses := true, plainKeys := false, apart := false }
def GaugeFallsSaid : Prop := gaugeFallsRow.holds Try.pinned (OpenSpec.ofChange gaugeFallsSpec)

/-- ITS FALSE NEIGHBOUR: 'it returns false'. Refute it at one input. -/
def gaugeFallsWrong : ChangeSpec := { name := "gaugeFalls", fn := fun _ => fun
  | [d1, d2] => { results := [.lit (.bool false)], args := [d1, d2] }
  | _ => none }
def GaugeFallsWrongFalsely : Prop := gaugeFallsRow.holds Try.pinned (OpenSpec.ofChange gaugeFallsWrong)

/-- 'cordellelaw28.NetBag': WHATEVER THE INPUT: true; the input reads as it did. -/
def netBagSpec : ChangeSpec := { name := "netBag", fn := fun _ => fun
  | [d1, d2] => { results := [.lit (.bool true)], args := [d1, d2] }
  | _ => none }
def netBagRow : OpenClaim := { program := "ytdgkehoodlncmaa", sum := "d85aa395ab6949620bf644c8ad0fe407a1338eef195e61332a6758722164619a", func := "cordelle/cordellelaw28.NetBag", spec := "netBag", plainKeys := false, apart := false }
def NetBagSaid : Prop := netBagRow.holds Try.pinned (OpenSpec.ofChange netBagSpec)

/-- ITS FALSE NEIGHBOUR: 'it returns false'. Refute it at one input. -/
def netBagWrong : ChangeSpec := { name := "netBag", fn := fun _ => fun
  | [d1, d2] => { results := [.lit (.bool false)], args := [d1, d2] }
  | _ => none }
def NetBagWrongFalsely : Prop := netBagRow.holds Try.pinned (OpenSpec.ofChange netBagWrong)

/-- 'cordellelaw28.NetOrder': WHATEVER THE INPUT: true; the input reads as it did. -/
def netOrderSpec : ChangeSpec := { name := "netOrder", fn := fun _ => fun
  | [d1, d2, d3] => { results := [.lit (.bool true)], args := [d1, d2, d3] }
  | _ => none }
def netOrderRow : OpenClaim := { program := "ytdgkehoodlncmaa", sum := "d85aa395ab6949620bf644c8ad0fe407a1338eef195e61332a6758722164619a", func := "cordelle/cordellelaw28.NetOrder", spec := "netOrder", unfollowed := true, recurses := true, plainKeys := false, apart := false }
def NetOrderSaid : Prop := netOrderRow.holds Try.pinned (OpenSpec.ofChange netOrderSpec)

/-- ITS FALSE NEIGHBOUR: 'it returns false'. Refute it at one input. -/
def netOrderWrong : ChangeSpec := { name := "netOrder", fn := fun _ => fun
  | [d1, d2, d3] => { results := [.lit (.bool false)], args := [d1, d2, d3] }
  | _ => none }
def NetOrderWrongFalsely : Prop := netOrderRow.holds Try.pinned (OpenSpec.ofChange netOrderWrong)

/-- 'cordellelaw28.NetPlays': WHATEVER THE INPUT: true; the input reads as it did. -/
def netPlaysSpec : ChangeSpec := { name := "netPlays", fn := fun _ => fun
  | [d] => { results := [.lit (.bool true)], args := [d] }
  | _ => none }
def netPlaysRow : OpenClaim := { program := "ytdgkehoodlncmaa", sum := "d85aa395ab6949620bf644c8ad0fe407a1338eef195e61332a6758722164619a", func := "cordelle/cordellelaw28.NetPlays", spec := "netPlays", unfollowed := true, recurses := true, plainKeys := false, apart := false }
def NetPlaysSaid : Prop := netPlaysRow.holds Try.pinned (OpenSpec.ofChange netPlaysSpec)

/-- ITS FALSE NEIGHBOUR: 'it returns false'. Refute it at one input. -/
def netPlaysWrong : ChangeSpec := { name := "netPlays", fn := fun _ => fun
  | [d] => { results := [.lit (.bool false)], args := [d] }
  | _ => none }
def NetPlaysWrongFalsely : Prop := netPlaysRow.holds Try.pinned (OpenSpec.ofChange netPlaysWrong)

/- THE SECOND FORM. 'bulk': how many values and letters a reading holds, each counted each time it is reached (what is shared counts as often as it is met; a slice's spare places count too). A statement '..UptoSaid' is the law's where the arguments, and the package variables that the reading takes, are together of bulk at most 1048576: NARROWER than '..Said'. Prove '..Said' where nothing that the law and all that it calls make is longer than what came in: it says more and counts as full. Else prove '..UptoSaid'. A law counts once. -/
mutual
def uptoBulk {H : Type} : DataW H → Nat
  | .lit (.string bytes) => bytes.length + 1
  | .lit _ => 1
  | .nil => 1
  | .ptr d => uptoBulk d + 1
  | .slice elems spare => uptoBulkAll elems + uptoBulkAll spare + 1
  | .agg parts => uptoBulkAll parts + 1
  | .iface _ d => uptoBulk d + 1
  | .map entries => uptoBulkEntries entries + 1
  | .held _ => 1
def uptoBulkAll {H : Type} : List (DataW H) → Nat
  | [] => 0
  | d :: r => uptoBulk d + uptoBulkAll r
def uptoBulkEntries {H : Type} : List (Lit × DataW H) → Nat
  | [] => 0
  | x :: r => uptoBulkEntry x + uptoBulkEntries r
def uptoBulkEntry {H : Type} : Lit × DataW H → Nat
  | (.string bytes, d) => bytes.length + uptoBulk d + 1
  | (_, d) => uptoBulk d + 1
 end
def uptoSmall : (H : Type) → List (DataW H) → Bool := fun _ ds => decide (uptoBulkAll ds ≤ 1048576)
def OpenSpec.upto (s : _root_.Go.ChangeSpec) : _root_.Go.OpenSpec := { _root_.Go.OpenSpec.ofChange s with cond := some uptoSmall }

/-- 'cordellelaw16.TableOrder', WHERE WHAT IT READS IS OF BULK AT MOST 1048576: true; the input reads as it did. -/
def tableOrderUptoRow : OpenClaim := { program := "ytdgkehoodlncmaa", sum := "d85aa395ab6949620bf644c8ad0fe407a1338eef195e61332a6758722164619a", func := "cordelle/cordellelaw16.TableOrder", spec := "tableOrder", inPlace := ["slices.overlaps[cordelle/table.Entry]"], unfollowed := true, recurses := true, plainKeys := false, apart := false, narrowed := true }
def TableOrderUptoSaid : Prop := tableOrderUptoRow.holds Try.pinned (OpenSpec.upto tableOrderSpec)

/-- 'cordellelaw18.ShareScales', WHERE WHAT IT READS IS OF BULK AT MOST 1048576: true; the input reads as it did. -/
def shareScalesUptoRow : OpenClaim := { program := "ytdgkehoodlncmaa", sum := "d85aa395ab6949620bf644c8ad0fe407a1338eef195e61332a6758722164619a", func := "cordelle/cordellelaw18.ShareScales", spec := "shareScales", inPlace := ["slices.overlaps[cordelle/share.load]"], unfollowed := true, recurses := true, plainKeys := false, apart := false, narrowed := true }
def ShareScalesUptoSaid : Prop := shareScalesUptoRow.holds Try.pinned (OpenSpec.upto shareScalesSpec)

/-- 'cordellelaw18.ShareFair', WHERE WHAT IT READS IS OF BULK AT MOST 1048576: true; the input reads as it did. -/
def shareFairUptoRow : OpenClaim := { program := "ytdgkehoodlncmaa", sum := "d85aa395ab6949620bf644c8ad0fe407a1338eef195e61332a6758722164619a", func := "cordelle/cordellelaw18.ShareFair", spec := "shareFair", inPlace := ["slices.overlaps[cordelle/share.load]"], unfollowed := true, recurses := true, plainKeys := false, apart := false, narrowed := true }
def ShareFairUptoSaid : Prop := shareFairUptoRow.holds Try.pinned (OpenSpec.upto shareFairSpec)

/-- 'cordellelaw18.SharePlays', WHERE WHAT IT READS IS OF BULK AT MOST 1048576: true; the input reads as it did. -/
def sharePlaysUptoRow : OpenClaim := { program := "ytdgkehoodlncmaa", sum := "d85aa395ab6949620bf644c8ad0fe407a1338eef195e61332a6758722164619a", func := "cordelle/cordellelaw18.SharePlays", spec := "sharePlays", inPlace := ["slices.overlaps[cordelle/share.load]"], unfollowed := true, recurses := true, plainKeys := false, apart := false, narrowed := true }
def SharePlaysUptoSaid : Prop := sharePlaysUptoRow.holds Try.pinned (OpenSpec.upto sharePlaysSpec)

/-- 'cordellelaw16.TableMerges', WHERE WHAT IT READS IS OF BULK AT MOST 1048576: true; the input reads as it did. -/
def tableMergesUptoRow : OpenClaim := { program := "ytdgkehoodlncmaa", sum := "d85aa395ab6949620bf644c8ad0fe407a1338eef195e61332a6758722164619a", func := "cordelle/cordellelaw16.TableMerges", spec := "tableMerges", inPlace := ["slices.overlaps[cordelle/table.Entry]"], unfollowed := true, recurses := true, plainKeys := false, apart := false, narrowed := true }
def TableMergesUptoSaid : Prop := tableMergesUptoRow.holds Try.pinned (OpenSpec.upto tableMergesSpec)

/-- 'cordellelaw15.GaugeEven', WHERE WHAT IT READS IS OF BULK AT MOST 1048576: true; the input reads as it did. -/
def gaugeEvenUptoRow : OpenClaim := { program := "ytdgkehoodlncmaa", sum := "d85aa395ab6949620bf644c8ad0fe407a1338eef195e61332a6758722164619a", func := "cordelle/cordellelaw15.GaugeEven", spec := "gaugeEven", unfollowed := true, recurses := true, plainKeys := false, apart := false, narrowed := true }
def GaugeEvenUptoSaid : Prop := gaugeEvenUptoRow.holds Try.pinned (OpenSpec.upto gaugeEvenSpec)

/-- 'cordellelaw15.GaugeSteady', WHERE WHAT IT READS IS OF BULK AT MOST 1048576: true; the input reads as it did. -/
def gaugeSteadyUptoRow : OpenClaim := { program := "ytdgkehoodlncmaa", sum := "d85aa395ab6949620bf644c8ad0fe407a1338eef195e61332a6758722164619a", func := "cordelle/cordellelaw15.GaugeSteady", spec := "gaugeSteady", unfollowed := true, recurses := true, plainKeys := false, apart := false, narrowed := true }
def GaugeSteadyUptoSaid : Prop := gaugeSteadyUptoRow.holds Try.pinned (OpenSpec.upto gaugeSteadySpec)

/-- 'cordellelaw15.GaugeFalls', WHERE WHAT IT READS IS OF BULK AT MOST 1048576: true; the input reads as it did. -/
def gaugeFallsUptoRow : OpenClaim := { program := "ytdgkehoodlncmaa", sum := "d85aa395ab6949620bf644c8ad0fe407a1338eef195e61332a6758722164619a", func := "cordelle/cordellelaw15.GaugeFalls", spec := "gaugeFalls", unfollowed := true, recurses := true, plainKeys := false, apart := false, narrowed := true }
def GaugeFallsUptoSaid : Prop := gaugeFallsUptoRow.holds Try.pinned (OpenSpec.upto gaugeFallsSpec)

/-- 'cordellelaw28.NetBag', WHERE WHAT IT READS IS OF BULK AT MOST 1048576: true; the input reads as it did. -/
def netBagUptoRow : OpenClaim := { program := "ytdgkehoodlncmaa", sum := "d85aa395ab6949620bf644c8ad0fe407a1338eef195e61332a6758722164619a", func := "cordelle/cordellelaw28.NetBag", spec := "netBag", plainKeys := false, apart := false, narrowed := true }
def NetBagUptoSaid : Prop := netBagUptoRow.holds Try.pinned (OpenSpec.upto netBagSpec)

/-- 'cordellelaw28.NetOrder', WHERE WHAT IT READS IS OF BULK AT MOST 1048576: true; the input reads as it did. -/
def netOrderUptoRow : OpenClaim := { program := "ytdgkehoodlncmaa", sum := "d85aa395ab6949620bf644c8ad0fe407a1338eef195e61332a6758722164619a", func := "cordelle/cordellelaw28.NetOrder", spec := "netOrder", unfollowed := true, recurses := true, plainKeys := false, apart := false, narrowed := true }
def NetOrderUptoSaid : Prop := netOrderUptoRow.holds Try.pinned (OpenSpec.upto netOrderSpec)

/-- 'cordellelaw28.NetPlays', WHERE WHAT IT READS IS OF BULK AT MOST 1048576: true; the input reads as it did. -/
def netPlaysUptoRow : OpenClaim := { program := "ytdgkehoodlncmaa", sum := "d85aa395ab6949620bf644c8ad0fe407a1338eef195e61332a6758722164619a", func := "cordelle/cordellelaw28.NetPlays", spec := "netPlays", unfollowed := true, recurses := true, plainKeys := false, apart := false, narrowed := true }
def NetPlaysUptoSaid : Prop := netPlaysUptoRow.holds Try.pinned (OpenSpec.upto netPlaysSpec)

end Rows
end Go.Proofs.Ytdgkehoodlncmaa
