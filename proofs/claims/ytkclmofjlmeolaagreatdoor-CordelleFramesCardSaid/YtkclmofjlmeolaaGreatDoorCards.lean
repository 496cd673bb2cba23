/-
  DERIVED. GIVEN WITH THE SEED: THE CARDS: each row of YtkclmofjlmeolaaGreatDoorRows.lean that lists a variable, with what it lists TIED to the program's text (the seventh form; the later family's looks); each row that meets fmt, with fmt's text TOLD by the authors' own Lean function (tested against real Go, not proved from fmt's source: count such statements apart). THE CARD IS WHAT COUNTS. Prove the row's statement (the work); the ties are given (YtkclmofjlmeolaaGreatDoorTie.lean); close each card by the builder's one call (the guide's Derived/Test/ToyasCard.lean, 'card_holds'). Laid BY PROGRAM, IN A SANDBOX (cutbox-door.mjs). By AI agents, Wed Nov 11 2026. No macro, syntax, notation, axiom, sorry.
-/
import Derived.Test.YtkclmofjlmeolaaGreatDoorRows
import GoSem.ClaimSeven
namespace Go.Proofs.YtkclmofjlmeolaaGreatDoor
namespace Rows

/-- THE TIED CARD OF 'cordelletop.CordelleFrames'. -/
def cordelleFramesCard : Claim7 := { stood := { row := cordelleFramesRow, standIns := [], harness := (true, "4106da8f0280beccda230e159e4f35cf1f15ea0d9437ee2db9124365f1fe2d00"), looks := false }, kinds := [], alts := [], laidByText := true, laidKinds := [.data, .pinned], laidTests := true, laidLooks := .later }
def CordelleFramesCardSaid : Prop := Claim7.holds Tryz.pinned (.plain (OpenSpec.ofChange cordelleFramesSpec)) cordelleFramesCard

/-- THE SECOND FORM's CARD OF 'cordelletop.CordelleFrames'. -/
def cordelleFramesUptoCard : Claim7 := { stood := { row := cordelleFramesUptoRow, standIns := [], harness := (true, "4106da8f0280beccda230e159e4f35cf1f15ea0d9437ee2db9124365f1fe2d00"), looks := false }, kinds := [], alts := [], laidByText := true, laidKinds := [.data, .pinned], laidTests := true, laidLooks := .later }
def CordelleFramesUptoCardSaid : Prop := Claim7.holds Tryz.pinned (.plain (OpenSpec.upto cordelleFramesSpec)) cordelleFramesUptoCard
end Rows
end Go.Proofs.YtkclmofjlmeolaaGreatDoor
