/-
  DERIVED. GIVEN WITH THE SEED: THE CARDS: each row of YtojcjbaimdjhoaaGreatDoorRows.lean that lists a variable, with what it lists TIED to the program's text (the seventh form; the later family's looks); each row that meets fmt, with fmt's text TOLD by the authors' own Lean function (tested against real Go, not proved from fmt's source: count such statements apart). THE CARD IS WHAT COUNTS. Prove the row's statement (the work); the ties are given (YtojcjbaimdjhoaaGreatDoorTie.lean); close each card by the builder's one call (the guide's Derived/Test/ToyasCard.lean, 'card_holds'). Laid BY PROGRAM, IN A SANDBOX (cutbox-door.mjs). By AI agents, Wed Nov 11 2026. No macro, syntax, notation, axiom, sorry.
-/
import Derived.Test.YtojcjbaimdjhoaaGreatDoorRows
import GoSem.ClaimSeven
namespace Go.Proofs.YtojcjbaimdjhoaaGreatDoor
namespace Rows

/-- THE TIED CARD OF 'cordellelaw06.MediaParses'. -/
def mediaParsesCard : Claim7 := { stood := { row := mediaParsesRow, standIns := [], harness := (true, "c2873cbbcc3fa7fedb6722da386f54ebb20ce3933026aad17f30055bb551c10c"), looks := false }, kinds := [], alts := [], laidByText := true, laidKinds := [.data, .pinned], laidTests := true, laidLooks := .later }
def MediaParsesCardSaid : Prop := Claim7.holds Tryz.pinned (.plain (OpenSpec.ofChange mediaParsesSpec)) mediaParsesCard

/-- THE SECOND FORM's CARD OF 'cordellelaw06.MediaParses'. -/
def mediaParsesUptoCard : Claim7 := { stood := { row := mediaParsesUptoRow, standIns := [], harness := (true, "c2873cbbcc3fa7fedb6722da386f54ebb20ce3933026aad17f30055bb551c10c"), looks := false }, kinds := [], alts := [], laidByText := true, laidKinds := [.data, .pinned], laidTests := true, laidLooks := .later }
def MediaParsesUptoCardSaid : Prop := Claim7.holds Tryz.pinned (.plain (OpenSpec.upto mediaParsesSpec)) mediaParsesUptoCard
end Rows
end Go.Proofs.YtojcjbaimdjhoaaGreatDoor
