/-
  DERIVED. GIVEN WITH THE SEED: THE CARDS: each row of YthfocmakkeonoaaGreatDoorRows.lean that lists a variable, with what it lists TIED to the program's text (the seventh form; the later family's looks); each row that meets fmt, with fmt's text TOLD by the authors' own Lean function (tested against real Go, not proved from fmt's source: count such statements apart). THE CARD IS WHAT COUNTS. Prove the row's statement (the work); the ties are given (YthfocmakkeonoaaGreatDoorTie.lean); close each card by the builder's one call (the guide's Derived/Test/ToyasCard.lean, 'card_holds'). Laid BY PROGRAM, IN A SANDBOX (cutbox-door.mjs). By AI agents, Wed Nov 11 2026. No macro, syntax, notation, axiom, sorry.
-/
import Derived.Test.YthfocmakkeonoaaGreatDoorRows
import GoSem.ClaimSeven
namespace Go.Proofs.YthfocmakkeonoaaGreatDoor
namespace Rows

/-- THE TIED CARD OF 'cordellelaw27.ReceiverTwice'. -/
def receiverTwiceCard : Claim7 := { stood := { row := receiverTwiceRow, standIns := [], harness := (true, "f69b70b00399427e2b3ea4a5ea0188f5559a3e00426b479f10043eb50a4b5621"), looks := true }, kinds := [], alts := [], laidByText := true, laidKinds := [.data, .pinned], laidTests := true, laidLooks := .later }
def ReceiverTwiceCardSaid : Prop := Claim7.holds Tryz.pinned (.plain (OpenSpec.ofChange receiverTwiceSpec)) receiverTwiceCard

/-- THE SECOND FORM's CARD OF 'cordellelaw27.ReceiverTwice'. -/
def receiverTwiceUptoCard : Claim7 := { stood := { row := receiverTwiceUptoRow, standIns := [], harness := (true, "f69b70b00399427e2b3ea4a5ea0188f5559a3e00426b479f10043eb50a4b5621"), looks := true }, kinds := [], alts := [], laidByText := true, laidKinds := [.data, .pinned], laidTests := true, laidLooks := .later }
def ReceiverTwiceUptoCardSaid : Prop := Claim7.holds Tryz.pinned (.plain (OpenSpec.upto receiverTwiceSpec)) receiverTwiceUptoCard
end Rows
end Go.Proofs.YthfocmakkeonoaaGreatDoor
