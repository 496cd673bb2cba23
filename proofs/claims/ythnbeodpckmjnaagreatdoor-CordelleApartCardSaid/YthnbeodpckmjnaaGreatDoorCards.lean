/-
  DERIVED. GIVEN WITH THE SEED: THE CARDS: each row of YthnbeodpckmjnaaGreatDoorRows.lean that lists a variable, with what it lists TIED to the program's text (the seventh form; the later family's looks); each row that meets fmt, with fmt's text TOLD by the authors' own Lean function (tested against real Go, not proved from fmt's source: count such statements apart). THE CARD IS WHAT COUNTS. Prove the row's statement (the work); the ties are given (YthnbeodpckmjnaaGreatDoorTie.lean); close each card by the builder's one call (the guide's Derived/Test/ToyasCard.lean, 'card_holds'). Laid BY PROGRAM, IN A SANDBOX (cutbox-door.mjs). By AI agents, Wed Nov 11 2026. No macro, syntax, notation, axiom, sorry.
-/
import Derived.Test.YthnbeodpckmjnaaGreatDoorRows
import GoSem.ClaimSeven
namespace Go.Proofs.YthnbeodpckmjnaaGreatDoor
namespace Rows

/-- THE TIED CARD OF 'cordelletop.CordelleApart'. -/
def cordelleApartCard : Claim7 := { stood := { row := cordelleApartRow, standIns := [], harness := (true, "bbf03a0b9a4aa24e826172c53ef5b0d0ed2ffbd111586cda0bd8abf2cb3090aa"), looks := true }, kinds := [], alts := [], laidByText := true, laidKinds := [.data, .pinned], laidTests := true, laidLooks := .later }
def CordelleApartCardSaid : Prop := Claim7.holds Tryz.pinned (.plain (OpenSpec.ofChange cordelleApartSpec)) cordelleApartCard

/-- THE SECOND FORM's CARD OF 'cordelletop.CordelleApart'. -/
def cordelleApartUptoCard : Claim7 := { stood := { row := cordelleApartUptoRow, standIns := [], harness := (true, "bbf03a0b9a4aa24e826172c53ef5b0d0ed2ffbd111586cda0bd8abf2cb3090aa"), looks := true }, kinds := [], alts := [], laidByText := true, laidKinds := [.data, .pinned], laidTests := true, laidLooks := .later }
def CordelleApartUptoCardSaid : Prop := Claim7.holds Tryz.pinned (.plain (OpenSpec.upto cordelleApartSpec)) cordelleApartUptoCard
end Rows
end Go.Proofs.YthnbeodpckmjnaaGreatDoor
