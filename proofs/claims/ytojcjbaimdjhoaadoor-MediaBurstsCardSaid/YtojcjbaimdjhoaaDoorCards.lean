/-
  DERIVED. GIVEN WITH THE SEED: THE CARDS: each row of YtojcjbaimdjhoaaDoorRows.lean that lists a variable, with what it lists TIED to the program's text (the seventh form; the later family's looks); each row that meets fmt, with fmt's text TOLD by the authors' own Lean function (tested against real Go, not proved from fmt's source: count such statements apart). THE CARD IS WHAT COUNTS. Prove the row's statement (the work); the ties are given (YtojcjbaimdjhoaaDoorTie.lean); close each card by the builder's one call (the guide's Derived/Test/ToyasCard.lean, 'card_holds'). Laid BY PROGRAM, IN A SANDBOX (cutbox-door.mjs). By AI agents, Wed Nov 11 2026. No macro, syntax, notation, axiom, sorry.
-/
import Derived.Test.YtojcjbaimdjhoaaDoorRows
import GoSem.ClaimSeven
namespace Go.Proofs.YtojcjbaimdjhoaaDoor
namespace Rows

/-- THE TIED CARD OF 'cordellelaw05.ExtsParse'. -/
def extsParseCard : Claim7 := { stood := { row := extsParseRow, standIns := [], harness := (true, "273b52e7638fa5ee12d747739c2a7580e839902b46135f249e4f0331df347323"), looks := false }, kinds := [], alts := [], laidByText := true, laidKinds := [.data, .pinned], laidTests := true, laidLooks := .later }
def ExtsParseCardSaid : Prop := Claim7.holds Tryd.pinned (.plain (OpenSpec.ofChange extsParseSpec)) extsParseCard

/-- THE TIED CARD OF 'cordellelaw05.ExtsBack'. -/
def extsBackCard : Claim7 := { stood := { row := extsBackRow, standIns := [], harness := (true, "273b52e7638fa5ee12d747739c2a7580e839902b46135f249e4f0331df347323"), looks := false }, kinds := [], alts := [], laidByText := true, laidKinds := [.data, .pinned], laidTests := true, laidLooks := .later }
def ExtsBackCardSaid : Prop := Claim7.holds Tryd.pinned (.plain (OpenSpec.ofChange extsBackSpec)) extsBackCard

/-- THE TIED CARD OF 'cordellelaw05.ExtsHeaders'. -/
def extsHeadersCard : Claim7 := { stood := { row := extsHeadersRow, standIns := [], harness := (true, "273b52e7638fa5ee12d747739c2a7580e839902b46135f249e4f0331df347323"), looks := false }, kinds := [], alts := [], laidByText := true, laidKinds := [.data, .pinned], laidTests := true, laidLooks := .later }
def ExtsHeadersCardSaid : Prop := Claim7.holds Tryd.pinned (.plain (OpenSpec.ofChange extsHeadersSpec)) extsHeadersCard

/-- THE TIED CARD OF 'cordellelaw06.MediaApart'. -/
def mediaApartCard : Claim7 := { stood := { row := mediaApartRow, standIns := [], harness := (true, "273b52e7638fa5ee12d747739c2a7580e839902b46135f249e4f0331df347323"), looks := false }, kinds := [], alts := [], laidByText := true, laidKinds := [.data, .pinned], laidTests := true, laidLooks := .later }
def MediaApartCardSaid : Prop := Claim7.holds Tryd.pinned (.plain (OpenSpec.ofChange mediaApartSpec)) mediaApartCard

/-- THE TIED CARD OF 'cordellelaw06.MediaTracks'. -/
def mediaTracksCard : Claim7 := { stood := { row := mediaTracksRow, standIns := [], harness := (true, "273b52e7638fa5ee12d747739c2a7580e839902b46135f249e4f0331df347323"), looks := false }, kinds := [], alts := [], laidByText := true, laidKinds := [.data, .pinned], laidTests := true, laidLooks := .later }
def MediaTracksCardSaid : Prop := Claim7.holds Tryd.pinned (.plain (OpenSpec.ofChange mediaTracksSpec)) mediaTracksCard

/-- THE TIED CARD OF 'cordellelaw06.MediaBursts'. -/
def mediaBurstsCard : Claim7 := { stood := { row := mediaBurstsRow, standIns := [], harness := (true, "273b52e7638fa5ee12d747739c2a7580e839902b46135f249e4f0331df347323"), looks := false }, kinds := [], alts := [], laidByText := true, laidKinds := [.data, .pinned], laidTests := true, laidLooks := .later }
def MediaBurstsCardSaid : Prop := Claim7.holds Tryd.pinned (.plain (OpenSpec.ofChange mediaBurstsSpec)) mediaBurstsCard

/-- THE SECOND FORM's CARD OF 'cordellelaw05.ExtsParse'. -/
def extsParseUptoCard : Claim7 := { stood := { row := extsParseUptoRow, standIns := [], harness := (true, "273b52e7638fa5ee12d747739c2a7580e839902b46135f249e4f0331df347323"), looks := false }, kinds := [], alts := [], laidByText := true, laidKinds := [.data, .pinned], laidTests := true, laidLooks := .later }
def ExtsParseUptoCardSaid : Prop := Claim7.holds Tryd.pinned (.plain (OpenSpec.upto extsParseSpec)) extsParseUptoCard

/-- THE SECOND FORM's CARD OF 'cordellelaw05.ExtsBack'. -/
def extsBackUptoCard : Claim7 := { stood := { row := extsBackUptoRow, standIns := [], harness := (true, "273b52e7638fa5ee12d747739c2a7580e839902b46135f249e4f0331df347323"), looks := false }, kinds := [], alts := [], laidByText := true, laidKinds := [.data, .pinned], laidTests := true, laidLooks := .later }
def ExtsBackUptoCardSaid : Prop := Claim7.holds Tryd.pinned (.plain (OpenSpec.upto extsBackSpec)) extsBackUptoCard

/-- THE SECOND FORM's CARD OF 'cordellelaw05.ExtsHeaders'. -/
def extsHeadersUptoCard : Claim7 := { stood := { row := extsHeadersUptoRow, standIns := [], harness := (true, "273b52e7638fa5ee12d747739c2a7580e839902b46135f249e4f0331df347323"), looks := false }, kinds := [], alts := [], laidByText := true, laidKinds := [.data, .pinned], laidTests := true, laidLooks := .later }
def ExtsHeadersUptoCardSaid : Prop := Claim7.holds Tryd.pinned (.plain (OpenSpec.upto extsHeadersSpec)) extsHeadersUptoCard

/-- THE SECOND FORM's CARD OF 'cordellelaw06.MediaApart'. -/
def mediaApartUptoCard : Claim7 := { stood := { row := mediaApartUptoRow, standIns := [], harness := (true, "273b52e7638fa5ee12d747739c2a7580e839902b46135f249e4f0331df347323"), looks := false }, kinds := [], alts := [], laidByText := true, laidKinds := [.data, .pinned], laidTests := true, laidLooks := .later }
def MediaApartUptoCardSaid : Prop := Claim7.holds Tryd.pinned (.plain (OpenSpec.upto mediaApartSpec)) mediaApartUptoCard

/-- THE SECOND FORM's CARD OF 'cordellelaw06.MediaTracks'. -/
def mediaTracksUptoCard : Claim7 := { stood := { row := mediaTracksUptoRow, standIns := [], harness := (true, "273b52e7638fa5ee12d747739c2a7580e839902b46135f249e4f0331df347323"), looks := false }, kinds := [], alts := [], laidByText := true, laidKinds := [.data, .pinned], laidTests := true, laidLooks := .later }
def MediaTracksUptoCardSaid : Prop := Claim7.holds Tryd.pinned (.plain (OpenSpec.upto mediaTracksSpec)) mediaTracksUptoCard

/-- THE SECOND FORM's CARD OF 'cordellelaw06.MediaBursts'. -/
def mediaBurstsUptoCard : Claim7 := { stood := { row := mediaBurstsUptoRow, standIns := [], harness := (true, "273b52e7638fa5ee12d747739c2a7580e839902b46135f249e4f0331df347323"), looks := false }, kinds := [], alts := [], laidByText := true, laidKinds := [.data, .pinned], laidTests := true, laidLooks := .later }
def MediaBurstsUptoCardSaid : Prop := Claim7.holds Tryd.pinned (.plain (OpenSpec.upto mediaBurstsSpec)) mediaBurstsUptoCard
end Rows
end Go.Proofs.YtojcjbaimdjhoaaDoor
