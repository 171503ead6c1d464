/-
  DERIVED. GIVEN WITH THE SEED: THE CARDS: each row of YtmjbaimccbkmpaaGreatDoorRows.lean that lists a variable, with what it lists TIED to the program's text (the seventh form; the later family's looks); each row that meets fmt, with fmt's text TOLD by the authors' own Lean function (tested against real Go, not proved from fmt's source: count such statements apart). THE CARD IS WHAT COUNTS. Prove the row's statement (the work); the ties are given (YtmjbaimccbkmpaaGreatDoorTie.lean); close each card by the builder's one call (the guide's Derived/Test/ToyasCard.lean, 'card_holds'). Laid BY PROGRAM, IN A SANDBOX (cutbox-door.mjs). By AI agents, Wed Nov 11 2026. No macro, syntax, notation, axiom, sorry.
-/
import Derived.Test.YtmjbaimccbkmpaaGreatDoorRows
import GoSem.ClaimSeven
namespace Go.Proofs.YtmjbaimccbkmpaaGreatDoor
namespace Rows

/-- THE TIED CARD OF 'clerestorykeep2.SelectNths'. -/
def selectNthsCard : Claim7 := { stood := { row := selectNthsRow, standIns := [], harness := (true, "c91208424c4c586fb7b5155a1596b55370d004c9e38490fdb0f7b992f84a47ed"), looks := true }, kinds := [], alts := [], laidByText := true, laidKinds := [.data, .data, .data, .data, .sentinel, .sentinel, .pinned], laidTests := true, laidLooks := .later }
def SelectNthsCardSaid : Prop := Claim7.holds Tryz.pinned (.plain (OpenSpec.ofChange selectNthsSpec)) selectNthsCard

/-- THE TIED CARD OF 'clerestorykeep2.MediaBack'. -/
def mediaBackCard : Claim7 := { stood := { row := mediaBackRow, standIns := [], harness := (true, "c91208424c4c586fb7b5155a1596b55370d004c9e38490fdb0f7b992f84a47ed"), looks := true }, kinds := [], alts := [], laidByText := true, laidKinds := [.data, .data, .data, .data, .sentinel, .sentinel, .data, .pinned], laidTests := true, laidLooks := .later }
def MediaBackCardSaid : Prop := Claim7.holds Tryz.pinned (.plain (OpenSpec.ofChange mediaBackSpec)) mediaBackCard

/-- THE TIED CARD OF 'clerestorykeep2.MediaNot'. -/
def mediaNotCard : Claim7 := { stood := { row := mediaNotRow, standIns := [], harness := (true, "c91208424c4c586fb7b5155a1596b55370d004c9e38490fdb0f7b992f84a47ed"), looks := true }, kinds := [], alts := [], laidByText := true, laidKinds := [.data, .data, .data, .data, .sentinel, .sentinel, .data, .pinned], laidTests := true, laidLooks := .later }
def MediaNotCardSaid : Prop := Claim7.holds Tryz.pinned (.plain (OpenSpec.ofChange mediaNotSpec)) mediaNotCard

/-- THE TIED CARD OF 'clerestorykeep2.MediaWider'. -/
def mediaWiderCard : Claim7 := { stood := { row := mediaWiderRow, standIns := [], harness := (true, "c91208424c4c586fb7b5155a1596b55370d004c9e38490fdb0f7b992f84a47ed"), looks := true }, kinds := [], alts := [], laidByText := true, laidKinds := [.data, .data, .data, .data, .sentinel, .sentinel, .data, .pinned], laidTests := true, laidLooks := .later }
def MediaWiderCardSaid : Prop := Claim7.holds Tryz.pinned (.plain (OpenSpec.ofChange mediaWiderSpec)) mediaWiderCard

/-- THE TIED CARD OF 'clerestorykeep2.MediaList'. -/
def mediaListCard : Claim7 := { stood := { row := mediaListRow, standIns := [], harness := (true, "c91208424c4c586fb7b5155a1596b55370d004c9e38490fdb0f7b992f84a47ed"), looks := true }, kinds := [], alts := [], laidByText := true, laidKinds := [.data, .data, .data, .data, .sentinel, .sentinel, .data, .pinned], laidTests := true, laidLooks := .later }
def MediaListCardSaid : Prop := Claim7.holds Tryz.pinned (.plain (OpenSpec.ofChange mediaListSpec)) mediaListCard

/-- THE SECOND FORM's CARD OF 'clerestorykeep2.SelectNths'. -/
def selectNthsUptoCard : Claim7 := { stood := { row := selectNthsUptoRow, standIns := [], harness := (true, "c91208424c4c586fb7b5155a1596b55370d004c9e38490fdb0f7b992f84a47ed"), looks := true }, kinds := [], alts := [], laidByText := true, laidKinds := [.data, .data, .data, .data, .sentinel, .sentinel, .pinned], laidTests := true, laidLooks := .later }
def SelectNthsUptoCardSaid : Prop := Claim7.holds Tryz.pinned (.plain (OpenSpec.upto selectNthsSpec)) selectNthsUptoCard

/-- THE SECOND FORM's CARD OF 'clerestorykeep2.MediaBack'. -/
def mediaBackUptoCard : Claim7 := { stood := { row := mediaBackUptoRow, standIns := [], harness := (true, "c91208424c4c586fb7b5155a1596b55370d004c9e38490fdb0f7b992f84a47ed"), looks := true }, kinds := [], alts := [], laidByText := true, laidKinds := [.data, .data, .data, .data, .sentinel, .sentinel, .data, .pinned], laidTests := true, laidLooks := .later }
def MediaBackUptoCardSaid : Prop := Claim7.holds Tryz.pinned (.plain (OpenSpec.upto mediaBackSpec)) mediaBackUptoCard

/-- THE SECOND FORM's CARD OF 'clerestorykeep2.MediaNot'. -/
def mediaNotUptoCard : Claim7 := { stood := { row := mediaNotUptoRow, standIns := [], harness := (true, "c91208424c4c586fb7b5155a1596b55370d004c9e38490fdb0f7b992f84a47ed"), looks := true }, kinds := [], alts := [], laidByText := true, laidKinds := [.data, .data, .data, .data, .sentinel, .sentinel, .data, .pinned], laidTests := true, laidLooks := .later }
def MediaNotUptoCardSaid : Prop := Claim7.holds Tryz.pinned (.plain (OpenSpec.upto mediaNotSpec)) mediaNotUptoCard

/-- THE SECOND FORM's CARD OF 'clerestorykeep2.MediaWider'. -/
def mediaWiderUptoCard : Claim7 := { stood := { row := mediaWiderUptoRow, standIns := [], harness := (true, "c91208424c4c586fb7b5155a1596b55370d004c9e38490fdb0f7b992f84a47ed"), looks := true }, kinds := [], alts := [], laidByText := true, laidKinds := [.data, .data, .data, .data, .sentinel, .sentinel, .data, .pinned], laidTests := true, laidLooks := .later }
def MediaWiderUptoCardSaid : Prop := Claim7.holds Tryz.pinned (.plain (OpenSpec.upto mediaWiderSpec)) mediaWiderUptoCard

/-- THE SECOND FORM's CARD OF 'clerestorykeep2.MediaList'. -/
def mediaListUptoCard : Claim7 := { stood := { row := mediaListUptoRow, standIns := [], harness := (true, "c91208424c4c586fb7b5155a1596b55370d004c9e38490fdb0f7b992f84a47ed"), looks := true }, kinds := [], alts := [], laidByText := true, laidKinds := [.data, .data, .data, .data, .sentinel, .sentinel, .data, .pinned], laidTests := true, laidLooks := .later }
def MediaListUptoCardSaid : Prop := Claim7.holds Tryz.pinned (.plain (OpenSpec.upto mediaListSpec)) mediaListUptoCard
end Rows
end Go.Proofs.YtmjbaimccbkmpaaGreatDoor
