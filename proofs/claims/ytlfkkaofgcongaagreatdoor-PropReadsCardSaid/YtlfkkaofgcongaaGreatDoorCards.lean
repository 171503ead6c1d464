/-
  DERIVED. GIVEN WITH THE SEED: THE CARDS: each row of YtlfkkaofgcongaaGreatDoorRows.lean that lists a variable, with what it lists TIED to the program's text (the seventh form; the later family's looks); each row that meets fmt, with fmt's text TOLD by the authors' own Lean function (tested against real Go, not proved from fmt's source: count such statements apart). THE CARD IS WHAT COUNTS. Prove the row's statement (the work); the ties are given (YtlfkkaofgcongaaGreatDoorTie.lean); close each card by the builder's one call (the guide's Derived/Test/ToyasCard.lean, 'card_holds'). Laid BY PROGRAM, IN A SANDBOX (cutbox-door.mjs). By AI agents, Wed Nov 11 2026. No macro, syntax, notation, axiom, sorry.
-/
import Derived.Test.YtlfkkaofgcongaaGreatDoorRows
import GoSem.ClaimSeven
namespace Go.Proofs.YtlfkkaofgcongaaGreatDoor
namespace Rows

/-- THE TIED CARD OF 'clerestorykeep2.PropWide'. -/
def propWideCard : Claim7 := { stood := { row := propWideRow, standIns := [], harness := (true, "8e00d0f525be6f512a73489ce8c3e7075cb3efd87a027a6ae19315eee6b221c4"), looks := true }, kinds := [], alts := [], laidByText := true, laidKinds := [.data, .data, .data, .data, .sentinel, .sentinel, .pinned], laidTests := true, laidLooks := .later }
def PropWideCardSaid : Prop := Claim7.holds Tryz.pinned (.plain (OpenSpec.ofChange propWideSpec)) propWideCard

/-- THE TIED CARD OF 'clerestorykeep2.PropSides'. -/
def propSidesCard : Claim7 := { stood := { row := propSidesRow, standIns := [], harness := (true, "8e00d0f525be6f512a73489ce8c3e7075cb3efd87a027a6ae19315eee6b221c4"), looks := true }, kinds := [], alts := [], laidByText := true, laidKinds := [.data, .data, .data, .data, .sentinel, .sentinel, .pinned], laidTests := true, laidLooks := .later }
def PropSidesCardSaid : Prop := Claim7.holds Tryz.pinned (.plain (OpenSpec.ofChange propSidesSpec)) propSidesCard

/-- THE TIED CARD OF 'clerestorykeep2.PropBack'. -/
def propBackCard : Claim7 := { stood := { row := propBackRow, standIns := [], harness := (true, "8e00d0f525be6f512a73489ce8c3e7075cb3efd87a027a6ae19315eee6b221c4"), looks := true }, kinds := [], alts := [], laidByText := true, laidKinds := [.data, .data, .data, .data, .sentinel, .sentinel, .widerDeep, .pinned], laidTests := true, laidLooks := .later }
def PropBackCardSaid : Prop := Claim7.holds Tryz.pinned (.plain (OpenSpec.ofChange propBackSpec)) propBackCard

/-- THE TIED CARD OF 'clerestorykeep2.PropReads'. -/
def propReadsCard : Claim7 := { stood := { row := propReadsRow, standIns := [], harness := (true, "8e00d0f525be6f512a73489ce8c3e7075cb3efd87a027a6ae19315eee6b221c4"), looks := true }, kinds := [], alts := [], laidByText := true, laidKinds := [.data, .data, .data, .data, .sentinel, .sentinel, .widerDeep, .pinned], laidTests := true, laidLooks := .later }
def PropReadsCardSaid : Prop := Claim7.holds Tryz.pinned (.plain (OpenSpec.ofChange propReadsSpec)) propReadsCard

/-- THE SECOND FORM's CARD OF 'clerestorykeep2.PropWide'. -/
def propWideUptoCard : Claim7 := { stood := { row := propWideUptoRow, standIns := [], harness := (true, "8e00d0f525be6f512a73489ce8c3e7075cb3efd87a027a6ae19315eee6b221c4"), looks := true }, kinds := [], alts := [], laidByText := true, laidKinds := [.data, .data, .data, .data, .sentinel, .sentinel, .pinned], laidTests := true, laidLooks := .later }
def PropWideUptoCardSaid : Prop := Claim7.holds Tryz.pinned (.plain (OpenSpec.upto propWideSpec)) propWideUptoCard

/-- THE SECOND FORM's CARD OF 'clerestorykeep2.PropSides'. -/
def propSidesUptoCard : Claim7 := { stood := { row := propSidesUptoRow, standIns := [], harness := (true, "8e00d0f525be6f512a73489ce8c3e7075cb3efd87a027a6ae19315eee6b221c4"), looks := true }, kinds := [], alts := [], laidByText := true, laidKinds := [.data, .data, .data, .data, .sentinel, .sentinel, .pinned], laidTests := true, laidLooks := .later }
def PropSidesUptoCardSaid : Prop := Claim7.holds Tryz.pinned (.plain (OpenSpec.upto propSidesSpec)) propSidesUptoCard

/-- THE SECOND FORM's CARD OF 'clerestorykeep2.PropBack'. -/
def propBackUptoCard : Claim7 := { stood := { row := propBackUptoRow, standIns := [], harness := (true, "8e00d0f525be6f512a73489ce8c3e7075cb3efd87a027a6ae19315eee6b221c4"), looks := true }, kinds := [], alts := [], laidByText := true, laidKinds := [.data, .data, .data, .data, .sentinel, .sentinel, .widerDeep, .pinned], laidTests := true, laidLooks := .later }
def PropBackUptoCardSaid : Prop := Claim7.holds Tryz.pinned (.plain (OpenSpec.upto propBackSpec)) propBackUptoCard

/-- THE SECOND FORM's CARD OF 'clerestorykeep2.PropReads'. -/
def propReadsUptoCard : Claim7 := { stood := { row := propReadsUptoRow, standIns := [], harness := (true, "8e00d0f525be6f512a73489ce8c3e7075cb3efd87a027a6ae19315eee6b221c4"), looks := true }, kinds := [], alts := [], laidByText := true, laidKinds := [.data, .data, .data, .data, .sentinel, .sentinel, .widerDeep, .pinned], laidTests := true, laidLooks := .later }
def PropReadsUptoCardSaid : Prop := Claim7.holds Tryz.pinned (.plain (OpenSpec.upto propReadsSpec)) propReadsUptoCard
end Rows
end Go.Proofs.YtlfkkaofgcongaaGreatDoor
