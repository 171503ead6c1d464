/-
  DERIVED. GIVEN WITH THE SEED: THE CARDS: each row of YthgffoanecknoaaGreatDoorRows.lean that lists a variable, with what it lists TIED to the program's text (the seventh form; the later family's looks); each row that meets fmt, with fmt's text TOLD by the authors' own Lean function (tested against real Go, not proved from fmt's source: count such statements apart). THE CARD IS WHAT COUNTS. Prove the row's statement (the work); the ties are given (YthgffoanecknoaaGreatDoorTie.lean); close each card by the builder's one call (the guide's Derived/Test/ToyasCard.lean, 'card_holds'). Laid BY PROGRAM, IN A SANDBOX (cutbox-door.mjs). By AI agents, Wed Nov 11 2026. No macro, syntax, notation, axiom, sorry.
-/
import Derived.Test.YthgffoanecknoaaGreatDoorRows
import GoSem.ClaimSeven
namespace Go.Proofs.YthgffoanecknoaaGreatDoor
namespace Rows

/-- THE TIED CARD OF 'clerestorykeep2.CountPaths'. -/
def countPathsCard : Claim7 := { stood := { row := countPathsRow, standIns := [], harness := (true, "5644a0f2123f4287ce727ee203e8c7f3819f9516de0459ab7741f8cdd6ffeece"), looks := true }, kinds := [], alts := [], laidByText := true, laidKinds := [.data, .data, .data, .data, .sentinel, .sentinel, .pinned, .pinned], laidTests := true, laidLooks := .later }
def CountPathsCardSaid : Prop := Claim7.holds Tryz.pinned (.plain (OpenSpec.ofChange countPathsSpec)) countPathsCard

/-- THE TIED CARD OF 'clerestorykeep2.PropWide'. -/
def propWideCard : Claim7 := { stood := { row := propWideRow, standIns := [], harness := (true, "5644a0f2123f4287ce727ee203e8c7f3819f9516de0459ab7741f8cdd6ffeece"), looks := true }, kinds := [], alts := [], laidByText := true, laidKinds := [.data, .data, .data, .data, .sentinel, .sentinel, .pinned], laidTests := true, laidLooks := .later }
def PropWideCardSaid : Prop := Claim7.holds Tryz.pinned (.plain (OpenSpec.ofChange propWideSpec)) propWideCard

/-- THE TIED CARD OF 'clerestorykeep2.CountMore'. -/
def countMoreCard : Claim7 := { stood := { row := countMoreRow, standIns := [], harness := (true, "5644a0f2123f4287ce727ee203e8c7f3819f9516de0459ab7741f8cdd6ffeece"), looks := true }, kinds := [], alts := [], laidByText := true, laidKinds := [.data, .data, .data, .data, .sentinel, .sentinel, .data, .pinned, .pinned], laidTests := true, laidLooks := .later }
def CountMoreCardSaid : Prop := Claim7.holds Tryz.pinned (.plain (OpenSpec.ofChange countMoreSpec)) countMoreCard

/-- THE SECOND FORM's CARD OF 'clerestorykeep2.CountPaths'. -/
def countPathsUptoCard : Claim7 := { stood := { row := countPathsUptoRow, standIns := [], harness := (true, "5644a0f2123f4287ce727ee203e8c7f3819f9516de0459ab7741f8cdd6ffeece"), looks := true }, kinds := [], alts := [], laidByText := true, laidKinds := [.data, .data, .data, .data, .sentinel, .sentinel, .pinned, .pinned], laidTests := true, laidLooks := .later }
def CountPathsUptoCardSaid : Prop := Claim7.holds Tryz.pinned (.plain (OpenSpec.upto countPathsSpec)) countPathsUptoCard

/-- THE SECOND FORM's CARD OF 'clerestorykeep2.PropWide'. -/
def propWideUptoCard : Claim7 := { stood := { row := propWideUptoRow, standIns := [], harness := (true, "5644a0f2123f4287ce727ee203e8c7f3819f9516de0459ab7741f8cdd6ffeece"), looks := true }, kinds := [], alts := [], laidByText := true, laidKinds := [.data, .data, .data, .data, .sentinel, .sentinel, .pinned], laidTests := true, laidLooks := .later }
def PropWideUptoCardSaid : Prop := Claim7.holds Tryz.pinned (.plain (OpenSpec.upto propWideSpec)) propWideUptoCard

/-- THE SECOND FORM's CARD OF 'clerestorykeep2.CountMore'. -/
def countMoreUptoCard : Claim7 := { stood := { row := countMoreUptoRow, standIns := [], harness := (true, "5644a0f2123f4287ce727ee203e8c7f3819f9516de0459ab7741f8cdd6ffeece"), looks := true }, kinds := [], alts := [], laidByText := true, laidKinds := [.data, .data, .data, .data, .sentinel, .sentinel, .data, .pinned, .pinned], laidTests := true, laidLooks := .later }
def CountMoreUptoCardSaid : Prop := Claim7.holds Tryz.pinned (.plain (OpenSpec.upto countMoreSpec)) countMoreUptoCard
end Rows
end Go.Proofs.YthgffoanecknoaaGreatDoor
