/-
  DERIVED. GIVEN WITH THE SEED: THE CARDS: each row of YtaihncbejhnceaaGreatDoorRows.lean that lists a variable, with what it lists TIED to the program's text (the seventh form; the later family's looks); each row that meets fmt, with fmt's text TOLD by the authors' own Lean function (tested against real Go, not proved from fmt's source: count such statements apart). THE CARD IS WHAT COUNTS. Prove the row's statement (the work); the ties are given (YtaihncbejhnceaaGreatDoorTie.lean); close each card by the builder's one call (the guide's Derived/Test/ToyasCard.lean, 'card_holds'). Laid BY PROGRAM, IN A SANDBOX (cutbox-door.mjs). By AI agents, Wed Nov 11 2026. No macro, syntax, notation, axiom, sorry.
-/
import Derived.Test.YtaihncbejhnceaaGreatDoorRows
import GoSem.ClaimSeven
namespace Go.Proofs.YtaihncbejhnceaaGreatDoor
namespace Rows

/-- THE TIED CARD OF 'clerestorykeep2.CalcBetween'. -/
def calcBetweenCard : Claim7 := { stood := { row := calcBetweenRow, standIns := [], harness := (true, "c5c93d390c188f6fb5f1c8487156d5366c442562a7f453bf7581d08ed9c3c3d5"), looks := true }, kinds := [], alts := [], laidByText := true, laidKinds := [.data, .data, .data, .data, .widerDeep, .pinned], laidTests := true, laidLooks := .later }
def CalcBetweenCardSaid : Prop := Claim7.holds Tryz.pinned (.plain (OpenSpec.ofChange calcBetweenSpec)) calcBetweenCard

/-- THE TIED CARD OF 'clerestorykeep2.CalcOrder'. -/
def calcOrderCard : Claim7 := { stood := { row := calcOrderRow, standIns := [], harness := (true, "c5c93d390c188f6fb5f1c8487156d5366c442562a7f453bf7581d08ed9c3c3d5"), looks := true }, kinds := [], alts := [], laidByText := true, laidKinds := [.data, .data, .data, .data, .widerDeep, .pinned], laidTests := true, laidLooks := .later }
def CalcOrderCardSaid : Prop := Claim7.holds Tryz.pinned (.plain (OpenSpec.ofChange calcOrderSpec)) calcOrderCard

/-- THE TIED CARD OF 'clerestorykeep2.CalcSum'. -/
def calcSumCard : Claim7 := { stood := { row := calcSumRow, standIns := [], harness := (true, "c5c93d390c188f6fb5f1c8487156d5366c442562a7f453bf7581d08ed9c3c3d5"), looks := true }, kinds := [], alts := [], laidByText := true, laidKinds := [.data, .data, .data, .data, .widerDeep, .pinned], laidTests := true, laidLooks := .later }
def CalcSumCardSaid : Prop := Claim7.holds Tryz.pinned (.plain (OpenSpec.ofChange calcSumSpec)) calcSumCard

/-- THE SECOND FORM's CARD OF 'clerestorykeep2.CalcBetween'. -/
def calcBetweenUptoCard : Claim7 := { stood := { row := calcBetweenUptoRow, standIns := [], harness := (true, "c5c93d390c188f6fb5f1c8487156d5366c442562a7f453bf7581d08ed9c3c3d5"), looks := true }, kinds := [], alts := [], laidByText := true, laidKinds := [.data, .data, .data, .data, .widerDeep, .pinned], laidTests := true, laidLooks := .later }
def CalcBetweenUptoCardSaid : Prop := Claim7.holds Tryz.pinned (.plain (OpenSpec.upto calcBetweenSpec)) calcBetweenUptoCard

/-- THE SECOND FORM's CARD OF 'clerestorykeep2.CalcOrder'. -/
def calcOrderUptoCard : Claim7 := { stood := { row := calcOrderUptoRow, standIns := [], harness := (true, "c5c93d390c188f6fb5f1c8487156d5366c442562a7f453bf7581d08ed9c3c3d5"), looks := true }, kinds := [], alts := [], laidByText := true, laidKinds := [.data, .data, .data, .data, .widerDeep, .pinned], laidTests := true, laidLooks := .later }
def CalcOrderUptoCardSaid : Prop := Claim7.holds Tryz.pinned (.plain (OpenSpec.upto calcOrderSpec)) calcOrderUptoCard

/-- THE SECOND FORM's CARD OF 'clerestorykeep2.CalcSum'. -/
def calcSumUptoCard : Claim7 := { stood := { row := calcSumUptoRow, standIns := [], harness := (true, "c5c93d390c188f6fb5f1c8487156d5366c442562a7f453bf7581d08ed9c3c3d5"), looks := true }, kinds := [], alts := [], laidByText := true, laidKinds := [.data, .data, .data, .data, .widerDeep, .pinned], laidTests := true, laidLooks := .later }
def CalcSumUptoCardSaid : Prop := Claim7.holds Tryz.pinned (.plain (OpenSpec.upto calcSumSpec)) calcSumUptoCard
end Rows
end Go.Proofs.YtaihncbejhnceaaGreatDoor
