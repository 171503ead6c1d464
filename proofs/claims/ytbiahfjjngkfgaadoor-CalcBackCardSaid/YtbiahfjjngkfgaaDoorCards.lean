/-
  DERIVED. GIVEN WITH THE SEED: THE CARDS: each row of YtbiahfjjngkfgaaDoorRows.lean that lists a variable, with what it lists TIED to the program's text (the seventh form; the later family's looks); each row that meets fmt, with fmt's text TOLD by the authors' own Lean function (tested against real Go, not proved from fmt's source: count such statements apart). THE CARD IS WHAT COUNTS. Prove the row's statement (the work); the ties are given (YtbiahfjjngkfgaaDoorTie.lean); close each card by the builder's one call (the guide's Derived/Test/ToyasCard.lean, 'card_holds'). Laid BY PROGRAM, IN A SANDBOX (cutbox-door.mjs). By AI agents, Wed Nov 11 2026. No macro, syntax, notation, axiom, sorry.
-/
import Derived.Test.YtbiahfjjngkfgaaDoorRows
import GoSem.ClaimSeven
namespace Go.Proofs.YtbiahfjjngkfgaaDoor
namespace Rows

/-- THE TIED CARD OF 'clerestorykeep2.CalcBack'. -/
def calcBackCard : Claim7 := { stood := { row := calcBackRow, standIns := [], harness := (true, "c66841be12aa301f6df5d5fcf591c332d520d091c7129be1ad962369391682aa"), looks := true }, kinds := [], alts := [], laidByText := true, laidKinds := [.data, .data, .data, .data, .widerDeep, .pinned], laidTests := true, laidLooks := .later }
def CalcBackCardSaid : Prop := Claim7.holds Tryd.pinned (.plain (OpenSpec.ofChange calcBackSpec)) calcBackCard

/-- THE SECOND FORM's CARD OF 'clerestorykeep2.CalcBack'. -/
def calcBackUptoCard : Claim7 := { stood := { row := calcBackUptoRow, standIns := [], harness := (true, "c66841be12aa301f6df5d5fcf591c332d520d091c7129be1ad962369391682aa"), looks := true }, kinds := [], alts := [], laidByText := true, laidKinds := [.data, .data, .data, .data, .widerDeep, .pinned], laidTests := true, laidLooks := .later }
def CalcBackUptoCardSaid : Prop := Claim7.holds Tryd.pinned (.plain (OpenSpec.upto calcBackSpec)) calcBackUptoCard
end Rows
end Go.Proofs.YtbiahfjjngkfgaaDoor
