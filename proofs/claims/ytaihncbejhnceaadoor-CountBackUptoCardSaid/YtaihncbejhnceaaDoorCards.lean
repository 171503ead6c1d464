/-
  DERIVED. GIVEN WITH THE SEED: THE CARDS: each row of YtaihncbejhnceaaDoorRows.lean that lists a variable, with what it lists TIED to the program's text (the seventh form; the later family's looks); each row that meets fmt, with fmt's text TOLD by the authors' own Lean function (tested against real Go, not proved from fmt's source: count such statements apart). THE CARD IS WHAT COUNTS. Prove the row's statement (the work); the ties are given (YtaihncbejhnceaaDoorTie.lean); close each card by the builder's one call (the guide's Derived/Test/ToyasCard.lean, 'card_holds'). Laid BY PROGRAM, IN A SANDBOX (cutbox-door.mjs). By AI agents, Wed Nov 11 2026. No macro, syntax, notation, axiom, sorry.
-/
import Derived.Test.YtaihncbejhnceaaDoorRows
import GoSem.ClaimSeven
namespace Go.Proofs.YtaihncbejhnceaaDoor
namespace Rows

/-- THE TIED CARD OF 'clerestorykeep2.RuleShown'. -/
def ruleShownCard : Claim7 := { stood := { row := ruleShownRow, standIns := [], harness := (true, "aabe470434900f1848efe226d30a29fc2aa484563ebe659d477fb1d14bf745be"), looks := true }, kinds := [], alts := [], laidByText := true, laidKinds := [.data, .data, .data, .pinned, .pinned], laidTests := true, laidLooks := .later }
def RuleShownCardSaid : Prop := Claim7.holds Tryd.pinned (.plain (OpenSpec.ofChange ruleShownSpec)) ruleShownCard

/-- THE TIED CARD OF 'clerestorykeep2.RuleBehind'. -/
def ruleBehindCard : Claim7 := { stood := { row := ruleBehindRow, standIns := [], harness := (true, "aabe470434900f1848efe226d30a29fc2aa484563ebe659d477fb1d14bf745be"), looks := true }, kinds := [], alts := [], laidByText := true, laidKinds := [.data, .data, .data, .pinned, .pinned], laidTests := true, laidLooks := .later }
def RuleBehindCardSaid : Prop := Claim7.holds Tryd.pinned (.plain (OpenSpec.ofChange ruleBehindSpec)) ruleBehindCard

/-- THE TIED CARD OF 'clerestorykeep2.RuleSpoils'. -/
def ruleSpoilsCard : Claim7 := { stood := { row := ruleSpoilsRow, standIns := [], harness := (true, "aabe470434900f1848efe226d30a29fc2aa484563ebe659d477fb1d14bf745be"), looks := true }, kinds := [], alts := [], laidByText := true, laidKinds := [.data, .data, .data, .pinned, .pinned], laidTests := true, laidLooks := .later }
def RuleSpoilsCardSaid : Prop := Claim7.holds Tryd.pinned (.plain (OpenSpec.ofChange ruleSpoilsSpec)) ruleSpoilsCard

/-- THE TIED CARD OF 'clerestorykeep2.RuleWithin'. -/
def ruleWithinCard : Claim7 := { stood := { row := ruleWithinRow, standIns := [], harness := (true, "aabe470434900f1848efe226d30a29fc2aa484563ebe659d477fb1d14bf745be"), looks := true }, kinds := [], alts := [], laidByText := true, laidKinds := [.data, .data, .data, .pinned, .pinned], laidTests := true, laidLooks := .later }
def RuleWithinCardSaid : Prop := Claim7.holds Tryd.pinned (.plain (OpenSpec.ofChange ruleWithinSpec)) ruleWithinCard

/-- THE TIED CARD OF 'clerestorykeep2.CountBack'. -/
def countBackCard : Claim7 := { stood := { row := countBackRow, standIns := [], harness := (true, "aabe470434900f1848efe226d30a29fc2aa484563ebe659d477fb1d14bf745be"), looks := true }, kinds := [], alts := [], laidByText := true, laidKinds := [.data, .data, .data, .data, .sentinel, .sentinel, .pinned, .pinned], laidTests := true, laidLooks := .later }
def CountBackCardSaid : Prop := Claim7.holds Tryd.pinned (.plain (OpenSpec.ofChange countBackSpec)) countBackCard

/-- THE TIED CARD OF 'clerestorykeep2.CalcBack'. -/
def calcBackCard : Claim7 := { stood := { row := calcBackRow, standIns := [], harness := (true, "aabe470434900f1848efe226d30a29fc2aa484563ebe659d477fb1d14bf745be"), looks := true }, kinds := [], alts := [], laidByText := true, laidKinds := [.data, .data, .data, .data, .widerDeep, .pinned], laidTests := true, laidLooks := .later }
def CalcBackCardSaid : Prop := Claim7.holds Tryd.pinned (.plain (OpenSpec.ofChange calcBackSpec)) calcBackCard

/-- THE TIED CARD OF 'clerestorykeep2.ColorClears'. -/
def colorClearsCard : Claim7 := { stood := { row := colorClearsRow, standIns := [], harness := (true, "aabe470434900f1848efe226d30a29fc2aa484563ebe659d477fb1d14bf745be"), looks := true }, kinds := [], alts := [], laidByText := true, laidKinds := [.data, .data, .data, .data, .sentinel, .sentinel, .pinned], laidTests := true, laidLooks := .later }
def ColorClearsCardSaid : Prop := Claim7.holds Tryd.pinned (.plain (OpenSpec.ofChange colorClearsSpec)) colorClearsCard

/-- THE TIED CARD OF 'clerestorykeep2.ColorHides'. -/
def colorHidesCard : Claim7 := { stood := { row := colorHidesRow, standIns := [], harness := (true, "aabe470434900f1848efe226d30a29fc2aa484563ebe659d477fb1d14bf745be"), looks := true }, kinds := [], alts := [], laidByText := true, laidKinds := [.data, .data, .data, .data, .sentinel, .sentinel, .pinned], laidTests := true, laidLooks := .later }
def ColorHidesCardSaid : Prop := Claim7.holds Tryd.pinned (.plain (OpenSpec.ofChange colorHidesSpec)) colorHidesCard

/-- THE TIED CARD OF 'clerestorykeep2.ColorBack'. -/
def colorBackCard : Claim7 := { stood := { row := colorBackRow, standIns := [], harness := (true, "aabe470434900f1848efe226d30a29fc2aa484563ebe659d477fb1d14bf745be"), looks := true }, kinds := [], alts := [], laidByText := true, laidKinds := [.data, .data, .data, .data, .sentinel, .sentinel, .pinned], laidTests := true, laidLooks := .later }
def ColorBackCardSaid : Prop := Claim7.holds Tryd.pinned (.plain (OpenSpec.ofChange colorBackSpec)) colorBackCard

/-- THE SECOND FORM's CARD OF 'clerestorykeep2.RuleShown'. -/
def ruleShownUptoCard : Claim7 := { stood := { row := ruleShownUptoRow, standIns := [], harness := (true, "aabe470434900f1848efe226d30a29fc2aa484563ebe659d477fb1d14bf745be"), looks := true }, kinds := [], alts := [], laidByText := true, laidKinds := [.data, .data, .data, .pinned, .pinned], laidTests := true, laidLooks := .later }
def RuleShownUptoCardSaid : Prop := Claim7.holds Tryd.pinned (.plain (OpenSpec.upto ruleShownSpec)) ruleShownUptoCard

/-- THE SECOND FORM's CARD OF 'clerestorykeep2.RuleBehind'. -/
def ruleBehindUptoCard : Claim7 := { stood := { row := ruleBehindUptoRow, standIns := [], harness := (true, "aabe470434900f1848efe226d30a29fc2aa484563ebe659d477fb1d14bf745be"), looks := true }, kinds := [], alts := [], laidByText := true, laidKinds := [.data, .data, .data, .pinned, .pinned], laidTests := true, laidLooks := .later }
def RuleBehindUptoCardSaid : Prop := Claim7.holds Tryd.pinned (.plain (OpenSpec.upto ruleBehindSpec)) ruleBehindUptoCard

/-- THE SECOND FORM's CARD OF 'clerestorykeep2.RuleSpoils'. -/
def ruleSpoilsUptoCard : Claim7 := { stood := { row := ruleSpoilsUptoRow, standIns := [], harness := (true, "aabe470434900f1848efe226d30a29fc2aa484563ebe659d477fb1d14bf745be"), looks := true }, kinds := [], alts := [], laidByText := true, laidKinds := [.data, .data, .data, .pinned, .pinned], laidTests := true, laidLooks := .later }
def RuleSpoilsUptoCardSaid : Prop := Claim7.holds Tryd.pinned (.plain (OpenSpec.upto ruleSpoilsSpec)) ruleSpoilsUptoCard

/-- THE SECOND FORM's CARD OF 'clerestorykeep2.RuleWithin'. -/
def ruleWithinUptoCard : Claim7 := { stood := { row := ruleWithinUptoRow, standIns := [], harness := (true, "aabe470434900f1848efe226d30a29fc2aa484563ebe659d477fb1d14bf745be"), looks := true }, kinds := [], alts := [], laidByText := true, laidKinds := [.data, .data, .data, .pinned, .pinned], laidTests := true, laidLooks := .later }
def RuleWithinUptoCardSaid : Prop := Claim7.holds Tryd.pinned (.plain (OpenSpec.upto ruleWithinSpec)) ruleWithinUptoCard

/-- THE SECOND FORM's CARD OF 'clerestorykeep2.CountBack'. -/
def countBackUptoCard : Claim7 := { stood := { row := countBackUptoRow, standIns := [], harness := (true, "aabe470434900f1848efe226d30a29fc2aa484563ebe659d477fb1d14bf745be"), looks := true }, kinds := [], alts := [], laidByText := true, laidKinds := [.data, .data, .data, .data, .sentinel, .sentinel, .pinned, .pinned], laidTests := true, laidLooks := .later }
def CountBackUptoCardSaid : Prop := Claim7.holds Tryd.pinned (.plain (OpenSpec.upto countBackSpec)) countBackUptoCard

/-- THE SECOND FORM's CARD OF 'clerestorykeep2.CalcBack'. -/
def calcBackUptoCard : Claim7 := { stood := { row := calcBackUptoRow, standIns := [], harness := (true, "aabe470434900f1848efe226d30a29fc2aa484563ebe659d477fb1d14bf745be"), looks := true }, kinds := [], alts := [], laidByText := true, laidKinds := [.data, .data, .data, .data, .widerDeep, .pinned], laidTests := true, laidLooks := .later }
def CalcBackUptoCardSaid : Prop := Claim7.holds Tryd.pinned (.plain (OpenSpec.upto calcBackSpec)) calcBackUptoCard

/-- THE SECOND FORM's CARD OF 'clerestorykeep2.ColorClears'. -/
def colorClearsUptoCard : Claim7 := { stood := { row := colorClearsUptoRow, standIns := [], harness := (true, "aabe470434900f1848efe226d30a29fc2aa484563ebe659d477fb1d14bf745be"), looks := true }, kinds := [], alts := [], laidByText := true, laidKinds := [.data, .data, .data, .data, .sentinel, .sentinel, .pinned], laidTests := true, laidLooks := .later }
def ColorClearsUptoCardSaid : Prop := Claim7.holds Tryd.pinned (.plain (OpenSpec.upto colorClearsSpec)) colorClearsUptoCard

/-- THE SECOND FORM's CARD OF 'clerestorykeep2.ColorHides'. -/
def colorHidesUptoCard : Claim7 := { stood := { row := colorHidesUptoRow, standIns := [], harness := (true, "aabe470434900f1848efe226d30a29fc2aa484563ebe659d477fb1d14bf745be"), looks := true }, kinds := [], alts := [], laidByText := true, laidKinds := [.data, .data, .data, .data, .sentinel, .sentinel, .pinned], laidTests := true, laidLooks := .later }
def ColorHidesUptoCardSaid : Prop := Claim7.holds Tryd.pinned (.plain (OpenSpec.upto colorHidesSpec)) colorHidesUptoCard

/-- THE SECOND FORM's CARD OF 'clerestorykeep2.ColorBack'. -/
def colorBackUptoCard : Claim7 := { stood := { row := colorBackUptoRow, standIns := [], harness := (true, "aabe470434900f1848efe226d30a29fc2aa484563ebe659d477fb1d14bf745be"), looks := true }, kinds := [], alts := [], laidByText := true, laidKinds := [.data, .data, .data, .data, .sentinel, .sentinel, .pinned], laidTests := true, laidLooks := .later }
def ColorBackUptoCardSaid : Prop := Claim7.holds Tryd.pinned (.plain (OpenSpec.upto colorBackSpec)) colorBackUptoCard
end Rows
end Go.Proofs.YtaihncbejhnceaaDoor
