/-
  DERIVED. GIVEN WITH THE SEED: THE CARDS: each row of YtphdmdncboegjaaDoorRows.lean that lists a variable, with what it lists TIED to the program's text (the seventh form; the later family's looks); each row that meets fmt, with fmt's text TOLD by the authors' own Lean function (tested against real Go, not proved from fmt's source: count such statements apart). THE CARD IS WHAT COUNTS. Prove the row's statement (the work); the ties are given (YtphdmdncboegjaaDoorTie.lean); close each card by the builder's one call (the guide's Derived/Test/ToyasCard.lean, 'card_holds'). Laid BY PROGRAM, IN A SANDBOX (cutbox-door.mjs). By AI agents, Wed Nov 11 2026. No macro, syntax, notation, axiom, sorry.
-/
import Derived.Test.YtphdmdncboegjaaDoorRows
import GoSem.ClaimSeven
namespace Go.Proofs.YtphdmdncboegjaaDoor
namespace Rows

/-- THE TIED CARD OF 'clerestorykeep2.TokenAlone'. -/
def tokenAloneCard : Claim7 := { stood := { row := tokenAloneRow, standIns := [], harness := (true, "632d4512edd2373fe8bc7609603ad87081fb236b5093df83ffc85712271e5fd8"), looks := false }, kinds := [], alts := [], laidByText := true, laidKinds := [.data, .pinned], laidTests := true, laidLooks := .later }
def TokenAloneCardSaid : Prop := Claim7.holds Tryd.pinned (.plain (OpenSpec.ofChange tokenAloneSpec)) tokenAloneCard

/-- THE TIED CARD OF 'clerestorykeep2.TokenApart'. -/
def tokenApartCard : Claim7 := { stood := { row := tokenApartRow, standIns := [], harness := (true, "632d4512edd2373fe8bc7609603ad87081fb236b5093df83ffc85712271e5fd8"), looks := false }, kinds := [], alts := [], laidByText := true, laidKinds := [.data, .pinned], laidTests := true, laidLooks := .later }
def TokenApartCardSaid : Prop := Claim7.holds Tryd.pinned (.plain (OpenSpec.ofChange tokenApartSpec)) tokenApartCard

/-- THE TIED CARD OF 'clerestorykeep2.TokenAll'. -/
def tokenAllCard : Claim7 := { stood := { row := tokenAllRow, standIns := [], harness := (true, "632d4512edd2373fe8bc7609603ad87081fb236b5093df83ffc85712271e5fd8"), looks := false }, kinds := [], alts := [], laidByText := true, laidKinds := [.data, .pinned], laidTests := true, laidLooks := .later }
def TokenAllCardSaid : Prop := Claim7.holds Tryd.pinned (.plain (OpenSpec.ofChange tokenAllSpec)) tokenAllCard

/-- THE TIED CARD OF 'clerestorykeep2.DimMore'. -/
def dimMoreCard : Claim7 := { stood := { row := dimMoreRow, standIns := [], harness := (true, "632d4512edd2373fe8bc7609603ad87081fb236b5093df83ffc85712271e5fd8"), looks := false }, kinds := [], alts := [], laidByText := true, laidKinds := [.data, .widerDeep, .pinned], laidTests := true, laidLooks := .later }
def DimMoreCardSaid : Prop := Claim7.holds Tryd.pinned (.plain (OpenSpec.ofChange dimMoreSpec)) dimMoreCard

/-- THE TIED CARD OF 'clerestorykeep2.DimWhole'. -/
def dimWholeCard : Claim7 := { stood := { row := dimWholeRow, standIns := [], harness := (true, "632d4512edd2373fe8bc7609603ad87081fb236b5093df83ffc85712271e5fd8"), looks := false }, kinds := [], alts := [], laidByText := true, laidKinds := [.data, .widerDeep, .pinned], laidTests := true, laidLooks := .later }
def DimWholeCardSaid : Prop := Claim7.holds Tryd.pinned (.plain (OpenSpec.ofChange dimWholeSpec)) dimWholeCard

/-- THE TIED CARD OF 'clerestorykeep2.CountNext'. -/
def countNextCard : Claim7 := { stood := { row := countNextRow, standIns := [], harness := (true, "632d4512edd2373fe8bc7609603ad87081fb236b5093df83ffc85712271e5fd8"), looks := false }, kinds := [], alts := [], laidByText := true, laidKinds := [.data, .data, .data, .data, .pinned, .pinned], laidTests := true, laidLooks := .later }
def CountNextCardSaid : Prop := Claim7.holds Tryd.pinned (.plain (OpenSpec.ofChange countNextSpec)) countNextCard

/-- THE TIED CARD OF 'clerestorykeep2.VarPlain'. -/
def varPlainCard : Claim7 := { stood := { row := varPlainRow, standIns := [], harness := (true, "632d4512edd2373fe8bc7609603ad87081fb236b5093df83ffc85712271e5fd8"), looks := false }, kinds := [], alts := [], laidByText := true, laidKinds := [.data, .data, .data, .pinned, .pinned], laidTests := true, laidLooks := .later }
def VarPlainCardSaid : Prop := Claim7.holds Tryd.pinned (.plain (OpenSpec.ofChange varPlainSpec)) varPlainCard

/-- THE TIED CARD OF 'clerestorykeep2.DimBack'. -/
def dimBackCard : Claim7 := { stood := { row := dimBackRow, standIns := [], harness := (true, "632d4512edd2373fe8bc7609603ad87081fb236b5093df83ffc85712271e5fd8"), looks := false }, kinds := [], alts := [], laidByText := true, laidKinds := [.data, .data, .data, .data, .widerDeep, .pinned], laidTests := true, laidLooks := .later }
def DimBackCardSaid : Prop := Claim7.holds Tryd.pinned (.plain (OpenSpec.ofChange dimBackSpec)) dimBackCard

/-- THE TIED CARD OF 'clerestorykeep2.RuleLarge'. -/
def ruleLargeCard : Claim7 := { stood := { row := ruleLargeRow, standIns := [], harness := (true, "632d4512edd2373fe8bc7609603ad87081fb236b5093df83ffc85712271e5fd8"), looks := false }, kinds := [], alts := [], laidByText := true, laidKinds := [.data, .data, .data, .pinned, .pinned], laidTests := true, laidLooks := .later }
def RuleLargeCardSaid : Prop := Claim7.holds Tryd.pinned (.plain (OpenSpec.ofChange ruleLargeSpec)) ruleLargeCard

/-- THE TIED CARD OF 'clerestorykeep2.DeclShown'. -/
def declShownCard : Claim7 := { stood := { row := declShownRow, standIns := [], harness := (true, "632d4512edd2373fe8bc7609603ad87081fb236b5093df83ffc85712271e5fd8"), looks := false }, kinds := [], alts := [], laidByText := true, laidKinds := [.data, .data, .data, .pinned, .pinned], laidTests := true, laidLooks := .later }
def DeclShownCardSaid : Prop := Claim7.holds Tryd.pinned (.plain (OpenSpec.ofChange declShownSpec)) declShownCard

/-- THE TIED CARD OF 'clerestorykeep2.DeclSpoils'. -/
def declSpoilsCard : Claim7 := { stood := { row := declSpoilsRow, standIns := [], harness := (true, "632d4512edd2373fe8bc7609603ad87081fb236b5093df83ffc85712271e5fd8"), looks := false }, kinds := [], alts := [], laidByText := true, laidKinds := [.data, .data, .data, .pinned, .pinned], laidTests := true, laidLooks := .later }
def DeclSpoilsCardSaid : Prop := Claim7.holds Tryd.pinned (.plain (OpenSpec.ofChange declSpoilsSpec)) declSpoilsCard

/-- THE TIED CARD OF 'clerestorykeep2.DeclImportant'. -/
def declImportantCard : Claim7 := { stood := { row := declImportantRow, standIns := [], harness := (true, "632d4512edd2373fe8bc7609603ad87081fb236b5093df83ffc85712271e5fd8"), looks := false }, kinds := [], alts := [], laidByText := true, laidKinds := [.data, .data, .data, .pinned, .pinned], laidTests := true, laidLooks := .later }
def DeclImportantCardSaid : Prop := Claim7.holds Tryd.pinned (.plain (OpenSpec.ofChange declImportantSpec)) declImportantCard

/-- THE SECOND FORM's CARD OF 'clerestorykeep2.TokenAlone'. -/
def tokenAloneUptoCard : Claim7 := { stood := { row := tokenAloneUptoRow, standIns := [], harness := (true, "632d4512edd2373fe8bc7609603ad87081fb236b5093df83ffc85712271e5fd8"), looks := false }, kinds := [], alts := [], laidByText := true, laidKinds := [.data, .pinned], laidTests := true, laidLooks := .later }
def TokenAloneUptoCardSaid : Prop := Claim7.holds Tryd.pinned (.plain (OpenSpec.upto tokenAloneSpec)) tokenAloneUptoCard

/-- THE SECOND FORM's CARD OF 'clerestorykeep2.TokenApart'. -/
def tokenApartUptoCard : Claim7 := { stood := { row := tokenApartUptoRow, standIns := [], harness := (true, "632d4512edd2373fe8bc7609603ad87081fb236b5093df83ffc85712271e5fd8"), looks := false }, kinds := [], alts := [], laidByText := true, laidKinds := [.data, .pinned], laidTests := true, laidLooks := .later }
def TokenApartUptoCardSaid : Prop := Claim7.holds Tryd.pinned (.plain (OpenSpec.upto tokenApartSpec)) tokenApartUptoCard

/-- THE SECOND FORM's CARD OF 'clerestorykeep2.TokenAll'. -/
def tokenAllUptoCard : Claim7 := { stood := { row := tokenAllUptoRow, standIns := [], harness := (true, "632d4512edd2373fe8bc7609603ad87081fb236b5093df83ffc85712271e5fd8"), looks := false }, kinds := [], alts := [], laidByText := true, laidKinds := [.data, .pinned], laidTests := true, laidLooks := .later }
def TokenAllUptoCardSaid : Prop := Claim7.holds Tryd.pinned (.plain (OpenSpec.upto tokenAllSpec)) tokenAllUptoCard

/-- THE SECOND FORM's CARD OF 'clerestorykeep2.DimMore'. -/
def dimMoreUptoCard : Claim7 := { stood := { row := dimMoreUptoRow, standIns := [], harness := (true, "632d4512edd2373fe8bc7609603ad87081fb236b5093df83ffc85712271e5fd8"), looks := false }, kinds := [], alts := [], laidByText := true, laidKinds := [.data, .widerDeep, .pinned], laidTests := true, laidLooks := .later }
def DimMoreUptoCardSaid : Prop := Claim7.holds Tryd.pinned (.plain (OpenSpec.upto dimMoreSpec)) dimMoreUptoCard

/-- THE SECOND FORM's CARD OF 'clerestorykeep2.DimWhole'. -/
def dimWholeUptoCard : Claim7 := { stood := { row := dimWholeUptoRow, standIns := [], harness := (true, "632d4512edd2373fe8bc7609603ad87081fb236b5093df83ffc85712271e5fd8"), looks := false }, kinds := [], alts := [], laidByText := true, laidKinds := [.data, .widerDeep, .pinned], laidTests := true, laidLooks := .later }
def DimWholeUptoCardSaid : Prop := Claim7.holds Tryd.pinned (.plain (OpenSpec.upto dimWholeSpec)) dimWholeUptoCard

/-- THE SECOND FORM's CARD OF 'clerestorykeep2.CountNext'. -/
def countNextUptoCard : Claim7 := { stood := { row := countNextUptoRow, standIns := [], harness := (true, "632d4512edd2373fe8bc7609603ad87081fb236b5093df83ffc85712271e5fd8"), looks := false }, kinds := [], alts := [], laidByText := true, laidKinds := [.data, .data, .data, .data, .pinned, .pinned], laidTests := true, laidLooks := .later }
def CountNextUptoCardSaid : Prop := Claim7.holds Tryd.pinned (.plain (OpenSpec.upto countNextSpec)) countNextUptoCard

/-- THE SECOND FORM's CARD OF 'clerestorykeep2.VarPlain'. -/
def varPlainUptoCard : Claim7 := { stood := { row := varPlainUptoRow, standIns := [], harness := (true, "632d4512edd2373fe8bc7609603ad87081fb236b5093df83ffc85712271e5fd8"), looks := false }, kinds := [], alts := [], laidByText := true, laidKinds := [.data, .data, .data, .pinned, .pinned], laidTests := true, laidLooks := .later }
def VarPlainUptoCardSaid : Prop := Claim7.holds Tryd.pinned (.plain (OpenSpec.upto varPlainSpec)) varPlainUptoCard

/-- THE SECOND FORM's CARD OF 'clerestorykeep2.DimBack'. -/
def dimBackUptoCard : Claim7 := { stood := { row := dimBackUptoRow, standIns := [], harness := (true, "632d4512edd2373fe8bc7609603ad87081fb236b5093df83ffc85712271e5fd8"), looks := false }, kinds := [], alts := [], laidByText := true, laidKinds := [.data, .data, .data, .data, .widerDeep, .pinned], laidTests := true, laidLooks := .later }
def DimBackUptoCardSaid : Prop := Claim7.holds Tryd.pinned (.plain (OpenSpec.upto dimBackSpec)) dimBackUptoCard

/-- THE SECOND FORM's CARD OF 'clerestorykeep2.RuleLarge'. -/
def ruleLargeUptoCard : Claim7 := { stood := { row := ruleLargeUptoRow, standIns := [], harness := (true, "632d4512edd2373fe8bc7609603ad87081fb236b5093df83ffc85712271e5fd8"), looks := false }, kinds := [], alts := [], laidByText := true, laidKinds := [.data, .data, .data, .pinned, .pinned], laidTests := true, laidLooks := .later }
def RuleLargeUptoCardSaid : Prop := Claim7.holds Tryd.pinned (.plain (OpenSpec.upto ruleLargeSpec)) ruleLargeUptoCard

/-- THE SECOND FORM's CARD OF 'clerestorykeep2.DeclShown'. -/
def declShownUptoCard : Claim7 := { stood := { row := declShownUptoRow, standIns := [], harness := (true, "632d4512edd2373fe8bc7609603ad87081fb236b5093df83ffc85712271e5fd8"), looks := false }, kinds := [], alts := [], laidByText := true, laidKinds := [.data, .data, .data, .pinned, .pinned], laidTests := true, laidLooks := .later }
def DeclShownUptoCardSaid : Prop := Claim7.holds Tryd.pinned (.plain (OpenSpec.upto declShownSpec)) declShownUptoCard

/-- THE SECOND FORM's CARD OF 'clerestorykeep2.DeclSpoils'. -/
def declSpoilsUptoCard : Claim7 := { stood := { row := declSpoilsUptoRow, standIns := [], harness := (true, "632d4512edd2373fe8bc7609603ad87081fb236b5093df83ffc85712271e5fd8"), looks := false }, kinds := [], alts := [], laidByText := true, laidKinds := [.data, .data, .data, .pinned, .pinned], laidTests := true, laidLooks := .later }
def DeclSpoilsUptoCardSaid : Prop := Claim7.holds Tryd.pinned (.plain (OpenSpec.upto declSpoilsSpec)) declSpoilsUptoCard

/-- THE SECOND FORM's CARD OF 'clerestorykeep2.DeclImportant'. -/
def declImportantUptoCard : Claim7 := { stood := { row := declImportantUptoRow, standIns := [], harness := (true, "632d4512edd2373fe8bc7609603ad87081fb236b5093df83ffc85712271e5fd8"), looks := false }, kinds := [], alts := [], laidByText := true, laidKinds := [.data, .data, .data, .pinned, .pinned], laidTests := true, laidLooks := .later }
def DeclImportantUptoCardSaid : Prop := Claim7.holds Tryd.pinned (.plain (OpenSpec.upto declImportantSpec)) declImportantUptoCard
end Rows
end Go.Proofs.YtphdmdncboegjaaDoor
