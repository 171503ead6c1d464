/-
  DERIVED. GIVEN WITH THE SEED: THE CARDS: each row of YtmjbaimccbkmpaaDoorRows.lean that lists a variable, with what it lists TIED to the program's text (the seventh form; the later family's looks); each row that meets fmt, with fmt's text TOLD by the authors' own Lean function (tested against real Go, not proved from fmt's source: count such statements apart). THE CARD IS WHAT COUNTS. Prove the row's statement (the work); the ties are given (YtmjbaimccbkmpaaDoorTie.lean); close each card by the builder's one call (the guide's Derived/Test/ToyasCard.lean, 'card_holds'). Laid BY PROGRAM, IN A SANDBOX (cutbox-door.mjs). By AI agents, Wed Nov 11 2026. No macro, syntax, notation, axiom, sorry.
-/
import Derived.Test.YtmjbaimccbkmpaaDoorRows
import GoSem.ClaimSeven
namespace Go.Proofs.YtmjbaimccbkmpaaDoor
namespace Rows

/-- THE TIED CARD OF 'clerestorykeep2.VarPlain'. -/
def varPlainCard : Claim7 := { stood := { row := varPlainRow, standIns := [], harness := (true, "c109851b288c45c4c478b7fab99143f90f7d8764e3902925f6d2637cb7e0ff6c"), looks := false }, kinds := [], alts := [], laidByText := true, laidKinds := [.data, .data, .data, .pinned, .pinned], laidTests := true, laidLooks := .later }
def VarPlainCardSaid : Prop := Claim7.holds Tryd.pinned (.plain (OpenSpec.ofChange varPlainSpec)) varPlainCard

/-- THE TIED CARD OF 'clerestorykeep2.VarAgain'. -/
def varAgainCard : Claim7 := { stood := { row := varAgainRow, standIns := [], harness := (true, "c109851b288c45c4c478b7fab99143f90f7d8764e3902925f6d2637cb7e0ff6c"), looks := false }, kinds := [], alts := [], laidByText := true, laidKinds := [.data, .data, .data, .pinned, .pinned], laidTests := true, laidLooks := .later }
def VarAgainCardSaid : Prop := Claim7.holds Tryd.pinned (.plain (OpenSpec.ofChange varAgainSpec)) varAgainCard

/-- THE TIED CARD OF 'clerestorykeep2.VarRing'. -/
def varRingCard : Claim7 := { stood := { row := varRingRow, standIns := [], harness := (true, "c109851b288c45c4c478b7fab99143f90f7d8764e3902925f6d2637cb7e0ff6c"), looks := false }, kinds := [], alts := [], laidByText := true, laidKinds := [.data, .data, .data, .pinned, .pinned], laidTests := true, laidLooks := .later }
def VarRingCardSaid : Prop := Claim7.holds Tryd.pinned (.plain (OpenSpec.ofChange varRingSpec)) varRingCard

/-- THE TIED CARD OF 'clerestorykeep2.VarTurned'. -/
def varTurnedCard : Claim7 := { stood := { row := varTurnedRow, standIns := [], harness := (true, "c109851b288c45c4c478b7fab99143f90f7d8764e3902925f6d2637cb7e0ff6c"), looks := false }, kinds := [], alts := [], laidByText := true, laidKinds := [.data, .data, .data, .pinned, .pinned], laidTests := true, laidLooks := .later }
def VarTurnedCardSaid : Prop := Claim7.holds Tryd.pinned (.plain (OpenSpec.ofChange varTurnedSpec)) varTurnedCard

/-- THE SECOND FORM's CARD OF 'clerestorykeep2.VarPlain'. -/
def varPlainUptoCard : Claim7 := { stood := { row := varPlainUptoRow, standIns := [], harness := (true, "c109851b288c45c4c478b7fab99143f90f7d8764e3902925f6d2637cb7e0ff6c"), looks := false }, kinds := [], alts := [], laidByText := true, laidKinds := [.data, .data, .data, .pinned, .pinned], laidTests := true, laidLooks := .later }
def VarPlainUptoCardSaid : Prop := Claim7.holds Tryd.pinned (.plain (OpenSpec.upto varPlainSpec)) varPlainUptoCard

/-- THE SECOND FORM's CARD OF 'clerestorykeep2.VarAgain'. -/
def varAgainUptoCard : Claim7 := { stood := { row := varAgainUptoRow, standIns := [], harness := (true, "c109851b288c45c4c478b7fab99143f90f7d8764e3902925f6d2637cb7e0ff6c"), looks := false }, kinds := [], alts := [], laidByText := true, laidKinds := [.data, .data, .data, .pinned, .pinned], laidTests := true, laidLooks := .later }
def VarAgainUptoCardSaid : Prop := Claim7.holds Tryd.pinned (.plain (OpenSpec.upto varAgainSpec)) varAgainUptoCard

/-- THE SECOND FORM's CARD OF 'clerestorykeep2.VarRing'. -/
def varRingUptoCard : Claim7 := { stood := { row := varRingUptoRow, standIns := [], harness := (true, "c109851b288c45c4c478b7fab99143f90f7d8764e3902925f6d2637cb7e0ff6c"), looks := false }, kinds := [], alts := [], laidByText := true, laidKinds := [.data, .data, .data, .pinned, .pinned], laidTests := true, laidLooks := .later }
def VarRingUptoCardSaid : Prop := Claim7.holds Tryd.pinned (.plain (OpenSpec.upto varRingSpec)) varRingUptoCard

/-- THE SECOND FORM's CARD OF 'clerestorykeep2.VarTurned'. -/
def varTurnedUptoCard : Claim7 := { stood := { row := varTurnedUptoRow, standIns := [], harness := (true, "c109851b288c45c4c478b7fab99143f90f7d8764e3902925f6d2637cb7e0ff6c"), looks := false }, kinds := [], alts := [], laidByText := true, laidKinds := [.data, .data, .data, .pinned, .pinned], laidTests := true, laidLooks := .later }
def VarTurnedUptoCardSaid : Prop := Claim7.holds Tryd.pinned (.plain (OpenSpec.upto varTurnedSpec)) varTurnedUptoCard
end Rows
end Go.Proofs.YtmjbaimccbkmpaaDoor
