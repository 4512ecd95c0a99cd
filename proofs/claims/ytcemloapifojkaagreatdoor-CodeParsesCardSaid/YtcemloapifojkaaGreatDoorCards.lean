/-
  DERIVED. GIVEN WITH THE SEED: THE CARDS: each row of YtcemloapifojkaaGreatDoorRows.lean that lists a variable, with what it lists TIED to the program's text (the seventh form; the later family's looks); each row that meets fmt, with fmt's text TOLD by the authors' own Lean function (tested against real Go, not proved from fmt's source: count such statements apart). THE CARD IS WHAT COUNTS. Prove the row's statement (the work); the ties are given (YtcemloapifojkaaGreatDoorTie.lean); close each card by the builder's one call (the guide's Derived/Test/ToyasCard.lean, 'card_holds'). Laid BY PROGRAM, IN A SANDBOX (cutbox-door.mjs). By AI agents, Wed Nov 11 2026. No macro, syntax, notation, axiom, sorry.
-/
import Derived.Test.YtcemloapifojkaaGreatDoorRows
import GoSem.ClaimSeven
namespace Go.Proofs.YtcemloapifojkaaGreatDoor
namespace Rows

/-- THE TIED CARD OF 'biremelaw07.CodeTexts'. -/
def codeTextsCard : Claim7 := { stood := { row := codeTextsRow, standIns := [], harness := (true, "fc7a975ed5d99debf9bfda7c20ce800eb452db8523d0923c40340634cdd98e8a"), looks := true }, kinds := [], alts := [], laidByText := true, laidKinds := [.data, .data, .data, .data, .sentinel, .sentinel, .widerDeep, .data, .pinned], laidTests := true, laidLooks := .later }
def CodeTextsCardSaid : Prop := Claim7.holds Tryz.pinned (.plain (OpenSpec.ofChange codeTextsSpec)) codeTextsCard

/-- THE TIED CARD OF 'biremelaw07.CodeParses'. -/
def codeParsesCard : Claim7 := { stood := { row := codeParsesRow, standIns := [], harness := (true, "fc7a975ed5d99debf9bfda7c20ce800eb452db8523d0923c40340634cdd98e8a"), looks := true }, kinds := [], alts := [], laidByText := true, laidKinds := [.data, .data, .data, .data, .sentinel, .sentinel, .widerDeep, .data, .pinned], laidTests := true, laidLooks := .later }
def CodeParsesCardSaid : Prop := Claim7.holds Tryz.pinned (.plain (OpenSpec.ofChange codeParsesSpec)) codeParsesCard

/-- THE TIED CARD OF 'biremelaw07.CodeChecks'. -/
def codeChecksCard : Claim7 := { stood := { row := codeChecksRow, standIns := [], harness := (true, "fc7a975ed5d99debf9bfda7c20ce800eb452db8523d0923c40340634cdd98e8a"), looks := true }, kinds := [], alts := [], laidByText := true, laidKinds := [.data, .data, .data, .data, .sentinel, .sentinel, .widerDeep, .data, .pinned], laidTests := true, laidLooks := .later }
def CodeChecksCardSaid : Prop := Claim7.holds Tryz.pinned (.plain (OpenSpec.ofChange codeChecksSpec)) codeChecksCard

/-- THE TIED CARD OF 'biremelaw07.CodeTells'. -/
def codeTellsCard : Claim7 := { stood := { row := codeTellsRow, standIns := [], harness := (true, "fc7a975ed5d99debf9bfda7c20ce800eb452db8523d0923c40340634cdd98e8a"), looks := true }, kinds := [], alts := [], laidByText := true, laidKinds := [.data, .data, .data, .data, .sentinel, .sentinel, .widerDeep, .data, .pinned], laidTests := true, laidLooks := .later }
def CodeTellsCardSaid : Prop := Claim7.holds Tryz.pinned (.plain (OpenSpec.ofChange codeTellsSpec)) codeTellsCard

/-- THE TIED CARD OF 'biremelaw07.CodeMoved'. -/
def codeMovedCard : Claim7 := { stood := { row := codeMovedRow, standIns := [], harness := (true, "fc7a975ed5d99debf9bfda7c20ce800eb452db8523d0923c40340634cdd98e8a"), looks := true }, kinds := [], alts := [], laidByText := true, laidKinds := [.data, .data, .data, .data, .sentinel, .sentinel, .widerDeep, .data, .pinned], laidTests := true, laidLooks := .later }
def CodeMovedCardSaid : Prop := Claim7.holds Tryz.pinned (.plain (OpenSpec.ofChange codeMovedSpec)) codeMovedCard

/-- THE TIED CARD OF 'biremelaw07.CodePoisons'. -/
def codePoisonsCard : Claim7 := { stood := { row := codePoisonsRow, standIns := [], harness := (true, "fc7a975ed5d99debf9bfda7c20ce800eb452db8523d0923c40340634cdd98e8a"), looks := true }, kinds := [], alts := [], laidByText := true, laidKinds := [.data, .data, .data, .data, .sentinel, .sentinel, .widerDeep, .data, .pinned], laidTests := true, laidLooks := .later }
def CodePoisonsCardSaid : Prop := Claim7.holds Tryz.pinned (.plain (OpenSpec.ofChange codePoisonsSpec)) codePoisonsCard

/-- THE SECOND FORM's CARD OF 'biremelaw07.CodeTexts'. -/
def codeTextsUptoCard : Claim7 := { stood := { row := codeTextsUptoRow, standIns := [], harness := (true, "fc7a975ed5d99debf9bfda7c20ce800eb452db8523d0923c40340634cdd98e8a"), looks := true }, kinds := [], alts := [], laidByText := true, laidKinds := [.data, .data, .data, .data, .sentinel, .sentinel, .widerDeep, .data, .pinned], laidTests := true, laidLooks := .later }
def CodeTextsUptoCardSaid : Prop := Claim7.holds Tryz.pinned (.plain (OpenSpec.upto codeTextsSpec)) codeTextsUptoCard

/-- THE SECOND FORM's CARD OF 'biremelaw07.CodeParses'. -/
def codeParsesUptoCard : Claim7 := { stood := { row := codeParsesUptoRow, standIns := [], harness := (true, "fc7a975ed5d99debf9bfda7c20ce800eb452db8523d0923c40340634cdd98e8a"), looks := true }, kinds := [], alts := [], laidByText := true, laidKinds := [.data, .data, .data, .data, .sentinel, .sentinel, .widerDeep, .data, .pinned], laidTests := true, laidLooks := .later }
def CodeParsesUptoCardSaid : Prop := Claim7.holds Tryz.pinned (.plain (OpenSpec.upto codeParsesSpec)) codeParsesUptoCard

/-- THE SECOND FORM's CARD OF 'biremelaw07.CodeChecks'. -/
def codeChecksUptoCard : Claim7 := { stood := { row := codeChecksUptoRow, standIns := [], harness := (true, "fc7a975ed5d99debf9bfda7c20ce800eb452db8523d0923c40340634cdd98e8a"), looks := true }, kinds := [], alts := [], laidByText := true, laidKinds := [.data, .data, .data, .data, .sentinel, .sentinel, .widerDeep, .data, .pinned], laidTests := true, laidLooks := .later }
def CodeChecksUptoCardSaid : Prop := Claim7.holds Tryz.pinned (.plain (OpenSpec.upto codeChecksSpec)) codeChecksUptoCard

/-- THE SECOND FORM's CARD OF 'biremelaw07.CodeTells'. -/
def codeTellsUptoCard : Claim7 := { stood := { row := codeTellsUptoRow, standIns := [], harness := (true, "fc7a975ed5d99debf9bfda7c20ce800eb452db8523d0923c40340634cdd98e8a"), looks := true }, kinds := [], alts := [], laidByText := true, laidKinds := [.data, .data, .data, .data, .sentinel, .sentinel, .widerDeep, .data, .pinned], laidTests := true, laidLooks := .later }
def CodeTellsUptoCardSaid : Prop := Claim7.holds Tryz.pinned (.plain (OpenSpec.upto codeTellsSpec)) codeTellsUptoCard

/-- THE SECOND FORM's CARD OF 'biremelaw07.CodeMoved'. -/
def codeMovedUptoCard : Claim7 := { stood := { row := codeMovedUptoRow, standIns := [], harness := (true, "fc7a975ed5d99debf9bfda7c20ce800eb452db8523d0923c40340634cdd98e8a"), looks := true }, kinds := [], alts := [], laidByText := true, laidKinds := [.data, .data, .data, .data, .sentinel, .sentinel, .widerDeep, .data, .pinned], laidTests := true, laidLooks := .later }
def CodeMovedUptoCardSaid : Prop := Claim7.holds Tryz.pinned (.plain (OpenSpec.upto codeMovedSpec)) codeMovedUptoCard

/-- THE SECOND FORM's CARD OF 'biremelaw07.CodePoisons'. -/
def codePoisonsUptoCard : Claim7 := { stood := { row := codePoisonsUptoRow, standIns := [], harness := (true, "fc7a975ed5d99debf9bfda7c20ce800eb452db8523d0923c40340634cdd98e8a"), looks := true }, kinds := [], alts := [], laidByText := true, laidKinds := [.data, .data, .data, .data, .sentinel, .sentinel, .widerDeep, .data, .pinned], laidTests := true, laidLooks := .later }
def CodePoisonsUptoCardSaid : Prop := Claim7.holds Tryz.pinned (.plain (OpenSpec.upto codePoisonsSpec)) codePoisonsUptoCard
end Rows
end Go.Proofs.YtcemloapifojkaaGreatDoor
