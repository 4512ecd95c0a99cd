/-
  DERIVED. GIVEN WITH THE SEED: THE CARDS: each row of YtcemloapifojkaaDoorRows.lean that lists a variable, with what it lists TIED to the program's text (the seventh form; the later family's looks); each row that meets fmt, with fmt's text TOLD by the authors' own Lean function (tested against real Go, not proved from fmt's source: count such statements apart). THE CARD IS WHAT COUNTS. Prove the row's statement (the work); the ties are given (YtcemloapifojkaaDoorTie.lean); close each card by the builder's one call (the guide's Derived/Test/ToyasCard.lean, 'card_holds'). Laid BY PROGRAM, IN A SANDBOX (cutbox-door.mjs). By AI agents, Wed Nov 11 2026. No macro, syntax, notation, axiom, sorry.
-/
import Derived.Test.YtcemloapifojkaaDoorRows
import GoSem.ClaimSeven
namespace Go.Proofs.YtcemloapifojkaaDoor
namespace Rows

/-- THE TIED CARD OF 'biremelaw07.CodeBack'. -/
def codeBackCard : Claim7 := { stood := { row := codeBackRow, standIns := [], harness := (true, "cbd91162a229fb1ceb56ebdcb5bd26cb0149e359720df6f0df8ff3c55f632fa9"), looks := true }, kinds := [], alts := [], laidByText := true, laidKinds := [.data, .data, .data, .data, .sentinel, .sentinel, .widerDeep, .data, .pinned], laidTests := true, laidLooks := .later }
def CodeBackCardSaid : Prop := Claim7.holds Tryd.pinned (.plain (OpenSpec.ofChange codeBackSpec)) codeBackCard

/-- THE TIED CARD OF 'biremelaw07.CodeString'. -/
def codeStringCard : Claim7 := { stood := { row := codeStringRow, standIns := [], harness := (true, "cbd91162a229fb1ceb56ebdcb5bd26cb0149e359720df6f0df8ff3c55f632fa9"), looks := true }, kinds := [], alts := [], laidByText := true, laidKinds := [.data, .data, .data, .data, .sentinel, .sentinel, .widerDeep, .data, .pinned], laidTests := true, laidLooks := .later }
def CodeStringCardSaid : Prop := Claim7.holds Tryd.pinned (.plain (OpenSpec.ofChange codeStringSpec)) codeStringCard

/-- THE TIED CARD OF 'biremelaw07.CodeSame'. -/
def codeSameCard : Claim7 := { stood := { row := codeSameRow, standIns := [], harness := (true, "cbd91162a229fb1ceb56ebdcb5bd26cb0149e359720df6f0df8ff3c55f632fa9"), looks := true }, kinds := [], alts := [], laidByText := true, laidKinds := [.data, .data, .data, .data, .sentinel, .sentinel, .widerDeep, .data, .pinned], laidTests := true, laidLooks := .later }
def CodeSameCardSaid : Prop := Claim7.holds Tryd.pinned (.plain (OpenSpec.ofChange codeSameSpec)) codeSameCard

/-- THE TIED CARD OF 'biremelaw07.CodeFewer'. -/
def codeFewerCard : Claim7 := { stood := { row := codeFewerRow, standIns := [], harness := (true, "cbd91162a229fb1ceb56ebdcb5bd26cb0149e359720df6f0df8ff3c55f632fa9"), looks := true }, kinds := [], alts := [], laidByText := true, laidKinds := [.data, .data, .data, .data, .sentinel, .sentinel, .widerDeep, .data, .pinned], laidTests := true, laidLooks := .later }
def CodeFewerCardSaid : Prop := Claim7.holds Tryd.pinned (.plain (OpenSpec.ofChange codeFewerSpec)) codeFewerCard

/-- THE TIED CARD OF 'biremelaw07.CodePoison'. -/
def codePoisonCard : Claim7 := { stood := { row := codePoisonRow, standIns := [], harness := (true, "cbd91162a229fb1ceb56ebdcb5bd26cb0149e359720df6f0df8ff3c55f632fa9"), looks := true }, kinds := [], alts := [], laidByText := true, laidKinds := [.data, .data, .data, .data, .sentinel, .sentinel, .widerDeep, .data, .pinned], laidTests := true, laidLooks := .later }
def CodePoisonCardSaid : Prop := Claim7.holds Tryd.pinned (.plain (OpenSpec.ofChange codePoisonSpec)) codePoisonCard

/-- THE SECOND FORM's CARD OF 'biremelaw07.CodeBack'. -/
def codeBackUptoCard : Claim7 := { stood := { row := codeBackUptoRow, standIns := [], harness := (true, "cbd91162a229fb1ceb56ebdcb5bd26cb0149e359720df6f0df8ff3c55f632fa9"), looks := true }, kinds := [], alts := [], laidByText := true, laidKinds := [.data, .data, .data, .data, .sentinel, .sentinel, .widerDeep, .data, .pinned], laidTests := true, laidLooks := .later }
def CodeBackUptoCardSaid : Prop := Claim7.holds Tryd.pinned (.plain (OpenSpec.upto codeBackSpec)) codeBackUptoCard

/-- THE SECOND FORM's CARD OF 'biremelaw07.CodeString'. -/
def codeStringUptoCard : Claim7 := { stood := { row := codeStringUptoRow, standIns := [], harness := (true, "cbd91162a229fb1ceb56ebdcb5bd26cb0149e359720df6f0df8ff3c55f632fa9"), looks := true }, kinds := [], alts := [], laidByText := true, laidKinds := [.data, .data, .data, .data, .sentinel, .sentinel, .widerDeep, .data, .pinned], laidTests := true, laidLooks := .later }
def CodeStringUptoCardSaid : Prop := Claim7.holds Tryd.pinned (.plain (OpenSpec.upto codeStringSpec)) codeStringUptoCard

/-- THE SECOND FORM's CARD OF 'biremelaw07.CodeSame'. -/
def codeSameUptoCard : Claim7 := { stood := { row := codeSameUptoRow, standIns := [], harness := (true, "cbd91162a229fb1ceb56ebdcb5bd26cb0149e359720df6f0df8ff3c55f632fa9"), looks := true }, kinds := [], alts := [], laidByText := true, laidKinds := [.data, .data, .data, .data, .sentinel, .sentinel, .widerDeep, .data, .pinned], laidTests := true, laidLooks := .later }
def CodeSameUptoCardSaid : Prop := Claim7.holds Tryd.pinned (.plain (OpenSpec.upto codeSameSpec)) codeSameUptoCard

/-- THE SECOND FORM's CARD OF 'biremelaw07.CodeFewer'. -/
def codeFewerUptoCard : Claim7 := { stood := { row := codeFewerUptoRow, standIns := [], harness := (true, "cbd91162a229fb1ceb56ebdcb5bd26cb0149e359720df6f0df8ff3c55f632fa9"), looks := true }, kinds := [], alts := [], laidByText := true, laidKinds := [.data, .data, .data, .data, .sentinel, .sentinel, .widerDeep, .data, .pinned], laidTests := true, laidLooks := .later }
def CodeFewerUptoCardSaid : Prop := Claim7.holds Tryd.pinned (.plain (OpenSpec.upto codeFewerSpec)) codeFewerUptoCard

/-- THE SECOND FORM's CARD OF 'biremelaw07.CodePoison'. -/
def codePoisonUptoCard : Claim7 := { stood := { row := codePoisonUptoRow, standIns := [], harness := (true, "cbd91162a229fb1ceb56ebdcb5bd26cb0149e359720df6f0df8ff3c55f632fa9"), looks := true }, kinds := [], alts := [], laidByText := true, laidKinds := [.data, .data, .data, .data, .sentinel, .sentinel, .widerDeep, .data, .pinned], laidTests := true, laidLooks := .later }
def CodePoisonUptoCardSaid : Prop := Claim7.holds Tryd.pinned (.plain (OpenSpec.upto codePoisonSpec)) codePoisonUptoCard
end Rows
end Go.Proofs.YtcemloapifojkaaDoor
