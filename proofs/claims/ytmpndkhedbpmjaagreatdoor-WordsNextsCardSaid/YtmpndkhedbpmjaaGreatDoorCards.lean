/-
  DERIVED. GIVEN WITH THE SEED: THE CARDS: each row of YtmpndkhedbpmjaaGreatDoorRows.lean that lists a variable, with what it lists TIED to the program's text (the seventh form; the later family's looks); each row that meets fmt, with fmt's text TOLD by the authors' own Lean function (tested against real Go, not proved from fmt's source: count such statements apart). THE CARD IS WHAT COUNTS. Prove the row's statement (the work); the ties are given (YtmpndkhedbpmjaaGreatDoorTie.lean); close each card by the builder's one call (the guide's Derived/Test/ToyasCard.lean, 'card_holds'). Laid BY PROGRAM, IN A SANDBOX (cutbox-door.mjs). By AI agents, Wed Nov 11 2026. No macro, syntax, notation, axiom, sorry.
-/
import Derived.Test.YtmpndkhedbpmjaaGreatDoorRows
import GoSem.ClaimSeven
namespace Go.Proofs.YtmpndkhedbpmjaaGreatDoor
namespace Rows

/-- THE TIED CARD OF 'biremelaw26.WordsNexts'. -/
def wordsNextsCard : Claim7 := { stood := { row := wordsNextsRow, standIns := [], harness := (true, "f2d92a6f581c11bc0a5869dc0900fd900ecdfcbca296dac161e3f5083f430105"), looks := true }, kinds := [], alts := [], laidByText := true, laidKinds := [.data, .data, .data, .data, .sentinel, .sentinel, .widerDeep, .pinned], laidTests := true, laidLooks := .later }
def WordsNextsCardSaid : Prop := Claim7.holds Tryz.pinned (.plain (OpenSpec.ofChange wordsNextsSpec)) wordsNextsCard

/-- THE TIED CARD OF 'biremelaw26.WordsBytes'. -/
def wordsBytesCard : Claim7 := { stood := { row := wordsBytesRow, standIns := [], harness := (true, "f2d92a6f581c11bc0a5869dc0900fd900ecdfcbca296dac161e3f5083f430105"), looks := true }, kinds := [], alts := [], laidByText := true, laidKinds := [.data, .data, .data, .data, .sentinel, .sentinel, .widerDeep, .pinned], laidTests := true, laidLooks := .later }
def WordsBytesCardSaid : Prop := Claim7.holds Tryz.pinned (.plain (OpenSpec.ofChange wordsBytesSpec)) wordsBytesCard

/-- THE TIED CARD OF 'biremelaw26.WordsTexts'. -/
def wordsTextsCard : Claim7 := { stood := { row := wordsTextsRow, standIns := [], harness := (true, "f2d92a6f581c11bc0a5869dc0900fd900ecdfcbca296dac161e3f5083f430105"), looks := true }, kinds := [], alts := [], laidByText := true, laidKinds := [.data, .data, .data, .data, .sentinel, .sentinel, .widerDeep, .pinned], laidTests := true, laidLooks := .later }
def WordsTextsCardSaid : Prop := Claim7.holds Tryz.pinned (.plain (OpenSpec.ofChange wordsTextsSpec)) wordsTextsCard

/-- THE TIED CARD OF 'biremelaw26.WordsSame'. -/
def wordsSameCard : Claim7 := { stood := { row := wordsSameRow, standIns := [], harness := (true, "f2d92a6f581c11bc0a5869dc0900fd900ecdfcbca296dac161e3f5083f430105"), looks := true }, kinds := [], alts := [], laidByText := true, laidKinds := [.data, .data, .data, .data, .sentinel, .sentinel, .widerDeep, .pinned], laidTests := true, laidLooks := .later }
def WordsSameCardSaid : Prop := Claim7.holds Tryz.pinned (.plain (OpenSpec.ofChange wordsSameSpec)) wordsSameCard

/-- THE TIED CARD OF 'biremelaw26.WordsBack'. -/
def wordsBackCard : Claim7 := { stood := { row := wordsBackRow, standIns := [], harness := (true, "f2d92a6f581c11bc0a5869dc0900fd900ecdfcbca296dac161e3f5083f430105"), looks := true }, kinds := [], alts := [], laidByText := true, laidKinds := [.data, .data, .data, .data, .sentinel, .sentinel, .widerDeep, .pinned], laidTests := true, laidLooks := .later }
def WordsBackCardSaid : Prop := Claim7.holds Tryz.pinned (.plain (OpenSpec.ofChange wordsBackSpec)) wordsBackCard

/-- THE TIED CARD OF 'biremelaw26.WordsChanged'. -/
def wordsChangedCard : Claim7 := { stood := { row := wordsChangedRow, standIns := [], harness := (true, "f2d92a6f581c11bc0a5869dc0900fd900ecdfcbca296dac161e3f5083f430105"), looks := true }, kinds := [], alts := [], laidByText := true, laidKinds := [.data, .data, .data, .data, .sentinel, .sentinel, .widerDeep, .pinned], laidTests := true, laidLooks := .later }
def WordsChangedCardSaid : Prop := Claim7.holds Tryz.pinned (.plain (OpenSpec.ofChange wordsChangedSpec)) wordsChangedCard

/-- THE TIED CARD OF 'biremelaw26.WordsChecks'. -/
def wordsChecksCard : Claim7 := { stood := { row := wordsChecksRow, standIns := [], harness := (true, "f2d92a6f581c11bc0a5869dc0900fd900ecdfcbca296dac161e3f5083f430105"), looks := true }, kinds := [], alts := [], laidByText := true, laidKinds := [.data, .data, .data, .data, .sentinel, .sentinel, .widerDeep, .pinned], laidTests := true, laidLooks := .later }
def WordsChecksCardSaid : Prop := Claim7.holds Tryz.pinned (.plain (OpenSpec.ofChange wordsChecksSpec)) wordsChecksCard

/-- THE SECOND FORM's CARD OF 'biremelaw26.WordsNexts'. -/
def wordsNextsUptoCard : Claim7 := { stood := { row := wordsNextsUptoRow, standIns := [], harness := (true, "f2d92a6f581c11bc0a5869dc0900fd900ecdfcbca296dac161e3f5083f430105"), looks := true }, kinds := [], alts := [], laidByText := true, laidKinds := [.data, .data, .data, .data, .sentinel, .sentinel, .widerDeep, .pinned], laidTests := true, laidLooks := .later }
def WordsNextsUptoCardSaid : Prop := Claim7.holds Tryz.pinned (.plain (OpenSpec.upto wordsNextsSpec)) wordsNextsUptoCard

/-- THE SECOND FORM's CARD OF 'biremelaw26.WordsBytes'. -/
def wordsBytesUptoCard : Claim7 := { stood := { row := wordsBytesUptoRow, standIns := [], harness := (true, "f2d92a6f581c11bc0a5869dc0900fd900ecdfcbca296dac161e3f5083f430105"), looks := true }, kinds := [], alts := [], laidByText := true, laidKinds := [.data, .data, .data, .data, .sentinel, .sentinel, .widerDeep, .pinned], laidTests := true, laidLooks := .later }
def WordsBytesUptoCardSaid : Prop := Claim7.holds Tryz.pinned (.plain (OpenSpec.upto wordsBytesSpec)) wordsBytesUptoCard

/-- THE SECOND FORM's CARD OF 'biremelaw26.WordsTexts'. -/
def wordsTextsUptoCard : Claim7 := { stood := { row := wordsTextsUptoRow, standIns := [], harness := (true, "f2d92a6f581c11bc0a5869dc0900fd900ecdfcbca296dac161e3f5083f430105"), looks := true }, kinds := [], alts := [], laidByText := true, laidKinds := [.data, .data, .data, .data, .sentinel, .sentinel, .widerDeep, .pinned], laidTests := true, laidLooks := .later }
def WordsTextsUptoCardSaid : Prop := Claim7.holds Tryz.pinned (.plain (OpenSpec.upto wordsTextsSpec)) wordsTextsUptoCard

/-- THE SECOND FORM's CARD OF 'biremelaw26.WordsSame'. -/
def wordsSameUptoCard : Claim7 := { stood := { row := wordsSameUptoRow, standIns := [], harness := (true, "f2d92a6f581c11bc0a5869dc0900fd900ecdfcbca296dac161e3f5083f430105"), looks := true }, kinds := [], alts := [], laidByText := true, laidKinds := [.data, .data, .data, .data, .sentinel, .sentinel, .widerDeep, .pinned], laidTests := true, laidLooks := .later }
def WordsSameUptoCardSaid : Prop := Claim7.holds Tryz.pinned (.plain (OpenSpec.upto wordsSameSpec)) wordsSameUptoCard

/-- THE SECOND FORM's CARD OF 'biremelaw26.WordsBack'. -/
def wordsBackUptoCard : Claim7 := { stood := { row := wordsBackUptoRow, standIns := [], harness := (true, "f2d92a6f581c11bc0a5869dc0900fd900ecdfcbca296dac161e3f5083f430105"), looks := true }, kinds := [], alts := [], laidByText := true, laidKinds := [.data, .data, .data, .data, .sentinel, .sentinel, .widerDeep, .pinned], laidTests := true, laidLooks := .later }
def WordsBackUptoCardSaid : Prop := Claim7.holds Tryz.pinned (.plain (OpenSpec.upto wordsBackSpec)) wordsBackUptoCard

/-- THE SECOND FORM's CARD OF 'biremelaw26.WordsChanged'. -/
def wordsChangedUptoCard : Claim7 := { stood := { row := wordsChangedUptoRow, standIns := [], harness := (true, "f2d92a6f581c11bc0a5869dc0900fd900ecdfcbca296dac161e3f5083f430105"), looks := true }, kinds := [], alts := [], laidByText := true, laidKinds := [.data, .data, .data, .data, .sentinel, .sentinel, .widerDeep, .pinned], laidTests := true, laidLooks := .later }
def WordsChangedUptoCardSaid : Prop := Claim7.holds Tryz.pinned (.plain (OpenSpec.upto wordsChangedSpec)) wordsChangedUptoCard

/-- THE SECOND FORM's CARD OF 'biremelaw26.WordsChecks'. -/
def wordsChecksUptoCard : Claim7 := { stood := { row := wordsChecksUptoRow, standIns := [], harness := (true, "f2d92a6f581c11bc0a5869dc0900fd900ecdfcbca296dac161e3f5083f430105"), looks := true }, kinds := [], alts := [], laidByText := true, laidKinds := [.data, .data, .data, .data, .sentinel, .sentinel, .widerDeep, .pinned], laidTests := true, laidLooks := .later }
def WordsChecksUptoCardSaid : Prop := Claim7.holds Tryz.pinned (.plain (OpenSpec.upto wordsChecksSpec)) wordsChecksUptoCard
end Rows
end Go.Proofs.YtmpndkhedbpmjaaGreatDoor
