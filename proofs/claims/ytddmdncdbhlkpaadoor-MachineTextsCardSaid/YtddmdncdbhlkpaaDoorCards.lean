/-
  DERIVED. GIVEN WITH THE SEED: THE CARDS: each row of YtddmdncdbhlkpaaDoorRows.lean that lists a variable, with what it lists TIED to the program's text (the seventh form; the later family's looks); each row that meets fmt, with fmt's text TOLD by the authors' own Lean function (tested against real Go, not proved from fmt's source: count such statements apart). THE CARD IS WHAT COUNTS. Prove the row's statement (the work); the ties are given (YtddmdncdbhlkpaaDoorTie.lean); close each card by the builder's one call (the guide's Derived/Test/ToyasCard.lean, 'card_holds'). Laid BY PROGRAM, IN A SANDBOX (cutbox-door.mjs). By AI agents, Wed Nov 11 2026. No macro, syntax, notation, axiom, sorry.
-/
import Derived.Test.YtddmdncdbhlkpaaDoorRows
import GoSem.ClaimSeven
namespace Go.Proofs.YtddmdncdbhlkpaaDoor
namespace Rows

/-- THE TIED CARD OF 'biremelaw19.MachineTogether'. -/
def machineTogetherCard : Claim7 := { stood := { row := machineTogetherRow, standIns := [], harness := (true, "4cbed6d2a5bfe4364f590985540b19411abf4e4503027560dfd36d54f44cf404"), looks := true }, kinds := [], alts := [], laidByText := true, laidKinds := [.data, .data, .data, .data, .sentinel, .sentinel, .widerDeep, .pinned], laidTests := true, laidLooks := .later }
def MachineTogetherCardSaid : Prop := Claim7.holds Tryd.pinned (.plain (OpenSpec.ofChange machineTogetherSpec)) machineTogetherCard

/-- THE TIED CARD OF 'biremelaw19.MachineTexts'. -/
def machineTextsCard : Claim7 := { stood := { row := machineTextsRow, standIns := [], harness := (true, "4cbed6d2a5bfe4364f590985540b19411abf4e4503027560dfd36d54f44cf404"), looks := true }, kinds := [], alts := [], laidByText := true, laidKinds := [.data, .data, .data, .data, .sentinel, .sentinel, .widerDeep, .pinned], laidTests := true, laidLooks := .later }
def MachineTextsCardSaid : Prop := Claim7.holds Tryd.pinned (.plain (OpenSpec.ofChange machineTextsSpec)) machineTextsCard

/-- THE TIED CARD OF 'biremelaw19.MachineParts'. -/
def machinePartsCard : Claim7 := { stood := { row := machinePartsRow, standIns := [], harness := (true, "4cbed6d2a5bfe4364f590985540b19411abf4e4503027560dfd36d54f44cf404"), looks := true }, kinds := [], alts := [], laidByText := true, laidKinds := [.data, .data, .data, .data, .sentinel, .sentinel, .widerDeep, .pinned], laidTests := true, laidLooks := .later }
def MachinePartsCardSaid : Prop := Claim7.holds Tryd.pinned (.plain (OpenSpec.ofChange machinePartsSpec)) machinePartsCard

/-- THE TIED CARD OF 'biremelaw19.MachineMore'. -/
def machineMoreCard : Claim7 := { stood := { row := machineMoreRow, standIns := [], harness := (true, "4cbed6d2a5bfe4364f590985540b19411abf4e4503027560dfd36d54f44cf404"), looks := true }, kinds := [], alts := [], laidByText := true, laidKinds := [.data, .data, .data, .data, .sentinel, .sentinel, .widerDeep, .pinned], laidTests := true, laidLooks := .later }
def MachineMoreCardSaid : Prop := Claim7.holds Tryd.pinned (.plain (OpenSpec.ofChange machineMoreSpec)) machineMoreCard

/-- THE TIED CARD OF 'biremelaw19.MachineAlone'. -/
def machineAloneCard : Claim7 := { stood := { row := machineAloneRow, standIns := [], harness := (true, "4cbed6d2a5bfe4364f590985540b19411abf4e4503027560dfd36d54f44cf404"), looks := true }, kinds := [], alts := [], laidByText := true, laidKinds := [.data, .data, .data, .data, .sentinel, .sentinel, .widerDeep, .pinned], laidTests := true, laidLooks := .later }
def MachineAloneCardSaid : Prop := Claim7.holds Tryd.pinned (.plain (OpenSpec.ofChange machineAloneSpec)) machineAloneCard

/-- THE TIED CARD OF 'biremelaw19.MachineTells'. -/
def machineTellsCard : Claim7 := { stood := { row := machineTellsRow, standIns := [], harness := (true, "4cbed6d2a5bfe4364f590985540b19411abf4e4503027560dfd36d54f44cf404"), looks := true }, kinds := [], alts := [], laidByText := true, laidKinds := [.data, .data, .data, .data, .sentinel, .sentinel, .widerDeep, .pinned], laidTests := true, laidLooks := .later }
def MachineTellsCardSaid : Prop := Claim7.holds Tryd.pinned (.plain (OpenSpec.ofChange machineTellsSpec)) machineTellsCard

/-- THE SECOND FORM's CARD OF 'biremelaw19.MachineTogether'. -/
def machineTogetherUptoCard : Claim7 := { stood := { row := machineTogetherUptoRow, standIns := [], harness := (true, "4cbed6d2a5bfe4364f590985540b19411abf4e4503027560dfd36d54f44cf404"), looks := true }, kinds := [], alts := [], laidByText := true, laidKinds := [.data, .data, .data, .data, .sentinel, .sentinel, .widerDeep, .pinned], laidTests := true, laidLooks := .later }
def MachineTogetherUptoCardSaid : Prop := Claim7.holds Tryd.pinned (.plain (OpenSpec.upto machineTogetherSpec)) machineTogetherUptoCard

/-- THE SECOND FORM's CARD OF 'biremelaw19.MachineTexts'. -/
def machineTextsUptoCard : Claim7 := { stood := { row := machineTextsUptoRow, standIns := [], harness := (true, "4cbed6d2a5bfe4364f590985540b19411abf4e4503027560dfd36d54f44cf404"), looks := true }, kinds := [], alts := [], laidByText := true, laidKinds := [.data, .data, .data, .data, .sentinel, .sentinel, .widerDeep, .pinned], laidTests := true, laidLooks := .later }
def MachineTextsUptoCardSaid : Prop := Claim7.holds Tryd.pinned (.plain (OpenSpec.upto machineTextsSpec)) machineTextsUptoCard

/-- THE SECOND FORM's CARD OF 'biremelaw19.MachineParts'. -/
def machinePartsUptoCard : Claim7 := { stood := { row := machinePartsUptoRow, standIns := [], harness := (true, "4cbed6d2a5bfe4364f590985540b19411abf4e4503027560dfd36d54f44cf404"), looks := true }, kinds := [], alts := [], laidByText := true, laidKinds := [.data, .data, .data, .data, .sentinel, .sentinel, .widerDeep, .pinned], laidTests := true, laidLooks := .later }
def MachinePartsUptoCardSaid : Prop := Claim7.holds Tryd.pinned (.plain (OpenSpec.upto machinePartsSpec)) machinePartsUptoCard

/-- THE SECOND FORM's CARD OF 'biremelaw19.MachineMore'. -/
def machineMoreUptoCard : Claim7 := { stood := { row := machineMoreUptoRow, standIns := [], harness := (true, "4cbed6d2a5bfe4364f590985540b19411abf4e4503027560dfd36d54f44cf404"), looks := true }, kinds := [], alts := [], laidByText := true, laidKinds := [.data, .data, .data, .data, .sentinel, .sentinel, .widerDeep, .pinned], laidTests := true, laidLooks := .later }
def MachineMoreUptoCardSaid : Prop := Claim7.holds Tryd.pinned (.plain (OpenSpec.upto machineMoreSpec)) machineMoreUptoCard

/-- THE SECOND FORM's CARD OF 'biremelaw19.MachineAlone'. -/
def machineAloneUptoCard : Claim7 := { stood := { row := machineAloneUptoRow, standIns := [], harness := (true, "4cbed6d2a5bfe4364f590985540b19411abf4e4503027560dfd36d54f44cf404"), looks := true }, kinds := [], alts := [], laidByText := true, laidKinds := [.data, .data, .data, .data, .sentinel, .sentinel, .widerDeep, .pinned], laidTests := true, laidLooks := .later }
def MachineAloneUptoCardSaid : Prop := Claim7.holds Tryd.pinned (.plain (OpenSpec.upto machineAloneSpec)) machineAloneUptoCard

/-- THE SECOND FORM's CARD OF 'biremelaw19.MachineTells'. -/
def machineTellsUptoCard : Claim7 := { stood := { row := machineTellsUptoRow, standIns := [], harness := (true, "4cbed6d2a5bfe4364f590985540b19411abf4e4503027560dfd36d54f44cf404"), looks := true }, kinds := [], alts := [], laidByText := true, laidKinds := [.data, .data, .data, .data, .sentinel, .sentinel, .widerDeep, .pinned], laidTests := true, laidLooks := .later }
def MachineTellsUptoCardSaid : Prop := Claim7.holds Tryd.pinned (.plain (OpenSpec.upto machineTellsSpec)) machineTellsUptoCard
end Rows
end Go.Proofs.YtddmdncdbhlkpaaDoor
