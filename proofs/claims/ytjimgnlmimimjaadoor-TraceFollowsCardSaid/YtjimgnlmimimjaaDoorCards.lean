/-
  DERIVED. GIVEN WITH THE SEED: THE CARDS: each row of YtjimgnlmimimjaaDoorRows.lean that lists a variable, with what it lists TIED to the program's text (the seventh form; the later family's looks); each row that meets fmt, with fmt's text TOLD by the authors' own Lean function (tested against real Go, not proved from fmt's source: count such statements apart). THE CARD IS WHAT COUNTS. Prove the row's statement (the work); the ties are given (YtjimgnlmimimjaaDoorTie.lean); close each card by the builder's one call (the guide's Derived/Test/ToyasCard.lean, 'card_holds'). Laid BY PROGRAM, IN A SANDBOX (cutbox-door.mjs). By AI agents, Wed Nov 11 2026. No macro, syntax, notation, axiom, sorry.
-/
import Derived.Test.YtjimgnlmimimjaaDoorRows
import GoSem.ClaimSeven
namespace Go.Proofs.YtjimgnlmimimjaaDoor
namespace Rows

/-- THE TIED CARD OF 'biremelaw17.TraceExtends'. -/
def traceExtendsCard : Claim7 := { stood := { row := traceExtendsRow, standIns := [], harness := (true, "7bb8585f2d5ce98dfaeeba3ee109be273c26dc32a4b5704b4bf139770c60d45e"), looks := true }, kinds := [], alts := [], laidByText := true, laidKinds := [.widerDeep], laidTests := true, laidLooks := .later }
def TraceExtendsCardSaid : Prop := Claim7.holds Tryd.pinned (.plain (OpenSpec.ofChange traceExtendsSpec)) traceExtendsCard

/-- THE TIED CARD OF 'biremelaw17.TraceFollows'. -/
def traceFollowsCard : Claim7 := { stood := { row := traceFollowsRow, standIns := [], harness := (true, "7bb8585f2d5ce98dfaeeba3ee109be273c26dc32a4b5704b4bf139770c60d45e"), looks := true }, kinds := [], alts := [], laidByText := true, laidKinds := [.widerDeep], laidTests := true, laidLooks := .later }
def TraceFollowsCardSaid : Prop := Claim7.holds Tryd.pinned (.plain (OpenSpec.ofChange traceFollowsSpec)) traceFollowsCard

/-- THE TIED CARD OF 'biremelaw17.TraceUnrolls'. -/
def traceUnrollsCard : Claim7 := { stood := { row := traceUnrollsRow, standIns := [], harness := (true, "7bb8585f2d5ce98dfaeeba3ee109be273c26dc32a4b5704b4bf139770c60d45e"), looks := true }, kinds := [], alts := [], laidByText := true, laidKinds := [.widerDeep], laidTests := true, laidLooks := .later }
def TraceUnrollsCardSaid : Prop := Claim7.holds Tryd.pinned (.plain (OpenSpec.ofChange traceUnrollsSpec)) traceUnrollsCard

/-- THE TIED CARD OF 'biremelaw17.TraceAgain'. -/
def traceAgainCard : Claim7 := { stood := { row := traceAgainRow, standIns := [], harness := (true, "7bb8585f2d5ce98dfaeeba3ee109be273c26dc32a4b5704b4bf139770c60d45e"), looks := true }, kinds := [], alts := [], laidByText := true, laidKinds := [.widerDeep], laidTests := true, laidLooks := .later }
def TraceAgainCardSaid : Prop := Claim7.holds Tryd.pinned (.plain (OpenSpec.ofChange traceAgainSpec)) traceAgainCard

/-- THE TIED CARD OF 'biremelaw17.TraceLikely'. -/
def traceLikelyCard : Claim7 := { stood := { row := traceLikelyRow, standIns := [], harness := (true, "7bb8585f2d5ce98dfaeeba3ee109be273c26dc32a4b5704b4bf139770c60d45e"), looks := true }, kinds := [], alts := [], laidByText := true, laidKinds := [.widerDeep], laidTests := true, laidLooks := .later }
def TraceLikelyCardSaid : Prop := Claim7.holds Tryd.pinned (.plain (OpenSpec.ofChange traceLikelySpec)) traceLikelyCard

/-- THE TIED CARD OF 'biremelaw17.TraceForms'. -/
def traceFormsCard : Claim7 := { stood := { row := traceFormsRow, standIns := [], harness := (true, "7bb8585f2d5ce98dfaeeba3ee109be273c26dc32a4b5704b4bf139770c60d45e"), looks := true }, kinds := [], alts := [], laidByText := true, laidKinds := [.widerDeep], laidTests := true, laidLooks := .later }
def TraceFormsCardSaid : Prop := Claim7.holds Tryd.pinned (.plain (OpenSpec.ofChange traceFormsSpec)) traceFormsCard

/-- THE TIED CARD OF 'biremelaw17.TraceKeeps'. -/
def traceKeepsCard : Claim7 := { stood := { row := traceKeepsRow, standIns := [], harness := (true, "7bb8585f2d5ce98dfaeeba3ee109be273c26dc32a4b5704b4bf139770c60d45e"), looks := true }, kinds := [], alts := [], laidByText := true, laidKinds := [.widerDeep], laidTests := true, laidLooks := .later }
def TraceKeepsCardSaid : Prop := Claim7.holds Tryd.pinned (.plain (OpenSpec.ofChange traceKeepsSpec)) traceKeepsCard

/-- THE TIED CARD OF 'biremelaw17.TraceProfiles'. -/
def traceProfilesCard : Claim7 := { stood := { row := traceProfilesRow, standIns := [], harness := (true, "7bb8585f2d5ce98dfaeeba3ee109be273c26dc32a4b5704b4bf139770c60d45e"), looks := true }, kinds := [], alts := [], laidByText := true, laidKinds := [.widerDeep], laidTests := true, laidLooks := .later }
def TraceProfilesCardSaid : Prop := Claim7.holds Tryd.pinned (.plain (OpenSpec.ofChange traceProfilesSpec)) traceProfilesCard

/-- THE SECOND FORM's CARD OF 'biremelaw17.TraceExtends'. -/
def traceExtendsUptoCard : Claim7 := { stood := { row := traceExtendsUptoRow, standIns := [], harness := (true, "7bb8585f2d5ce98dfaeeba3ee109be273c26dc32a4b5704b4bf139770c60d45e"), looks := true }, kinds := [], alts := [], laidByText := true, laidKinds := [.widerDeep], laidTests := true, laidLooks := .later }
def TraceExtendsUptoCardSaid : Prop := Claim7.holds Tryd.pinned (.plain (OpenSpec.upto traceExtendsSpec)) traceExtendsUptoCard

/-- THE SECOND FORM's CARD OF 'biremelaw17.TraceFollows'. -/
def traceFollowsUptoCard : Claim7 := { stood := { row := traceFollowsUptoRow, standIns := [], harness := (true, "7bb8585f2d5ce98dfaeeba3ee109be273c26dc32a4b5704b4bf139770c60d45e"), looks := true }, kinds := [], alts := [], laidByText := true, laidKinds := [.widerDeep], laidTests := true, laidLooks := .later }
def TraceFollowsUptoCardSaid : Prop := Claim7.holds Tryd.pinned (.plain (OpenSpec.upto traceFollowsSpec)) traceFollowsUptoCard

/-- THE SECOND FORM's CARD OF 'biremelaw17.TraceUnrolls'. -/
def traceUnrollsUptoCard : Claim7 := { stood := { row := traceUnrollsUptoRow, standIns := [], harness := (true, "7bb8585f2d5ce98dfaeeba3ee109be273c26dc32a4b5704b4bf139770c60d45e"), looks := true }, kinds := [], alts := [], laidByText := true, laidKinds := [.widerDeep], laidTests := true, laidLooks := .later }
def TraceUnrollsUptoCardSaid : Prop := Claim7.holds Tryd.pinned (.plain (OpenSpec.upto traceUnrollsSpec)) traceUnrollsUptoCard

/-- THE SECOND FORM's CARD OF 'biremelaw17.TraceAgain'. -/
def traceAgainUptoCard : Claim7 := { stood := { row := traceAgainUptoRow, standIns := [], harness := (true, "7bb8585f2d5ce98dfaeeba3ee109be273c26dc32a4b5704b4bf139770c60d45e"), looks := true }, kinds := [], alts := [], laidByText := true, laidKinds := [.widerDeep], laidTests := true, laidLooks := .later }
def TraceAgainUptoCardSaid : Prop := Claim7.holds Tryd.pinned (.plain (OpenSpec.upto traceAgainSpec)) traceAgainUptoCard

/-- THE SECOND FORM's CARD OF 'biremelaw17.TraceLikely'. -/
def traceLikelyUptoCard : Claim7 := { stood := { row := traceLikelyUptoRow, standIns := [], harness := (true, "7bb8585f2d5ce98dfaeeba3ee109be273c26dc32a4b5704b4bf139770c60d45e"), looks := true }, kinds := [], alts := [], laidByText := true, laidKinds := [.widerDeep], laidTests := true, laidLooks := .later }
def TraceLikelyUptoCardSaid : Prop := Claim7.holds Tryd.pinned (.plain (OpenSpec.upto traceLikelySpec)) traceLikelyUptoCard

/-- THE SECOND FORM's CARD OF 'biremelaw17.TraceForms'. -/
def traceFormsUptoCard : Claim7 := { stood := { row := traceFormsUptoRow, standIns := [], harness := (true, "7bb8585f2d5ce98dfaeeba3ee109be273c26dc32a4b5704b4bf139770c60d45e"), looks := true }, kinds := [], alts := [], laidByText := true, laidKinds := [.widerDeep], laidTests := true, laidLooks := .later }
def TraceFormsUptoCardSaid : Prop := Claim7.holds Tryd.pinned (.plain (OpenSpec.upto traceFormsSpec)) traceFormsUptoCard

/-- THE SECOND FORM's CARD OF 'biremelaw17.TraceKeeps'. -/
def traceKeepsUptoCard : Claim7 := { stood := { row := traceKeepsUptoRow, standIns := [], harness := (true, "7bb8585f2d5ce98dfaeeba3ee109be273c26dc32a4b5704b4bf139770c60d45e"), looks := true }, kinds := [], alts := [], laidByText := true, laidKinds := [.widerDeep], laidTests := true, laidLooks := .later }
def TraceKeepsUptoCardSaid : Prop := Claim7.holds Tryd.pinned (.plain (OpenSpec.upto traceKeepsSpec)) traceKeepsUptoCard

/-- THE SECOND FORM's CARD OF 'biremelaw17.TraceProfiles'. -/
def traceProfilesUptoCard : Claim7 := { stood := { row := traceProfilesUptoRow, standIns := [], harness := (true, "7bb8585f2d5ce98dfaeeba3ee109be273c26dc32a4b5704b4bf139770c60d45e"), looks := true }, kinds := [], alts := [], laidByText := true, laidKinds := [.widerDeep], laidTests := true, laidLooks := .later }
def TraceProfilesUptoCardSaid : Prop := Claim7.holds Tryd.pinned (.plain (OpenSpec.upto traceProfilesSpec)) traceProfilesUptoCard
end Rows
end Go.Proofs.YtjimgnlmimimjaaDoor
