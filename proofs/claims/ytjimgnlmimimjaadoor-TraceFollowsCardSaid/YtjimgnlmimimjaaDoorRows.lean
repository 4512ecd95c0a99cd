/-
  NARROWER THAN 'FOR EVERY INPUT', by the rows' own cells (each row's printed sentence says how): TraceExtends: laid · TraceFollows: laid · TraceUnrolls: laid · TraceAgain: laid · TraceLikely: laid · TraceForms: laid · TraceKeeps: laid · TraceProfiles: laid.
  DERIVED. THE GIVEN ROWS OF THIS SEAT. 8 by the template 'for every input the law returns true; each argument reads behind the call as it read before'; 0 by the template 'total and deterministic' (their statements: YtjimgnlmimimjaaDoorTotals.lean).
  GIVEN WITH THE SEED: the statements are not yours to turn. If you find one false, say at which input.
  Laid BY PROGRAM, IN A SANDBOX (cutbox-rows.mjs): the forced cells as the released guide's own fill.sh prints them over the translation 9cf97ed87bce326d… (all of the seat's roots in one cut). By AI agents, Wed Nov 11 2026. No macro, syntax, notation, axiom, sorry.
-/
import Derived.Test.YtjimgnlmimimjaaDoorChecked
import GoSem.Claim
import GoSem.ClaimJoined
import GoSem.ClaimMapViews
import Derived.JoinedTies
import Derived.KernelRfl
namespace Go.Proofs.YtjimgnlmimimjaaDoor
/- THE CELL 'sum', in the pinned program and in every row, IS THE sha256 OF THE DUMP (.gsa) THAT YtjimgnlmimimjaaDoorProg.lean LOADS. Nothing in Lean hashes anything: it is a label: what it is worth is what the hold of that sum in a sandbox is worth. -/
noncomputable def Tryd.pinned : Pinned := { name := "ytjimgnlmimimjaadoor", sum := "9cf97ed87bce326d9905c69fc9cb463ae5413d9fe9de63fce9bb4555d725dfd6", checked := Tryd.checked }
namespace Rows
def none {H : Type} : Left H := { results := [], args := [] }

/- WHAT THE LISTED PACKAGE-LEVEL VARIABLES READ AS WHEN THE CALL BEGINS. Each datum BY PROGRAM (the guide's laid-datum.mjs) off the statement by which the dump's own 'gosem.cut.vars' lays the variable. In a bare row this is a premise. The card (YtjimgnlmimimjaaDoorCards.lean) ties it to the program's text. -/
def laid_bireme_code_forms {H : Type} : DataW H := .agg [.agg [.lit (.int .i64 17), .lit (.int .i64 0), .lit (.string [99, 111, 110, 115, 116])], .agg [.lit (.int .i64 3), .lit (.int .i64 0), .lit (.string [109, 111, 118, 101])], .agg [.lit (.int .i64 7), .lit (.int .i64 0), .lit (.string [97, 100, 100])], .agg [.lit (.int .i64 7), .lit (.int .i64 0), .lit (.string [115, 117, 98])], .agg [.lit (.int .i64 7), .lit (.int .i64 0), .lit (.string [97, 110, 100])], .agg [.lit (.int .i64 7), .lit (.int .i64 0), .lit (.string [111, 114])], .agg [.lit (.int .i64 7), .lit (.int .i64 0), .lit (.string [120, 111, 114])], .agg [.lit (.int .i64 7), .lit (.int .i64 0), .lit (.string [115, 104, 108])], .agg [.lit (.int .i64 7), .lit (.int .i64 0), .lit (.string [115, 104, 114])], .agg [.lit (.int .i64 7), .lit (.int .i64 0), .lit (.string [108, 101, 115, 115])], .agg [.lit (.int .i64 7), .lit (.int .i64 0), .lit (.string [101, 113, 117, 97, 108])], .agg [.lit (.int .i64 15), .lit (.int .i64 0), .lit (.string [112, 105, 99, 107])], .agg [.lit (.int .i64 7), .lit (.int .i64 1), .lit (.string [109, 117, 108])], .agg [.lit (.int .i64 7), .lit (.int .i64 1), .lit (.string [100, 105, 118])], .agg [.lit (.int .i64 7), .lit (.int .i64 1), .lit (.string [114, 101, 109])], .agg [.lit (.int .i64 35), .lit (.int .i64 2), .lit (.string [108, 111, 97, 100])], .agg [.lit (.int .i64 38), .lit (.int .i64 2), .lit (.string [115, 116, 111, 114, 101])], .agg [.lit (.int .i64 65), .lit (.int .i64 2), .lit (.string [102, 101, 116, 99, 104])], .agg [.lit (.int .i64 66), .lit (.int .i64 2), .lit (.string [107, 101, 101, 112])], .agg [.lit (.int .i64 2), .lit (.int .i64 3), .lit (.string [112, 114, 105, 110, 116])], .agg [.lit (.int .i64 130), .lit (.int .i64 3), .lit (.string [101, 120, 105, 116])], .agg [.lit (.int .i64 2), .lit (.int .i64 3), .lit (.string [99, 104, 101, 99, 107])], .agg [.lit (.int .i64 7), .lit (.int .i64 1), .lit (.string [100, 105, 118, 115])], .agg [.lit (.int .i64 7), .lit (.int .i64 1), .lit (.string [114, 101, 109, 115])], .agg [.lit (.int .i64 35), .lit (.int .i64 2), .lit (.string [108, 111, 97, 100, 115])]]

/-- 'biremelaw17.TraceExtends': WHATEVER THE INPUT: true; the input reads as it did. -/
def traceExtendsSpec : ChangeSpec := { name := "traceExtends", fn := fun _ => fun
  | [d1, d2, d3] => { results := [.lit (.bool true)], args := [d1, d2, d3] }
  | _ => none }
def traceExtendsRow : OpenClaim := { program := "ytjimgnlmimimjaadoor", sum := "9cf97ed87bce326d9905c69fc9cb463ae5413d9fe9de63fce9bb4555d725dfd6", func := "bireme/biremelaw17.TraceExtends", spec := "traceExtends", unfollowed := true, recurses := true, named := ["bireme/code.forms"], apart := false, laid := [("bireme/code.forms", laid_bireme_code_forms)] }
def TraceExtendsSaid : Prop := traceExtendsRow.holds Tryd.pinned (OpenSpec.ofChange traceExtendsSpec)

/-- ITS FALSE NEIGHBOUR: 'it returns false'. Refute it at one input. -/
def traceExtendsWrong : ChangeSpec := { name := "traceExtends", fn := fun _ => fun
  | [d1, d2, d3] => { results := [.lit (.bool false)], args := [d1, d2, d3] }
  | _ => none }
def TraceExtendsWrongFalsely : Prop := traceExtendsRow.holds Tryd.pinned (OpenSpec.ofChange traceExtendsWrong)

/-- 'biremelaw17.TraceFollows': WHATEVER THE INPUT: true; the input reads as it did. -/
def traceFollowsSpec : ChangeSpec := { name := "traceFollows", fn := fun _ => fun
  | [d1, d2, d3, d4] => { results := [.lit (.bool true)], args := [d1, d2, d3, d4] }
  | _ => none }
def traceFollowsRow : OpenClaim := { program := "ytjimgnlmimimjaadoor", sum := "9cf97ed87bce326d9905c69fc9cb463ae5413d9fe9de63fce9bb4555d725dfd6", func := "bireme/biremelaw17.TraceFollows", spec := "traceFollows", unfollowed := true, recurses := true, named := ["bireme/code.forms"], apart := false, laid := [("bireme/code.forms", laid_bireme_code_forms)] }
def TraceFollowsSaid : Prop := traceFollowsRow.holds Tryd.pinned (OpenSpec.ofChange traceFollowsSpec)

/-- ITS FALSE NEIGHBOUR: 'it returns false'. Refute it at one input. -/
def traceFollowsWrong : ChangeSpec := { name := "traceFollows", fn := fun _ => fun
  | [d1, d2, d3, d4] => { results := [.lit (.bool false)], args := [d1, d2, d3, d4] }
  | _ => none }
def TraceFollowsWrongFalsely : Prop := traceFollowsRow.holds Tryd.pinned (OpenSpec.ofChange traceFollowsWrong)

/-- 'biremelaw17.TraceUnrolls': WHATEVER THE INPUT: true; the input reads as it did. -/
def traceUnrollsSpec : ChangeSpec := { name := "traceUnrolls", fn := fun _ => fun
  | [d1, d2, d3] => { results := [.lit (.bool true)], args := [d1, d2, d3] }
  | _ => none }
def traceUnrollsRow : OpenClaim := { program := "ytjimgnlmimimjaadoor", sum := "9cf97ed87bce326d9905c69fc9cb463ae5413d9fe9de63fce9bb4555d725dfd6", func := "bireme/biremelaw17.TraceUnrolls", spec := "traceUnrolls", unfollowed := true, recurses := true, named := ["bireme/code.forms"], apart := false, laid := [("bireme/code.forms", laid_bireme_code_forms)] }
def TraceUnrollsSaid : Prop := traceUnrollsRow.holds Tryd.pinned (OpenSpec.ofChange traceUnrollsSpec)

/-- ITS FALSE NEIGHBOUR: 'it returns false'. Refute it at one input. -/
def traceUnrollsWrong : ChangeSpec := { name := "traceUnrolls", fn := fun _ => fun
  | [d1, d2, d3] => { results := [.lit (.bool false)], args := [d1, d2, d3] }
  | _ => none }
def TraceUnrollsWrongFalsely : Prop := traceUnrollsRow.holds Tryd.pinned (OpenSpec.ofChange traceUnrollsWrong)

/-- 'biremelaw17.TraceAgain': WHATEVER THE INPUT: true; the input reads as it did. -/
def traceAgainSpec : ChangeSpec := { name := "traceAgain", fn := fun _ => fun
  | [d1, d2, d3] => { results := [.lit (.bool true)], args := [d1, d2, d3] }
  | _ => none }
def traceAgainRow : OpenClaim := { program := "ytjimgnlmimimjaadoor", sum := "9cf97ed87bce326d9905c69fc9cb463ae5413d9fe9de63fce9bb4555d725dfd6", func := "bireme/biremelaw17.TraceAgain", spec := "traceAgain", unfollowed := true, recurses := true, named := ["bireme/code.forms"], apart := false, laid := [("bireme/code.forms", laid_bireme_code_forms)] }
def TraceAgainSaid : Prop := traceAgainRow.holds Tryd.pinned (OpenSpec.ofChange traceAgainSpec)

/-- ITS FALSE NEIGHBOUR: 'it returns false'. Refute it at one input. -/
def traceAgainWrong : ChangeSpec := { name := "traceAgain", fn := fun _ => fun
  | [d1, d2, d3] => { results := [.lit (.bool false)], args := [d1, d2, d3] }
  | _ => none }
def TraceAgainWrongFalsely : Prop := traceAgainRow.holds Tryd.pinned (OpenSpec.ofChange traceAgainWrong)

/-- 'biremelaw17.TraceLikely': WHATEVER THE INPUT: true; the input reads as it did. -/
def traceLikelySpec : ChangeSpec := { name := "traceLikely", fn := fun _ => fun
  | [d1, d2, d3] => { results := [.lit (.bool true)], args := [d1, d2, d3] }
  | _ => none }
def traceLikelyRow : OpenClaim := { program := "ytjimgnlmimimjaadoor", sum := "9cf97ed87bce326d9905c69fc9cb463ae5413d9fe9de63fce9bb4555d725dfd6", func := "bireme/biremelaw17.TraceLikely", spec := "traceLikely", unfollowed := true, recurses := true, named := ["bireme/code.forms"], apart := false, laid := [("bireme/code.forms", laid_bireme_code_forms)] }
def TraceLikelySaid : Prop := traceLikelyRow.holds Tryd.pinned (OpenSpec.ofChange traceLikelySpec)

/-- ITS FALSE NEIGHBOUR: 'it returns false'. Refute it at one input. -/
def traceLikelyWrong : ChangeSpec := { name := "traceLikely", fn := fun _ => fun
  | [d1, d2, d3] => { results := [.lit (.bool false)], args := [d1, d2, d3] }
  | _ => none }
def TraceLikelyWrongFalsely : Prop := traceLikelyRow.holds Tryd.pinned (OpenSpec.ofChange traceLikelyWrong)

/-- 'biremelaw17.TraceForms': WHATEVER THE INPUT: true; the input reads as it did. -/
def traceFormsSpec : ChangeSpec := { name := "traceForms", fn := fun _ => fun
  | [d1, d2, d3] => { results := [.lit (.bool true)], args := [d1, d2, d3] }
  | _ => none }
def traceFormsRow : OpenClaim := { program := "ytjimgnlmimimjaadoor", sum := "9cf97ed87bce326d9905c69fc9cb463ae5413d9fe9de63fce9bb4555d725dfd6", func := "bireme/biremelaw17.TraceForms", spec := "traceForms", unfollowed := true, recurses := true, named := ["bireme/code.forms"], apart := false, laid := [("bireme/code.forms", laid_bireme_code_forms)] }
def TraceFormsSaid : Prop := traceFormsRow.holds Tryd.pinned (OpenSpec.ofChange traceFormsSpec)

/-- ITS FALSE NEIGHBOUR: 'it returns false'. Refute it at one input. -/
def traceFormsWrong : ChangeSpec := { name := "traceForms", fn := fun _ => fun
  | [d1, d2, d3] => { results := [.lit (.bool false)], args := [d1, d2, d3] }
  | _ => none }
def TraceFormsWrongFalsely : Prop := traceFormsRow.holds Tryd.pinned (OpenSpec.ofChange traceFormsWrong)

/-- 'biremelaw17.TraceKeeps': WHATEVER THE INPUT: true; the input reads as it did. -/
def traceKeepsSpec : ChangeSpec := { name := "traceKeeps", fn := fun _ => fun
  | [d1, d2, d3, d4] => { results := [.lit (.bool true)], args := [d1, d2, d3, d4] }
  | _ => none }
def traceKeepsRow : OpenClaim := { program := "ytjimgnlmimimjaadoor", sum := "9cf97ed87bce326d9905c69fc9cb463ae5413d9fe9de63fce9bb4555d725dfd6", func := "bireme/biremelaw17.TraceKeeps", spec := "traceKeeps", unfollowed := true, recurses := true, named := ["bireme/code.forms"], apart := false, laid := [("bireme/code.forms", laid_bireme_code_forms)] }
def TraceKeepsSaid : Prop := traceKeepsRow.holds Tryd.pinned (OpenSpec.ofChange traceKeepsSpec)

/-- ITS FALSE NEIGHBOUR: 'it returns false'. Refute it at one input. -/
def traceKeepsWrong : ChangeSpec := { name := "traceKeeps", fn := fun _ => fun
  | [d1, d2, d3, d4] => { results := [.lit (.bool false)], args := [d1, d2, d3, d4] }
  | _ => none }
def TraceKeepsWrongFalsely : Prop := traceKeepsRow.holds Tryd.pinned (OpenSpec.ofChange traceKeepsWrong)

/-- 'biremelaw17.TraceProfiles': WHATEVER THE INPUT: true; the input reads as it did. -/
def traceProfilesSpec : ChangeSpec := { name := "traceProfiles", fn := fun _ => fun
  | [d1, d2, d3, d4] => { results := [.lit (.bool true)], args := [d1, d2, d3, d4] }
  | _ => none }
def traceProfilesRow : OpenClaim := { program := "ytjimgnlmimimjaadoor", sum := "9cf97ed87bce326d9905c69fc9cb463ae5413d9fe9de63fce9bb4555d725dfd6", func := "bireme/biremelaw17.TraceProfiles", spec := "traceProfiles", unfollowed := true, recurses := true, named := ["bireme/code.forms"], apart := false, laid := [("bireme/code.forms", laid_bireme_code_forms)] }
def TraceProfilesSaid : Prop := traceProfilesRow.holds Tryd.pinned (OpenSpec.ofChange traceProfilesSpec)

/-- ITS FALSE NEIGHBOUR: 'it returns false'. Refute it at one input. -/
def traceProfilesWrong : ChangeSpec := { name := "traceProfiles", fn := fun _ => fun
  | [d1, d2, d3, d4] => { results := [.lit (.bool false)], args := [d1, d2, d3, d4] }
  | _ => none }
def TraceProfilesWrongFalsely : Prop := traceProfilesRow.holds Tryd.pinned (OpenSpec.ofChange traceProfilesWrong)

/- THE SECOND FORM. 'bulk': how many values and letters a reading holds, each counted each time it is reached (what is shared counts as often as it is met; a slice's spare places count too). A statement '..UptoSaid' is the law's where the arguments, and the package variables that the reading takes, are together of bulk at most 1048576: NARROWER than '..Said'. Prove '..Said' where nothing that the law and all that it calls make is longer than what came in: it says more and counts as full. Else prove '..UptoSaid'. A law counts once. -/
mutual
def uptoBulk {H : Type} : DataW H → Nat
  | .lit (.string bytes) => bytes.length + 1
  | .lit _ => 1
  | .nil => 1
  | .ptr d => uptoBulk d + 1
  | .slice elems spare => uptoBulkAll elems + uptoBulkAll spare + 1
  | .agg parts => uptoBulkAll parts + 1
  | .iface _ d => uptoBulk d + 1
  | .map entries => uptoBulkEntries entries + 1
  | .held _ => 1
def uptoBulkAll {H : Type} : List (DataW H) → Nat
  | [] => 0
  | d :: r => uptoBulk d + uptoBulkAll r
def uptoBulkEntries {H : Type} : List (Lit × DataW H) → Nat
  | [] => 0
  | x :: r => uptoBulkEntry x + uptoBulkEntries r
def uptoBulkEntry {H : Type} : Lit × DataW H → Nat
  | (.string bytes, d) => bytes.length + uptoBulk d + 1
  | (_, d) => uptoBulk d + 1
 end
def uptoSmall : (H : Type) → List (DataW H) → Bool := fun _ ds => decide (uptoBulkAll ds ≤ 1048576)
def OpenSpec.upto (s : _root_.Go.ChangeSpec) : _root_.Go.OpenSpec := { _root_.Go.OpenSpec.ofChange s with cond := some uptoSmall }

/-- 'biremelaw17.TraceExtends', WHERE WHAT IT READS IS OF BULK AT MOST 1048576: true; the input reads as it did. -/
def traceExtendsUptoRow : OpenClaim := { program := "ytjimgnlmimimjaadoor", sum := "9cf97ed87bce326d9905c69fc9cb463ae5413d9fe9de63fce9bb4555d725dfd6", func := "bireme/biremelaw17.TraceExtends", spec := "traceExtends", unfollowed := true, recurses := true, named := ["bireme/code.forms"], apart := false, laid := [("bireme/code.forms", laid_bireme_code_forms)], narrowed := true }
def TraceExtendsUptoSaid : Prop := traceExtendsUptoRow.holds Tryd.pinned (OpenSpec.upto traceExtendsSpec)

/-- 'biremelaw17.TraceFollows', WHERE WHAT IT READS IS OF BULK AT MOST 1048576: true; the input reads as it did. -/
def traceFollowsUptoRow : OpenClaim := { program := "ytjimgnlmimimjaadoor", sum := "9cf97ed87bce326d9905c69fc9cb463ae5413d9fe9de63fce9bb4555d725dfd6", func := "bireme/biremelaw17.TraceFollows", spec := "traceFollows", unfollowed := true, recurses := true, named := ["bireme/code.forms"], apart := false, laid := [("bireme/code.forms", laid_bireme_code_forms)], narrowed := true }
def TraceFollowsUptoSaid : Prop := traceFollowsUptoRow.holds Tryd.pinned (OpenSpec.upto traceFollowsSpec)

/-- 'biremelaw17.TraceUnrolls', WHERE WHAT IT READS IS OF BULK AT MOST 1048576: true; the input reads as it did. -/
def traceUnrollsUptoRow : OpenClaim := { program := "ytjimgnlmimimjaadoor", sum := "9cf97ed87bce326d9905c69fc9cb463ae5413d9fe9de63fce9bb4555d725dfd6", func := "bireme/biremelaw17.TraceUnrolls", spec := "traceUnrolls", unfollowed := true, recurses := true, named := ["bireme/code.forms"], apart := false, laid := [("bireme/code.forms", laid_bireme_code_forms)], narrowed := true }
def TraceUnrollsUptoSaid : Prop := traceUnrollsUptoRow.holds Tryd.pinned (OpenSpec.upto traceUnrollsSpec)

/-- 'biremelaw17.TraceAgain', WHERE WHAT IT READS IS OF BULK AT MOST 1048576: true; the input reads as it did. -/
def traceAgainUptoRow : OpenClaim := { program := "ytjimgnlmimimjaadoor", sum := "9cf97ed87bce326d9905c69fc9cb463ae5413d9fe9de63fce9bb4555d725dfd6", func := "bireme/biremelaw17.TraceAgain", spec := "traceAgain", unfollowed := true, recurses := true, named := ["bireme/code.forms"], apart := false, laid := [("bireme/code.forms", laid_bireme_code_forms)], narrowed := true }
def TraceAgainUptoSaid : Prop := traceAgainUptoRow.holds Tryd.pinned (OpenSpec.upto traceAgainSpec)

/-- 'biremelaw17.TraceLikely', WHERE WHAT IT READS IS OF BULK AT MOST 1048576: true; the input reads as it did. -/
def traceLikelyUptoRow : OpenClaim := { program := "ytjimgnlmimimjaadoor", sum := "9cf97ed87bce326d9905c69fc9cb463ae5413d9fe9de63fce9bb4555d725dfd6", func := "bireme/biremelaw17.TraceLikely", spec := "traceLikely", unfollowed := true, recurses := true, named := ["bireme/code.forms"], apart := false, laid := [("bireme/code.forms", laid_bireme_code_forms)], narrowed := true }
def TraceLikelyUptoSaid : Prop := traceLikelyUptoRow.holds Tryd.pinned (OpenSpec.upto traceLikelySpec)

/-- 'biremelaw17.TraceForms', WHERE WHAT IT READS IS OF BULK AT MOST 1048576: true; the input reads as it did. -/
def traceFormsUptoRow : OpenClaim := { program := "ytjimgnlmimimjaadoor", sum := "9cf97ed87bce326d9905c69fc9cb463ae5413d9fe9de63fce9bb4555d725dfd6", func := "bireme/biremelaw17.TraceForms", spec := "traceForms", unfollowed := true, recurses := true, named := ["bireme/code.forms"], apart := false, laid := [("bireme/code.forms", laid_bireme_code_forms)], narrowed := true }
def TraceFormsUptoSaid : Prop := traceFormsUptoRow.holds Tryd.pinned (OpenSpec.upto traceFormsSpec)

/-- 'biremelaw17.TraceKeeps', WHERE WHAT IT READS IS OF BULK AT MOST 1048576: true; the input reads as it did. -/
def traceKeepsUptoRow : OpenClaim := { program := "ytjimgnlmimimjaadoor", sum := "9cf97ed87bce326d9905c69fc9cb463ae5413d9fe9de63fce9bb4555d725dfd6", func := "bireme/biremelaw17.TraceKeeps", spec := "traceKeeps", unfollowed := true, recurses := true, named := ["bireme/code.forms"], apart := false, laid := [("bireme/code.forms", laid_bireme_code_forms)], narrowed := true }
def TraceKeepsUptoSaid : Prop := traceKeepsUptoRow.holds Tryd.pinned (OpenSpec.upto traceKeepsSpec)

/-- 'biremelaw17.TraceProfiles', WHERE WHAT IT READS IS OF BULK AT MOST 1048576: true; the input reads as it did. -/
def traceProfilesUptoRow : OpenClaim := { program := "ytjimgnlmimimjaadoor", sum := "9cf97ed87bce326d9905c69fc9cb463ae5413d9fe9de63fce9bb4555d725dfd6", func := "bireme/biremelaw17.TraceProfiles", spec := "traceProfiles", unfollowed := true, recurses := true, named := ["bireme/code.forms"], apart := false, laid := [("bireme/code.forms", laid_bireme_code_forms)], narrowed := true }
def TraceProfilesUptoSaid : Prop := traceProfilesUptoRow.holds Tryd.pinned (OpenSpec.upto traceProfilesSpec)

end Rows
end Go.Proofs.YtjimgnlmimimjaaDoor
