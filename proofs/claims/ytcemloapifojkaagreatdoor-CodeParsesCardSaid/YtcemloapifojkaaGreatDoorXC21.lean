/- Proved: the tied card of the law CodeParses: for every input that the given statement allows, the law returns true, and each argument reads behind the call as it read before. Conditions: those of the given statement and no others (what the listed variable reads as when the call begins is tied to the text of the program by the given tie). -/
import Derived.ChangeMaps5
import Derived.Test.YtcemloapifojkaaGreatDoorCards
import Derived.Test.YtcemloapifojkaaGreatDoorTie
import Derived.SevenTiedAt
import Derived.Test.YtcemloapifojkaaGreatDoorXC20
set_option linter.unusedVariables false
set_option linter.unusedSimpArgs false
section
namespace Go.Proofs.YtcemloapifojkaaGreatDoor.CodeParses
open Go.ChangeMaps Go.ChangeShapes Go.WideShapes Go.ChangeAt Go.RowKit Go.VX Go.VX.Seat
abbrev X0 : World→Array Value→Prop:=fun w _=>laidMetH Tryz.prog laidL w
theorem callable : Callable Tryz.prog 4:=⟨Tryz.f4,by kernel_rfl,by kernel_rfl,by kernel_rfl⟩
set_option maxRecDepth 100000 in
theorem lifted (os : Os) (started : os.Started) (H : Type) (enc : TypeId × Value→H) :
    ReturnsInHanded {} Tryz.checked os 4 .any (fun w args=>(Rows.codeParsesSpec.pre enc Tryz.prog Tryz.f4 [] false w args∧X0 w args)∧sizedMet enc Tryz.prog Tryz.f4 (OpenSpec.ofChange Rows.codeParsesSpec) false w args)
      (Rows.codeParsesSpec.post enc Tryz.prog Tryz.f4 false true false false):=by
  refine returnsInHanded_of_change_and (C:=Tryz.checked) (X:=X0) (fun _ _ _ hh h=>h.of_heap hh) own started (by kernel_rfl) Tryz.func4
    (ChangeSpec.witness_shaped (enc:=enc) (C:=Tryz.checked) (os:=os) (X:=X0) false (doorW os) #[.string ⟨#[]⟩] 8 (doorW_os os) (World.shaped_of_ZipB (by kernel_rfl) (by kernel_rfl)) (by kernel_rfl) (by kernel_rfl) (by kernel_rfl) (door_met os _)) ?_
  intro W base args ds gs before hval0 hW _ _ hL _
  have hval : ∀ (j : Nat) t v,Tryz.f4.params[j]? = some t→args[j]? = some v→Value.okWide Tryz.prog W .any base t v:=hval0
  have hW':=hW
  obtain ⟨p,q,hA0,hV,rfl,hfz,hnd⟩:=hW
  have hA : DataW.TrodAll enc Tryz.prog W 0 (fun _=>true) true Tryz.f4.params.toList args.toList ds p:=hA0
  rw [Tryz.params4] at hA hval
  obtain ⟨v0,vs0,d0,ds0,p0,q0,hargs,rfl,rfl,h0,r0⟩:=trodAll_cons hA
  obtain ⟨rfl,rfl,rfl⟩:=trodAll_nil r0
  obtain rfl : args = #[v0]:=by cases args; simp_all
  obtain ⟨rfl,rfl⟩:=trodVars_none hV
  have hE0:=ent0 hL
  obtain ⟨b0,rfl,rfl,rfl,wb0⟩:=open_string Tryz.underlying9 (hval 0 9 v0 rfl rfl) h0
  have hg : GB glS:=by have:=GB.add []; rw [List.append_nil] at this; exact this
  clear hA0 hval0
  refine (law_true callable (w_CodeParses onH hg b0) hE0 (.cons (.sc rfl) .nil)).mono fun e W' ⟨he,bel⟩=>?_
  subst he
  exact ⟨_,rfl,_,_,_,[],_,[],hW',trodAll_mk1 (shut_bool Tryz.underlying4 _),(trodAll_cons_mk (shut_string Tryz.underlying9 wb0) trodAll_mk0),rfl,bel.frame _,fun h=>by cases h⟩
theorem holds : Rows.CodeParsesSaid :=
  OpenClaim.holds_of_wide 4 Tryz.f4 rfl rfl rfl rfl rfl rfl rfl ⟨rfl,rfl,rfl,rfl,rfl⟩ rfl rfl rfl rfl rfl (by kernel_rfl) Tryz.func4 (by kernel_rfl)
    (of_decide_eq_true (by kernel_rfl)) (by unfold Func.isWrapper; first | (rw [if_pos (by decide +kernel)]; kernel_rfl) | (rw [if_neg (by decide +kernel)]; exact ⟨rfl,rfl⟩))
    (fun os started H enc _=>lifted os started H enc)
end Go.Proofs.YtcemloapifojkaaGreatDoor.CodeParses
namespace Go.Proofs.YtcemloapifojkaaGreatDoor
theorem codeParses_card : Rows.CodeParsesCardSaid :=
  Claim7.holds_tied_plain_at .later [] [.data, .data, .data, .data, .sentinel, .sentinel, .widerDeep, .data, .pinned] true (true, "fc7a975ed5d99debf9bfda7c20ce800eb452db8523d0923c40340634cdd98e8a") true
    CodeParses.holds (fun _ h=>by cases h) (by kernel_rfl) (fun _ h=>by cases h) codeParses_row_tie rfl ⟨rfl,rfl⟩ (by kernel_rfl) rfl
    (fun f fn hf hfn=>by
      obtain rfl : f = 4 := Option.some.inj ((show Tryz.prog.funcNamed "bireme/biremelaw07.CodeParses" = some 4 by kernel_rfl).symm.trans hf) |>.symm
      obtain rfl : fn = Tryz.f4:=(Option.some.inj (Tryz.func4.symm.trans hfn)).symm
      exact ⟨by kernel_rfl,fun j t ht=>by
        rw [Tryz.params4] at ht
        have hm : t ∈ [9]:=by simpa using Array.mem_of_getElem? ht
        have hall : ([9].all fun u=>!Tryz.prog.wantsStandIn u) = true:=by kernel_rfl
        exact (show Tryz.prog.wantsStandIn t = false by simpa using List.all_eq_true.1 hall t hm)⟩)
    (by kernel_rfl)
#print axioms codeParses_card
end Go.Proofs.YtcemloapifojkaaGreatDoor
end
