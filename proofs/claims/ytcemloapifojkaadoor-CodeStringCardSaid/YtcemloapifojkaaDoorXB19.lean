/- Proved: the tied card of the law CodeString: for every input that the given statement allows, the law returns true, and each argument reads behind the call as it read before. Conditions: those of the given statement and no others (what the listed variable reads as when the call begins is tied to the text of the program by the given tie). -/
import Derived.ChangeMaps5
import Derived.Test.YtcemloapifojkaaDoorCards
import Derived.Test.YtcemloapifojkaaDoorTie
import Derived.SevenTiedAt
import Derived.Test.YtcemloapifojkaaDoorXB18
set_option linter.unusedVariables false
set_option linter.unusedSimpArgs false
section
namespace Go.Proofs.YtcemloapifojkaaDoor.CodeString
open Go.ChangeMaps Go.ChangeShapes Go.WideShapes Go.ChangeAt Go.RowKit Go.VX Go.VX.Seat
abbrev X0 : World→Array Value→Prop:=fun w _=>laidMetH Tryd.prog laidL w
theorem callable : Callable Tryd.prog 4:=⟨Tryd.f4,by kernel_rfl,by kernel_rfl,by kernel_rfl⟩
set_option maxRecDepth 100000 in
theorem lifted (os : Os) (started : os.Started) (H : Type) (enc : TypeId × Value→H) :
    ReturnsInHanded {} Tryd.checked os 4 .any (fun w args=>(Rows.codeStringSpec.pre enc Tryd.prog Tryd.f4 [] false w args∧X0 w args)∧sizedMet enc Tryd.prog Tryd.f4 (OpenSpec.ofChange Rows.codeStringSpec) false w args)
      (Rows.codeStringSpec.post enc Tryd.prog Tryd.f4 false true false false):=by
  refine returnsInHanded_of_change_and (C:=Tryd.checked) (X:=X0) (fun _ _ _ hh h=>h.of_heap hh) own started (by kernel_rfl) Tryd.func4
    (ChangeSpec.witness_shaped (enc:=enc) (C:=Tryd.checked) (os:=os) (X:=X0) false (doorW os) #[.string ⟨#[]⟩] 8 (doorW_os os) (World.shaped_of_ZipB (by kernel_rfl) (by kernel_rfl)) (by kernel_rfl) (by kernel_rfl) (by kernel_rfl) (door_met os _)) ?_
  intro W base args ds gs before hval0 hW _ _ hL _
  have hval : ∀ (j : Nat) t v,Tryd.f4.params[j]? = some t→args[j]? = some v→Value.okWide Tryd.prog W .any base t v:=hval0
  have hW':=hW
  obtain ⟨p,q,hA0,hV,rfl,hfz,hnd⟩:=hW
  have hA : DataW.TrodAll enc Tryd.prog W 0 (fun _=>true) true Tryd.f4.params.toList args.toList ds p:=hA0
  rw [Tryd.params4] at hA hval
  obtain ⟨v0,vs0,d0,ds0,p0,q0,hargs,rfl,rfl,h0,r0⟩:=trodAll_cons hA
  obtain ⟨rfl,rfl,rfl⟩:=trodAll_nil r0
  obtain rfl : args = #[v0]:=by cases args; simp_all
  obtain ⟨rfl,rfl⟩:=trodVars_none hV
  have hE0:=ent0 hL
  obtain ⟨b0,rfl,rfl,rfl,wb0⟩:=open_string Tryd.underlying9 (hval 0 9 v0 rfl rfl) h0
  have hg : GB glS:=by have:=GB.add []; rw [List.append_nil] at this; exact this
  clear hA0 hval0
  refine (law_true callable (w_CodeString onH hg b0) hE0 (.cons (.sc rfl) .nil)).mono fun e W' ⟨he,bel⟩=>?_
  subst he
  exact ⟨_,rfl,_,_,_,[],_,[],hW',trodAll_mk1 (shut_bool Tryd.underlying4 _),(trodAll_cons_mk (shut_string Tryd.underlying9 wb0) trodAll_mk0),rfl,bel.frame _,fun h=>by cases h⟩
theorem holds : Rows.CodeStringSaid :=
  OpenClaim.holds_of_wide 4 Tryd.f4 rfl rfl rfl rfl rfl rfl rfl ⟨rfl,rfl,rfl,rfl,rfl⟩ rfl rfl rfl rfl rfl (by kernel_rfl) Tryd.func4 (by kernel_rfl)
    (of_decide_eq_true (by kernel_rfl)) (by unfold Func.isWrapper; first | (rw [if_pos (by decide +kernel)]; kernel_rfl) | (rw [if_neg (by decide +kernel)]; exact ⟨rfl,rfl⟩))
    (fun os started H enc _=>lifted os started H enc)
end Go.Proofs.YtcemloapifojkaaDoor.CodeString
namespace Go.Proofs.YtcemloapifojkaaDoor
theorem codeString_card : Rows.CodeStringCardSaid :=
  Claim7.holds_tied_plain_at .later [] [.data, .data, .data, .data, .sentinel, .sentinel, .widerDeep, .data, .pinned] true (true, "cbd91162a229fb1ceb56ebdcb5bd26cb0149e359720df6f0df8ff3c55f632fa9") true
    CodeString.holds (fun _ h=>by cases h) (by kernel_rfl) (fun _ h=>by cases h) codeString_row_tie rfl ⟨rfl,rfl⟩ (by kernel_rfl) rfl
    (fun f fn hf hfn=>by
      obtain rfl : f = 4 := Option.some.inj ((show Tryd.prog.funcNamed "bireme/biremelaw07.CodeString" = some 4 by kernel_rfl).symm.trans hf) |>.symm
      obtain rfl : fn = Tryd.f4:=(Option.some.inj (Tryd.func4.symm.trans hfn)).symm
      exact ⟨by kernel_rfl,fun j t ht=>by
        rw [Tryd.params4] at ht
        have hm : t ∈ [9]:=by simpa using Array.mem_of_getElem? ht
        have hall : ([9].all fun u=>!Tryd.prog.wantsStandIn u) = true:=by kernel_rfl
        exact (show Tryd.prog.wantsStandIn t = false by simpa using List.all_eq_true.1 hall t hm)⟩)
    (by kernel_rfl)
#print axioms codeString_card
end Go.Proofs.YtcemloapifojkaaDoor
end
