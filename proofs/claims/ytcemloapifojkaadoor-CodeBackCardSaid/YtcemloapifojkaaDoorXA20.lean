/- Proved: the tied card of the law CodeBack: for every input that the given statement allows, the law returns true, and each argument reads behind the call as it read before. Conditions: those of the given statement and no others (what the listed variable reads as when the call begins is tied to the text of the program by the given tie). -/
import Derived.Test.YtcemloapifojkaaDoorCards
import Derived.Test.YtcemloapifojkaaDoorTie
import Derived.SevenTiedAt
import Derived.Test.YtcemloapifojkaaDoorXA19
set_option linter.unusedVariables false
set_option linter.unusedSimpArgs false
section
namespace Go.Proofs.YtcemloapifojkaaDoor.CodeBack
open Go.ChangeShapes Go.WideShapes Go.ChangeAt Go.RowKit Go.VX Go.VX.Seat
abbrev X0 : World→Array Value→Prop:=fun w _=>laidMetH Tryd.prog laidL w
theorem callable : Callable Tryd.prog 3:=⟨Tryd.f3,by kernel_rfl,by kernel_rfl,by kernel_rfl⟩
set_option maxRecDepth 100000 in
theorem lifted (os : Os) (started : os.Started) (H : Type) (enc : TypeId × Value→H) :
    ReturnsInHanded {} Tryd.checked os 3 .any (fun w args=>(Rows.codeBackSpec.pre enc Tryd.prog Tryd.f3 [] false w args∧X0 w args)∧sizedMet enc Tryd.prog Tryd.f3 (OpenSpec.ofChange Rows.codeBackSpec) false w args)
      (Rows.codeBackSpec.post enc Tryd.prog Tryd.f3 false true false false):=by
  refine returnsInHanded_of_change_and (C:=Tryd.checked) (X:=X0) (fun _ _ _ hh h=>h.of_heap hh) own started (by kernel_rfl) Tryd.func3
    (ChangeSpec.witness_shaped (enc:=enc) (C:=Tryd.checked) (os:=os) (X:=X0) false (doorW os) #[.agg #[.slice none 0 0,.int .i64 0,.int .i64 0,.int .i64 0,.int .i64 0,.slice none 0 0]] 8 (doorW_os os) (World.shaped_of_ZipB (by kernel_rfl) (by kernel_rfl)) (by kernel_rfl) (by kernel_rfl) (by kernel_rfl) (door_met os _)) ?_
  intro W base args ds gs before hval0 hW _ _ hL _
  have hval : ∀ (j : Nat) t v,Tryd.f3.params[j]? = some t→args[j]? = some v→Value.okWide Tryd.prog W .any base t v:=hval0
  have hW':=hW
  obtain ⟨p,q,hA0,hV,rfl,hfz,hnd⟩:=hW
  have hA : DataW.TrodAll enc Tryd.prog W 0 (fun _=>true) true Tryd.f3.params.toList args.toList ds p:=hA0
  rw [Tryd.params3] at hA hval
  obtain ⟨v0,vs0,d0,ds0,p0,q0,hargs,rfl,rfl,h0,r0⟩:=trodAll_cons hA
  obtain ⟨rfl,rfl,rfl⟩:=trodAll_nil r0
  obtain rfl : args = #[v0]:=by cases args; simp_all
  obtain ⟨rfl,rfl⟩:=trodVars_none hV
  have hE0:=ent0 hL
  have lt0 : ∀ x ∈ p0,x.block < W.heap.size:=by obtain ⟨m,hm⟩:=h0; exact DataW.trod_lt m _ _ _ hm
  obtain ⟨cs0,rfl,_⟩:=okWide_struct Tryd.underlying25 (hval 0 25 v0 rfl rfl)
  have h0':=h0
  obtain ⟨fuel0,hf0⟩:=h0'
  obtain ⟨K1,L1,ws0,U0,hE1,le1,hv0,hu0,hi0⟩:=reads_unit64 (gl_first hL) K0 _ fuel0 _ _ hE0 hf0
  replace hv0:=VRel.agg hv0
  have hg:=GB.add L1
  clear hA0 hval0
  refine (law_true callable (w_CodeBack onH hg hu0 hi0) hE1 (.cons hv0 .nil)).mono fun e W' ⟨he,bel⟩=>?_
  subst he
  exact ⟨_,rfl,_,_,_,[],_,[],hW',trodAll_mk1 (shut_bool Tryd.underlying4 _),(trodAll_cons_mk (Below.trod laidOut (by kernel_rfl) (of_decide_eq_true (by kernel_rfl)) h0 bel lt0) trodAll_mk0),rfl,bel.frame _,fun h=>by cases h⟩
theorem holds : Rows.CodeBackSaid :=
  OpenClaim.holds_of_wide 3 Tryd.f3 rfl rfl rfl rfl rfl rfl rfl ⟨rfl,rfl,rfl,rfl,rfl⟩ rfl rfl rfl rfl rfl (by kernel_rfl) Tryd.func3 (by kernel_rfl)
    (of_decide_eq_true (by kernel_rfl)) (by unfold Func.isWrapper; first | (rw [if_pos (by decide +kernel)]; kernel_rfl) | (rw [if_neg (by decide +kernel)]; exact ⟨rfl,rfl⟩))
    (fun os started H enc _=>lifted os started H enc)
end Go.Proofs.YtcemloapifojkaaDoor.CodeBack
namespace Go.Proofs.YtcemloapifojkaaDoor
theorem codeBack_card : Rows.CodeBackCardSaid :=
  Claim7.holds_tied_plain_at .later [] [.data, .data, .data, .data, .sentinel, .sentinel, .widerDeep, .data, .pinned] true (true, "cbd91162a229fb1ceb56ebdcb5bd26cb0149e359720df6f0df8ff3c55f632fa9") true
    CodeBack.holds (fun _ h=>by cases h) (by kernel_rfl) (fun _ h=>by cases h) codeBack_row_tie rfl ⟨rfl,rfl⟩ (by kernel_rfl) rfl
    (fun f fn hf hfn=>by
      obtain rfl : f = 3 := Option.some.inj ((show Tryd.prog.funcNamed "bireme/biremelaw07.CodeBack" = some 3 by kernel_rfl).symm.trans hf) |>.symm
      obtain rfl : fn = Tryd.f3:=(Option.some.inj (Tryd.func3.symm.trans hfn)).symm
      exact ⟨by kernel_rfl,fun j t ht=>by
        rw [Tryd.params3] at ht
        have hm : t ∈ [25]:=by simpa using Array.mem_of_getElem? ht
        have hall : ([25].all fun u=>!Tryd.prog.wantsStandIn u) = true:=by kernel_rfl
        exact (show Tryd.prog.wantsStandIn t = false by simpa using List.all_eq_true.1 hall t hm)⟩)
    (by kernel_rfl)
#print axioms codeBack_card
end Go.Proofs.YtcemloapifojkaaDoor
end
