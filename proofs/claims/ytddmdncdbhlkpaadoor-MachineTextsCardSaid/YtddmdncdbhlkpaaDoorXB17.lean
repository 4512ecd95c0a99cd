/- Proved: the tied card of the law MachineTexts: for every input that the given statement allows, the law returns true, and each argument reads behind the call as it read before. Conditions: those of the given statement and no others (what the listed variable reads as when the call begins is tied to the text of the program by the given tie). -/
import Derived.ChangeMaps5
import Derived.Test.YtddmdncdbhlkpaaDoorCards
import Derived.Test.YtddmdncdbhlkpaaDoorTie
import Derived.SevenTiedAt
import Derived.Test.YtddmdncdbhlkpaaDoorXB16
set_option linter.unusedVariables false
set_option linter.unusedSimpArgs false
section
namespace Go.Proofs.YtddmdncdbhlkpaaDoor.MachineTexts
open Go.ChangeMaps Go.ChangeShapes Go.WideShapes Go.ChangeAt Go.RowKit Go.VX Go.VX.Seat
abbrev X0 : World→Array Value→Prop:=fun w _=>laidMetH Tryd.prog laidL w
theorem callable : Callable Tryd.prog 4:=⟨Tryd.f4,by kernel_rfl,by kernel_rfl,by kernel_rfl⟩
set_option maxRecDepth 100000 in
theorem lifted (os : Os) (started : os.Started) (H : Type) (enc : TypeId × Value→H) :
    ReturnsInHanded {} Tryd.checked os 4 .any (fun w args=>(Rows.machineTextsSpec.pre enc Tryd.prog Tryd.f4 [] false w args∧X0 w args)∧sizedMet enc Tryd.prog Tryd.f4 (OpenSpec.ofChange Rows.machineTextsSpec) false w args)
      (Rows.machineTextsSpec.post enc Tryd.prog Tryd.f4 false true false false):=by
  refine returnsInHanded_of_change_and (C:=Tryd.checked) (X:=X0) (fun _ _ _ hh h=>h.of_heap hh) own started (by kernel_rfl) Tryd.func4
    (ChangeSpec.witness_shaped (enc:=enc) (C:=Tryd.checked) (os:=os) (X:=X0) false (doorW os) #[.agg #[.int .i64 0,.int .i64 0,.int .i64 0,.int .i64 0,.int .i64 0,.int .i64 0,.int .i64 0,.int .i64 0,.int .i64 0,.int .i64 0,.int .i64 0],.string ⟨#[]⟩] 8 (doorW_os os) (World.shaped_of_ZipB (by kernel_rfl) (by kernel_rfl)) (by kernel_rfl) (by kernel_rfl) (by kernel_rfl) (door_met os _)) ?_
  intro W base args ds gs before hval0 hW _ _ hL _
  have hval : ∀ (j : Nat) t v,Tryd.f4.params[j]? = some t→args[j]? = some v→Value.okWide Tryd.prog W .any base t v:=hval0
  have hW':=hW
  obtain ⟨p,q,hA0,hV,rfl,hfz,hnd⟩:=hW
  have hA : DataW.TrodAll enc Tryd.prog W 0 (fun _=>true) true Tryd.f4.params.toList args.toList ds p:=hA0
  rw [Tryd.params4] at hA hval
  obtain ⟨v0,vs0,d0,ds0,p0,q0,hargs,rfl,rfl,h0,r0⟩:=trodAll_cons hA
  obtain ⟨v1,vs1,d1,ds1,p1,q1,rfl,rfl,rfl,h1,r1⟩:=trodAll_cons r0
  obtain ⟨rfl,rfl,rfl⟩:=trodAll_nil r1
  obtain rfl : args = #[v0,v1]:=by cases args; simp_all
  obtain ⟨rfl,rfl⟩:=trodVars_none hV
  have hE0:=ent0 hL
  obtain ⟨b1,rfl,rfl,rfl,wb1⟩:=open_string Tryd.underlying9 (hval 1 9 v1 rfl rfl) h1
  have lt0 : ∀ x ∈ p0,x.block < W.heap.size:=by obtain ⟨m,hm⟩:=h0; exact DataW.trod_lt m _ _ _ hm
  obtain ⟨cs0,rfl,_⟩:=okWide_struct Tryd.underlying24 (hval 0 24 v0 rfl rfl)
  have h0':=h0
  obtain ⟨fuel0,hf0⟩:=h0'
  obtain ⟨K1,L1,ws0,O0,hE1,le1,hv0,rfl⟩:=reads_mach K0 _ fuel0 _ _ hE0 hf0
  replace hv0:=VRel.agg hv0
  have hg:=GB.add L1
  clear hA0 hval0
  refine (law_true callable (w_MachineTexts onH hg O0 b1) hE1 (.cons hv0 (.cons (.sc rfl) .nil))).mono fun e W' ⟨he,bel⟩=>?_
  subst he
  exact ⟨_,rfl,_,_,_,[],_,[],hW',trodAll_mk1 (shut_bool Tryd.underlying4 _),(trodAll_cons_mk (Below.trod laidOut (by kernel_rfl) (of_decide_eq_true (by kernel_rfl)) h0 bel lt0) (trodAll_cons_mk (shut_string Tryd.underlying9 wb1) trodAll_mk0)),rfl,bel.frame _,fun h=>by cases h⟩
theorem holds : Rows.MachineTextsSaid :=
  OpenClaim.holds_of_wide 4 Tryd.f4 rfl rfl rfl rfl rfl rfl rfl ⟨rfl,rfl,rfl,rfl,rfl⟩ rfl rfl rfl rfl rfl (by kernel_rfl) Tryd.func4 (by kernel_rfl)
    (of_decide_eq_true (by kernel_rfl)) (by unfold Func.isWrapper; first | (rw [if_pos (by decide +kernel)]; kernel_rfl) | (rw [if_neg (by decide +kernel)]; exact ⟨rfl,rfl⟩))
    (fun os started H enc _=>lifted os started H enc)
end Go.Proofs.YtddmdncdbhlkpaaDoor.MachineTexts
namespace Go.Proofs.YtddmdncdbhlkpaaDoor
theorem machineTexts_card : Rows.MachineTextsCardSaid :=
  Claim7.holds_tied_plain_at .later [] [.data, .data, .data, .data, .sentinel, .sentinel, .widerDeep, .pinned] true (true, "4cbed6d2a5bfe4364f590985540b19411abf4e4503027560dfd36d54f44cf404") true
    MachineTexts.holds (fun _ h=>by cases h) (by kernel_rfl) (fun _ h=>by cases h) machineTexts_row_tie rfl ⟨rfl,rfl⟩ (by kernel_rfl) rfl
    (fun f fn hf hfn=>by
      obtain rfl : f = 4 := Option.some.inj ((show Tryd.prog.funcNamed "bireme/biremelaw19.MachineTexts" = some 4 by kernel_rfl).symm.trans hf) |>.symm
      obtain rfl : fn = Tryd.f4:=(Option.some.inj (Tryd.func4.symm.trans hfn)).symm
      exact ⟨by kernel_rfl,fun j t ht=>by
        rw [Tryd.params4] at ht
        have hm : t ∈ [24,9]:=by simpa using Array.mem_of_getElem? ht
        have hall : ([24,9].all fun u=>!Tryd.prog.wantsStandIn u) = true:=by kernel_rfl
        exact (show Tryd.prog.wantsStandIn t = false by simpa using List.all_eq_true.1 hall t hm)⟩)
    (by kernel_rfl)
#print axioms machineTexts_card
end Go.Proofs.YtddmdncdbhlkpaaDoor
end
