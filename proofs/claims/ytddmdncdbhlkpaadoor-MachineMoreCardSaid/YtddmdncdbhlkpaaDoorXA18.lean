/- Proved: the tied card of the law MachineMore: for every input that the given statement allows, the law returns true, and each argument reads behind the call as it read before. Conditions: those of the given statement and no others (what the listed variable reads as when the call begins is tied to the text of the program by the given tie). -/
import Derived.Test.YtddmdncdbhlkpaaDoorCards
import Derived.Test.YtddmdncdbhlkpaaDoorTie
import Derived.SevenTiedAt
import Derived.Test.YtddmdncdbhlkpaaDoorXA17
section
set_option linter.unusedVariables false
/-! MachineMore. PRINTED BY PROGRAM (cgen.py). -/
namespace Go.Proofs.YtddmdncdbhlkpaaDoor.MachineMore
open Go.ChangeShapes Go.WideShapes Go.ChangeAt Go.RowKit Go.VX Go.VX.Seat
abbrev X0 : World → Array Value → Prop := fun w _ => laidMetH Tryd.prog laidL w
theorem callable : Callable Tryd.prog 6 := ⟨Tryd.f6, by kernel_rfl, by kernel_rfl, by kernel_rfl⟩
set_option maxRecDepth 100000 in
theorem lifted (os : Os) (started : os.Started) (H : Type) (enc : TypeId × Value → H) :
    ReturnsInHanded {} Tryd.checked os 6 .any (fun w args => (Rows.machineMoreSpec.pre enc Tryd.prog Tryd.f6 [] false w args ∧ X0 w args) ∧ sizedMet enc Tryd.prog Tryd.f6 (OpenSpec.ofChange Rows.machineMoreSpec) false w args)
      (Rows.machineMoreSpec.post enc Tryd.prog Tryd.f6 false true false false) := by
  refine returnsInHanded_of_change_and (C := Tryd.checked) (X := X0) (fun _ _ _ hh h => h.of_heap hh) own started (by kernel_rfl) Tryd.func6
    (ChangeSpec.witness_shaped (enc := enc) (C := Tryd.checked) (os := os) (X := X0) false (doorW os) #[.agg #[.int .i64 0, .int .i64 0, .int .i64 0, .int .i64 0, .int .i64 0, .int .i64 0, .int .i64 0, .int .i64 0, .int .i64 0, .int .i64 0, .int .i64 0], .slice none 0 0, .agg #[.int .u8 0, .int .u8 0, .int .u8 0, .int .u8 0, .int .u8 0]] 8 (doorW_os os) (World.shaped_of_ZipB (by kernel_rfl) (by kernel_rfl)) (by kernel_rfl) (by kernel_rfl) (by kernel_rfl) (door_met os _)) ?_
  intro W base args ds gs before hval0 hW _ _ hL _
  have hval : ∀ (j : Nat) t v, Tryd.f6.params[j]? = some t → args[j]? = some v → Value.okWide Tryd.prog W .any base t v := hval0
  have hW' := hW
  obtain ⟨p, q, hA0, hV, rfl, hfz, hnd⟩ := hW
  have hA : DataW.TrodAll enc Tryd.prog W 0 (fun _ => true) true Tryd.f6.params.toList args.toList ds p := hA0
  rw [Tryd.params6] at hA hval
  obtain ⟨v0, vs0, d0, ds0, p0, q0, hargs, rfl, rfl, h0, r0⟩ := trodAll_cons hA
  obtain ⟨v1, vs1, d1, ds1, p1, q1, rfl, rfl, rfl, h1, r1⟩ := trodAll_cons r0
  obtain ⟨v2, vs2, d2, ds2, p2, q2, rfl, rfl, rfl, h2, r2⟩ := trodAll_cons r1
  obtain ⟨rfl, rfl, rfl⟩ := trodAll_nil r2
  obtain rfl : args = #[v0, v1, v2] := by cases args; simp_all
  obtain ⟨rfl, rfl⟩ := trodVars_none hV
  have hE0 := ent0 hL
  have lt0 : ∀ x ∈ p0, x.block < W.heap.size := by obtain ⟨m, hm⟩ := h0; exact DataW.trod_lt m _ _ _ hm
  obtain ⟨cs0, rfl, _⟩ := okWide_struct Tryd.underlying24 (hval 0 24 v0 rfl rfl)
  have h0' := h0
  obtain ⟨fuel0, hf0⟩ := h0'
  obtain ⟨K1, L1, ws0, O0, hE1, le1, hv0, rfl⟩ := reads_mach K0 _ fuel0 _ _ hE0 hf0
  replace hv0 := VRel.agg hv0
  have lt1 : ∀ x ∈ p1, x.block < W.heap.size := by obtain ⟨m, hm⟩ := h1; exact DataW.trod_lt m _ _ _ hm
  obtain ⟨_, _, _, rfl⟩ := okWide_slice Tryd.underlying25 (hval 1 25 v1 rfl rfl)
  have h1' := h1
  obtain ⟨fuel1, hf1⟩ := h1'
  obtain ⟨K2, L2, ws1, U1, hE2, le2, hv1, a1, rfl, hu1⟩ := reads_ops (gl_first hL) K1 _ fuel1 _ _ hE1 hf1
  replace hv1 := hv1.head
  have lt2 : ∀ x ∈ p2, x.block < W.heap.size := by obtain ⟨m, hm⟩ := h2; exact DataW.trod_lt m _ _ _ hm
  obtain ⟨cs2, rfl, _⟩ := okWide_array Tryd.underlying48 (hval 2 48 v2 rfl rfl)
  have h2' := h2
  obtain ⟨fuel2, hf2⟩ := h2'
  obtain ⟨K3, L3, ws2, O2, hE3, le3, hv2, rfl, ok2⟩ := reads_by5 K2 _ fuel2 _ _ hE2 hf2
  replace hv2 := VRel.agg hv2
  replace hv0 := hv0.mono le2
  replace hv0 := hv0.mono le3
  replace hv1 := hv1.mono le3
  replace hu1 := ArrAt.mono hu1 L3
  have hg := GB.app (GB.app (GB.add L1) L2) L3
  clear hA0 hval0
  refine (law_true callable (w_MachineMore onH hg O0 hu1 O2 ok2) hE3 (.cons hv0 (.cons hv1 (.cons hv2 .nil)))).mono fun e W' ⟨he, bel⟩ => ?_
  subst he
  exact ⟨_, rfl, _, _, _, [], _, [], hW', trodAll_mk1 (shut_bool Tryd.underlying4 _), (trodAll_cons_mk (Below.trod laidOut (by kernel_rfl) (of_decide_eq_true (by kernel_rfl)) h0 bel lt0) (trodAll_cons_mk (Below.trod laidOut (by kernel_rfl) (of_decide_eq_true (by kernel_rfl)) h1 bel lt1) (trodAll_cons_mk (Below.trod laidOut (by kernel_rfl) (of_decide_eq_true (by kernel_rfl)) h2 bel lt2) trodAll_mk0))), rfl, bel.frame _, fun h => by cases h⟩
theorem holds : Rows.MachineMoreSaid :=
  OpenClaim.holds_of_wide 6 Tryd.f6 rfl rfl rfl rfl rfl rfl rfl ⟨rfl, rfl, rfl, rfl, rfl⟩ rfl rfl rfl rfl rfl (by kernel_rfl) Tryd.func6 (by kernel_rfl)
    (of_decide_eq_true (by kernel_rfl)) (by unfold Func.isWrapper; first | (rw [if_pos (by decide +kernel)]; kernel_rfl) | (rw [if_neg (by decide +kernel)]; exact ⟨rfl, rfl⟩))
    (fun os started H enc _ => lifted os started H enc)
end Go.Proofs.YtddmdncdbhlkpaaDoor.MachineMore
namespace Go.Proofs.YtddmdncdbhlkpaaDoor
/-- The tied card of MachineMore. -/
theorem machineMore_card : Rows.MachineMoreCardSaid :=
  Claim7.holds_tied_plain_at .later [] [.data, .data, .data, .data, .sentinel, .sentinel, .widerDeep, .pinned] true (true, "4cbed6d2a5bfe4364f590985540b19411abf4e4503027560dfd36d54f44cf404") true
    MachineMore.holds (fun _ h => by cases h) (by kernel_rfl) (fun _ h => by cases h) machineMore_row_tie rfl ⟨rfl, rfl⟩ (by kernel_rfl) rfl
    (fun f fn hf hfn => by
      obtain rfl : f = 6 := Option.some.inj ((show Tryd.prog.funcNamed "bireme/biremelaw19.MachineMore" = some 6 by kernel_rfl).symm.trans hf) |>.symm
      obtain rfl : fn = Tryd.f6 := (Option.some.inj (Tryd.func6.symm.trans hfn)).symm
      exact ⟨by kernel_rfl, fun j t ht => by
        rw [Tryd.params6] at ht
        have hm : t ∈ [24, 25, 48] := by simpa using Array.mem_of_getElem? ht
        have hall : ([24, 25, 48].all fun u => !Tryd.prog.wantsStandIn u) = true := by kernel_rfl
        exact (show Tryd.prog.wantsStandIn t = false by simpa using List.all_eq_true.1 hall t hm)⟩)
    (by kernel_rfl)
#print axioms machineMore_card
end Go.Proofs.YtddmdncdbhlkpaaDoor
end
