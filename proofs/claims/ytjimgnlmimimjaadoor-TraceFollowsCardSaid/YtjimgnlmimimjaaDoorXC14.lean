/- Proved: the tied card of the law TraceFollows: for every input that the given statement allows, the law returns true, and each argument reads behind the call as it read before. Conditions: those of the given statement and no others (what the listed variable reads as when the call begins is tied to the text of the program by the given tie). -/
import Derived.Test.YtjimgnlmimimjaaDoorCards
import Derived.Test.YtjimgnlmimimjaaDoorTie
import Derived.SevenTiedAt
import Derived.Test.YtjimgnlmimimjaaDoorXC13
section
set_option linter.unusedVariables false
/-! TraceFollows. -/
namespace Go.Proofs.YtjimgnlmimimjaaDoor.L4
open Go.ChangeShapes Go.WideShapes Go.ChangeAt Go.RowKit Go.VX Go.VX.Seat
abbrev X0 : World → Array Value → Prop := fun w _ => laidMetH Tryd.prog [("bireme/code.forms", Rows.laid_bireme_code_forms)] w
set_option maxRecDepth 100000 in
theorem lifted (os : Os) (started : os.Started) (H : Type) (enc : TypeId × Value → H) :
    ReturnsInHanded {} Tryd.checked os 4 .any (fun w args => (Rows.traceFollowsSpec.pre enc Tryd.prog Tryd.f4 [] false w args ∧ X0 w args) ∧ sizedMet enc Tryd.prog Tryd.f4 (OpenSpec.ofChange Rows.traceFollowsSpec) false w args)
      (Rows.traceFollowsSpec.post enc Tryd.prog Tryd.f4 false true false false) := by
  refine returnsInHanded_of_change_and (C := Tryd.checked) (X := X0) (fun _ _ _ hh h => h.of_heap hh) own started (by kernel_rfl) Tryd.func4
    (ChangeSpec.witness_shaped (enc := enc) (C := Tryd.checked) (os := os) (X := X0) false (World.doorLaid Tryd.prog 400 os) #[.agg #[.slice none 0 0, .int .i64 0, .int .i64 0, .int .i64 0, .int .i64 0, .slice none 0 0], .slice none 0 0, .int .i64 0, .int .i64 0] 8 rfl (World.shaped_of_RefB (by kernel_rfl) (by kernel_rfl)) (by kernel_rfl) (by kernel_rfl) (by kernel_rfl) (door_met os _)) ?_
  intro W base args ds gs before hval0 hW _ _ hL _
  have hval : ∀ (j : Nat) t v, Tryd.f4.params[j]? = some t → args[j]? = some v → Value.okWide Tryd.prog W .any base t v := hval0
  have hW' := hW
  obtain ⟨p, q, hA0, hV, rfl, hfz, hnd⟩ := hW
  have hA : DataW.TrodAll enc Tryd.prog W 0 (fun _ => true) true Tryd.f4.params.toList args.toList ds p := hA0
  rw [Tryd.params4] at hA hval
  obtain ⟨v0, vs0, d0, ds0, p0, q0, hargs, rfl, rfl, h0, r0⟩ := trodAll_cons hA
  obtain ⟨v1, vs1, d1, ds1, p1, q1, rfl, rfl, rfl, h1, r1⟩ := trodAll_cons r0
  obtain ⟨v2, vs2, d2, ds2, p2, q2, rfl, rfl, rfl, h2, r2⟩ := trodAll_cons r1
  obtain ⟨v3, vs3, d3, ds3, p3, q3, rfl, rfl, rfl, h3, r3⟩ := trodAll_cons r2
  obtain ⟨rfl, rfl, rfl⟩ := trodAll_nil r3
  obtain rfl : args = #[v0, v1, v2, v3] := by cases args; simp_all
  obtain ⟨rfl, rfl⟩ := trodVars_none hV
  obtain ⟨b, rfl, rfl, rfl, wb⟩ := open_int Tryd.underlying3 (hval 2 3 v2 rfl rfl) h2
  obtain ⟨size, rfl, rfl, rfl, ws⟩ := open_int Tryd.underlying3 (hval 3 3 v3 rfl rfl) h3
  have lt0 : ∀ x ∈ p0, x.block < W.heap.size := by obtain ⟨m, hm⟩ := h0; exact DataW.trod_lt m _ _ _ hm
  have lt1 : ∀ x ∈ p1, x.block < W.heap.size := by obtain ⟨m, hm⟩ := h1; exact DataW.trod_lt m _ _ _ hm
  obtain ⟨K, st, av, pv, U, P, hW1, hg, hv1, hv2, hu, hp⟩ := unit_prof_in hL (hval 0 25 v0 rfl rfl) h0 (hval 1 35 v1 rfl rfl) h1
  clear hA0 hval0
  refine (law_true (w_TraceFollows onH hg hu hp b size) hW1 (.cons hv1 (.cons hv2 (.cons (.sc rfl) (.cons (.sc rfl) .nil))))).mono fun e W' ⟨he, bel⟩ => ?_
  subst he
  exact ⟨_, rfl, _, _, _, [], _, [], hW', trodAll_mk1 (shut_bool Tryd.underlying4 _), trodAll_cons_mk (Below.trod laidOut (by kernel_rfl) (of_decide_eq_true (by kernel_rfl)) h0 bel lt0) (trodAll_cons_mk (Below.trod laidOut (by kernel_rfl) (of_decide_eq_true (by kernel_rfl)) h1 bel lt1) (trodAll_cons_mk (shut_int Tryd.underlying3 wb) (trodAll_cons_mk (shut_int Tryd.underlying3 ws) trodAll_mk0))), rfl, bel.frame _, fun h => by cases h⟩
theorem holds : Rows.TraceFollowsSaid :=
  OpenClaim.holds_of_wide 4 Tryd.f4 rfl rfl rfl rfl rfl rfl rfl ⟨rfl, rfl, rfl, rfl, rfl⟩ rfl rfl rfl rfl rfl (by kernel_rfl) Tryd.func4 (by kernel_rfl)
    (of_decide_eq_true (by kernel_rfl)) (by unfold Func.isWrapper; first | (rw [if_pos (by decide +kernel)]; kernel_rfl) | (rw [if_neg (by decide +kernel)]; exact ⟨rfl, rfl⟩))
    (fun os started H enc _ => lifted os started H enc)
end Go.Proofs.YtjimgnlmimimjaaDoor.L4
namespace Go.Proofs.YtjimgnlmimimjaaDoor
/-- The tied card of TraceFollows. -/
theorem traceFollows_card : Rows.TraceFollowsCardSaid :=
  Claim7.holds_tied_plain_at .later [] [.widerDeep] true (true, "7bb8585f2d5ce98dfaeeba3ee109be273c26dc32a4b5704b4bf139770c60d45e") true
    L4.holds (fun _ h => by cases h) (by kernel_rfl) (fun _ h => by cases h) traceFollows_row_tie rfl ⟨rfl, rfl⟩ (by kernel_rfl) rfl
    (fun f fn hf hfn => by
      obtain rfl : f = 4 := Option.some.inj ((show Tryd.prog.funcNamed "bireme/biremelaw17.TraceFollows" = some 4 by kernel_rfl).symm.trans hf) |>.symm
      obtain rfl : fn = Tryd.f4 := (Option.some.inj (Tryd.func4.symm.trans hfn)).symm
      exact ⟨by kernel_rfl, fun j t ht => by
        rw [Tryd.params4] at ht
        have hm : t ∈ [25, 35, 3, 3] := by simpa using Array.mem_of_getElem? ht
        have hall : ([25, 35, 3, 3].all fun u => !Tryd.prog.wantsStandIn u) = true := by kernel_rfl
        exact (show Tryd.prog.wantsStandIn t = false by simpa using List.all_eq_true.1 hall t hm)⟩)
    (by kernel_rfl)
#print axioms traceFollows_card
end Go.Proofs.YtjimgnlmimimjaaDoor
end
