/- A part of the proofs of the statements of one layer: R4n, R7. No condition is added here. -/
import Derived.Lay
import Derived.Test.YtmpndkhedbpmjaaGreatDoorXB16
set_option linter.unusedVariables false
set_option linter.unusedSimpArgs false
section
set_option maxRecDepth 4000
namespace Go.VX.Seat
open Go.Proofs Go.ChangeShapes Go.WideShapes
open Go.RowKit (Below)
section
variable {H : Type} {enc : TypeId × Value → H} {W : World}
theorem law_true {f : FuncId} {ws : List AV} {st : St} {K : KM} {args : List Value} (hc : Callable Go.Proofs.Tryz.prog f) (hw : wpF XS f ws st fun r s => r = .ret (bA true) ∧ ∃ m, s = st ++ m) (hE : Ent [0, 1, 2] W K st) (hargs : VRels K ws args) :
    Calls Go.Proofs.Tryz.prog f args.toArray W fun e W' => e = .returned (.bool true) ∧ Below W.heap.size W W' := by
  obtain ⟨r, s, j, rfl, _⟩ := hw
  refine ((seat_sound j).c hc W.heap.size W K W args hE.rel (Nat.le_refl _) hargs).mono fun e W' hp => ?_
  obtain ⟨K', hW', _, v', rfl, hv⟩ := hp
  cases hv
  exact ⟨rfl, hW'.below⟩
end
noncomputable def doorW (os : Os) : World := World.laidAll Go.Proofs.Tryz.prog os laidL
theorem doorW_os (os : Os) : (doorW os).os = os := World.laidAll_os _ _ _
theorem door_met (os : Os) (args : Array Value) : laidMetH Go.Proofs.Tryz.prog laidL ((doorW os).forCall (fun _ _ => 0) ⟨#[], args, []⟩).memory := by
  rw [MakeChecks.laidMetH_plain _ _ _ (by kernel_rfl)]
  exact laidMet_laidAll args (by kernel_rfl) (by kernel_rfl)
end Go.VX.Seat
end
section
set_option maxRecDepth 4000
namespace Go.VX.Seat
open Go.Proofs
theorem c_wrds : Go.Proofs.Tryz.prog.cellsOf 23 = 1 := by kernel_rfl
theorem c_cod : Go.Proofs.Tryz.prog.cellsOf 25 = 6 := by kernel_rfl
theorem c_wrd : Go.Proofs.Tryz.prog.cellsOf 68 = 2 := by kernel_rfl
section
variable {H : Type} {enc : TypeId × Value → H} {W : World} {gl : List Nat}
theorem reads_wrd (hg : ∃ g, gl[0]? = some g ∧ g < W.heap.size) : Reads enc Go.Proofs.Tryz.prog W gl 68 (fun st cs (b : WrdV) => ∃ a, cs = b.row a ∧ OpsAt st 0 st.length a b.ops) := by
  intro K st n vs x hE h
  obtain ⟨xs, m, _, _, hl, hx, hf⟩ := DataW.trod_struct Go.Proofs.Tryz.underlying68 h
  rw [c_wrd] at hl
  have hx : xs.length = 2 := hx
  match vs, hl with
  | [v0, v1], _ =>
    have f0 : DataW.trod enc Go.Proofs.Tryz.prog W 0 (fun _ => true) true m 66 (([v0, v1].drop 0).take (Go.Proofs.Tryz.prog.cellsOf 66)) = xs[0]? := hf 0 _ rfl
    have f2 : DataW.trod enc Go.Proofs.Tryz.prog W 0 (fun _ => true) true m 3 (([v0, v1].drop 1).take (Go.Proofs.Tryz.prog.cellsOf 3)) = xs[1]? := hf 1 _ rfl
    rw [List.getElem?_eq_getElem (by omega)] at f0 f2
    simp only [c_ops, c_int, List.drop_zero, List.drop_succ_cons, List.take_succ_cons, List.take_zero] at f0 f2
    obtain ⟨k5, e5, _⟩ := DataW.trod_int Go.Proofs.Tryz.underlying3 f2
    simp at e5
    subst e5
    obtain ⟨K', L, cs, ops, h1, h2, h3, a, rfl, h4⟩ := reads_ops hg K st m _ _ hE f0
    cases h3 with
    | cons h3 _ => exact ⟨K', L, _, ⟨ops, k5⟩, h1, h2, .cons h3 (VRels.int1 .nil), a, rfl, h4⟩
theorem reads_wrds (hg : ∃ g, gl[0]? = some g ∧ g < W.heap.size) : Reads enc Go.Proofs.Tryz.prog W gl 23 (fun st cs (l : List WrdV) => ∃ a, cs = [a] ∧ WrdsAt st 0 st.length a l) := by
  intro K st n vs x hE h
  obtain ⟨K', L, cs, us, h1, h2, h3, a, rows, rfl, h4, h5, h6⟩ := reads_slice (R := fun st cs (b : WrdV) => ∃ a, cs = b.row a ∧ OpsAt st 0 st.length a b.ops) (fun st L cs u h => by
    obtain ⟨a, h1, h2⟩ := h
    exact ⟨a, h1, (ArrAt.mono h2 L).wide0 (Nat.le_refl _) (by simp)⟩) Go.Proofs.Tryz.underlying23 c_wrd (by decide) hg (reads_wrd hg) K st n vs x hE h
  have hrow : rows = us.mapIdx fun i b => b.row ((rows[i]?.getD []).headD (iA 0)) := List.ext_getElem (by simpa using h5) fun i i1 i2 => by
    obtain ⟨a, e, _⟩ := h6 i i1 (by omega)
    rw [List.getElem_mapIdx, List.getElem?_eq_getElem i1, e]
    rfl
  refine ⟨K', L, [a], us, h1, h2, h3, a, rfl, fun i => (rows[i]?.getD []).headD (iA 0), by rw [← hrow]; exact h4, fun i hi => ?_⟩
  obtain ⟨a, e, ha⟩ := h6 i (by omega) hi
  show OpsAt _ _ _ ((rows[i]?.getD []).headD (iA 0)) _
  rw [List.getElem?_eq_getElem (by omega), e]
  exact ha
theorem reads_cod (hg : ∃ g, gl[0]? = some g ∧ g < W.heap.size) : Reads enc Go.Proofs.Tryz.prog W gl 25 (fun st cs (u : CodV) => CodAt st 0 st.length (.agg cs) u) := by
  intro K st n vs x hE h
  obtain ⟨xs, m, _, _, hl, hx, hf⟩ := DataW.trod_struct Go.Proofs.Tryz.underlying25 h
  rw [c_cod] at hl
  have hx : xs.length = 6 := hx
  match vs, hl with
  | [v0, v1, v2, v3, v4, v5], _ =>
    have f0 : DataW.trod enc Go.Proofs.Tryz.prog W 0 (fun _ => true) true m 22 (([v0, v1, v2, v3, v4, v5].drop 0).take (Go.Proofs.Tryz.prog.cellsOf 22)) = xs[0]? := hf 0 _ rfl
    have f1 : DataW.trod enc Go.Proofs.Tryz.prog W 0 (fun _ => true) true m 3 (([v0, v1, v2, v3, v4, v5].drop 1).take (Go.Proofs.Tryz.prog.cellsOf 3)) = xs[1]? := hf 1 _ rfl
    have f2 : DataW.trod enc Go.Proofs.Tryz.prog W 0 (fun _ => true) true m 3 (([v0, v1, v2, v3, v4, v5].drop 2).take (Go.Proofs.Tryz.prog.cellsOf 3)) = xs[2]? := hf 2 _ rfl
    have f3 : DataW.trod enc Go.Proofs.Tryz.prog W 0 (fun _ => true) true m 3 (([v0, v1, v2, v3, v4, v5].drop 3).take (Go.Proofs.Tryz.prog.cellsOf 3)) = xs[3]? := hf 3 _ rfl
    have f4 : DataW.trod enc Go.Proofs.Tryz.prog W 0 (fun _ => true) true m 3 (([v0, v1, v2, v3, v4, v5].drop 4).take (Go.Proofs.Tryz.prog.cellsOf 3)) = xs[4]? := hf 4 _ rfl
    have f5 : DataW.trod enc Go.Proofs.Tryz.prog W 0 (fun _ => true) true m 23 (([v0, v1, v2, v3, v4, v5].drop 5).take (Go.Proofs.Tryz.prog.cellsOf 23)) = xs[5]? := hf 5 _ rfl
    rw [List.getElem?_eq_getElem (by omega)] at f0 f1 f2 f3 f4 f5
    simp only [c_ints, c_wrds, c_int, List.drop_zero, List.drop_succ_cons, List.take_succ_cons, List.take_zero] at f0 f1 f2 f3 f4 f5
    obtain ⟨k1, e1, _⟩ := DataW.trod_int Go.Proofs.Tryz.underlying3 f1
    obtain ⟨k2, e2, _⟩ := DataW.trod_int Go.Proofs.Tryz.underlying3 f2
    obtain ⟨k3, e3, _⟩ := DataW.trod_int Go.Proofs.Tryz.underlying3 f3
    obtain ⟨k4, e4, _⟩ := DataW.trod_int Go.Proofs.Tryz.underlying3 f4
    simp at e1 e2 e3 e4
    subst e1 e2 e3 e4
    obtain ⟨K1, L1, cs, sz, h1, h2, h3, a, rfl, h4⟩ := reads_nums hg K st m _ _ hE f0
    obtain ⟨K2, L2, cs, bl, g1, g2, g3, b, rfl, g4⟩ := reads_wrds hg K1 (st ++ L1) m _ _ h1 f5
    cases h3 with
    | cons h3 _ =>
      refine ⟨K2, L1 ++ L2, _, ⟨sz, k1, k2, k3, k4, bl⟩, by simpa using g1, KM.le_trans h2 g2, .cons (h3.mono g2) (VRels.int1 (VRels.int1 (VRels.int1 (VRels.int1 g3)))), a, b, rfl, ?_, ?_⟩
      · have := (ArrAt.mono h4 L2).wide0 (lo' := 0) (hi' := (st ++ L1 ++ L2).length) (Nat.le_refl _) (by simp)
        simpa using this
      · simpa using g4
end
end Go.VX.Seat
end
