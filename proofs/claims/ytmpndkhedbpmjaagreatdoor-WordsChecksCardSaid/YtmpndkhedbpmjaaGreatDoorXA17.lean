/- A part of the proofs of the statements of one layer: R4n, R5m, R7, R8. No condition is added here. -/
import Derived.Lay
import Derived.Test.YtmpndkhedbpmjaaGreatDoorXA16
set_option linter.unusedVariables false
set_option linter.unusedSimpArgs false
section
set_option maxRecDepth 4000
namespace Go.VX.Seat
open Go.Proofs Go.ChangeShapes Go.WideShapes
open Go.RowKit (Below)
section
variable {H : Type} {enc : TypeId × Value → H} {W : World}
theorem law_true {f : FuncId} {ws : List AV} {st : St} {K : KM} {args : List Value} (hc : Callable Go.Proofs.Tryz.prog f) (hw : wpF XS f ws st fun r s => r = .ret (bA true) ∧ ∃ m, s = st ++ m) (hE : Ent [0, 1, 2] W K st) (hargs : VRels K ws args) :
    Calls Go.Proofs.Tryz.prog f args.toArray W fun e W' => e = .returned (.bool true) ∧ Below W.heap.size W W' := by
  obtain ⟨r, s, j, rfl, _⟩ := hw
  refine ((seat_sound j).c hc W.heap.size W K W args hE.rel (Nat.le_refl _) hargs).mono fun e W' hp => ?_
  obtain ⟨K', hW', _, v', rfl, hv⟩ := hp
  cases hv
  exact ⟨rfl, hW'.below⟩
end
noncomputable def doorW (os : Os) : World := World.laidAll Go.Proofs.Tryz.prog os laidL
theorem doorW_os (os : Os) : (doorW os).os = os := World.laidAll_os _ _ _
theorem door_met (os : Os) (args : Array Value) : laidMetH Go.Proofs.Tryz.prog laidL ((doorW os).forCall (fun _ _ => 0) ⟨#[], args, []⟩).memory := by
  rw [MakeChecks.laidMetH_plain _ _ _ (by kernel_rfl)]
  exact laidMet_laidAll args (by kernel_rfl) (by kernel_rfl)
end Go.VX.Seat
end
section
set_option maxRecDepth 4000
namespace Go.VX
def onlyI (P : Program) : Nat → TypeId → Bool
  | 0, _ => false
  | n + 1, t => match P.underlying t with
    | some (.int .i64) => true
    | some (.struct fs) => tilesFs P.cellsOf (onlyI P n) (P.cellsOf t) fs.toList 0
    | some (.array m e) => onlyI P n e && Nat.beq (m * P.cellsOf e) (P.cellsOf t)
    | _ => false
section
variable {H : Type} {enc : TypeId × Value → H} {P : Program} {W : World}
theorem trod_ints {hd : Nat → Bool} {sp : Bool} : ∀ (n : Nat) (t : TypeId) (m : Nat) (cs : List Value) (x : DataW H × List MemPlace), onlyI P n t = true → DataW.trod enc P W 0 hd sp m t cs = some x → ∀ v ∈ cs, ∃ z : Int, v = .int .i64 z
  | 0, t, m, cs, x, h, _ => by cases h
  | n + 1, t, m, cs, x, h, ht => by
    unfold onlyI at h
    split at h
    · rename_i hu
      obtain ⟨v, rfl, rfl, _⟩ := DataW.trod_int hu ht
      intro u hu2
      exact ⟨v, by simpa using hu2⟩
    · rename_i fs hu
      obtain ⟨xs, m', _, rfl, hl, hx, hf⟩ := DataW.trod_struct hu ht
      have hp := tilesFs_piece hl fs.toList 0 h
      have hok := tilesFs_ok fs.toList 0 h
      simp only [List.drop_zero] at hp
      intro u hu2
      rw [← hp, List.mem_flatten] at hu2
      obtain ⟨l, hl1, hl2⟩ := hu2
      obtain ⟨f, hf1, rfl⟩ := List.mem_map.1 hl1
      obtain ⟨i, hi, rfl⟩ := List.getElem_of_mem hf1
      have := hf i fs.toList[i] (by rw [Array.getElem?_eq_getElem (by simpa using hi)]; simp)
      rw [List.getElem?_eq_getElem (by rw [hx]; simpa using hi)] at this
      exact trod_ints n _ m' _ _ (hok _ hf1) this u hl2
    · rename_i k e hu
      simp only [Bool.and_eq_true] at h
      obtain ⟨xs, m', _, rfl, hl, hx, hf⟩ := DataW.trod_array hu ht
      have hs : k * P.cellsOf e = P.cellsOf t := Nat.eq_of_beq_eq_true h.2
      have hp := pieces_row (cs := cs) (s := P.cellsOf e) 0 k (by rw [hl, ← hs, Nat.zero_add])
      simp only [Nat.zero_mul, List.drop_zero] at hp
      intro u hu2
      rw [← hp, List.mem_flatten] at hu2
      obtain ⟨l, hl1, hl2⟩ := hu2
      obtain ⟨i, hi1, rfl⟩ := List.mem_map.1 hl1
      have hi : i < k := by simpa using hi1
      have := hf i hi
      rw [List.getElem?_eq_getElem (by omega)] at this
      exact trod_ints n _ m' _ _ h.1 this u hl2
    · cases h
theorem trod_size {hd : Nat → Bool} {sp : Bool} {fs : Array Field} {t : TypeId} {m : Nat} {cs : List Value} {x : DataW H × List MemPlace} (hu : P.underlying t = some (.struct fs)) (ht : DataW.trod enc P W 0 hd sp m t cs = some x) : cs.length = P.cellsOf t := by
  obtain ⟨xs, m', _, rfl, hl, hx, hf⟩ := DataW.trod_struct hu ht
  exact hl
namespace Seat
open Go.Proofs
theorem c_mach : Go.Proofs.Tryz.prog.cellsOf 61 = 11 := by kernel_rfl
theorem only_mach : onlyI Go.Proofs.Tryz.prog 4 61 = true := by kernel_rfl
theorem reads_mach {gl : List Nat} : Reads enc Go.Proofs.Tryz.prog W gl 61 (fun _ cs (m : MachV) => cs = m.row) := by
  intro K st n vs x hE h
  have hl := trod_size Go.Proofs.Tryz.underlying61 h
  have hv := trod_ints 4 _ _ _ _ only_mach h
  rw [c_mach] at hl
  match vs, hl with
  | [v0, v1, v2, v3, v4, v5, v6, v7, v8, v9, v10], _ =>
    obtain ⟨z0, rfl⟩ := hv v0 (by simp)
    obtain ⟨z1, rfl⟩ := hv v1 (by simp)
    obtain ⟨z2, rfl⟩ := hv v2 (by simp)
    obtain ⟨z3, rfl⟩ := hv v3 (by simp)
    obtain ⟨z4, rfl⟩ := hv v4 (by simp)
    obtain ⟨z5, rfl⟩ := hv v5 (by simp)
    obtain ⟨z6, rfl⟩ := hv v6 (by simp)
    obtain ⟨z7, rfl⟩ := hv v7 (by simp)
    obtain ⟨z8, rfl⟩ := hv v8 (by simp)
    obtain ⟨z9, rfl⟩ := hv v9 (by simp)
    obtain ⟨z10, rfl⟩ := hv v10 (by simp)
    exact ⟨K, [], _, ⟨z0, z1, z2, z3, z4, z5, z6, z7, z8, z9, z10⟩, by simpa using hE, KM.le_refl K, VRels.int1 (VRels.int1 (VRels.int1 (VRels.int1 (VRels.int1 (VRels.int1 (VRels.int1 (VRels.int1 (VRels.int1 (VRels.int1 (VRels.int1 .nil)))))))))), rfl⟩
end Seat
end
end Go.VX
end
section
set_option maxRecDepth 4000
namespace Go.VX.Seat
open Go.Proofs
theorem c_wrds : Go.Proofs.Tryz.prog.cellsOf 23 = 1 := by kernel_rfl
theorem c_cod : Go.Proofs.Tryz.prog.cellsOf 25 = 6 := by kernel_rfl
theorem c_wrd : Go.Proofs.Tryz.prog.cellsOf 68 = 2 := by kernel_rfl
section
variable {H : Type} {enc : TypeId × Value → H} {W : World} {gl : List Nat}
theorem reads_wrd (hg : ∃ g, gl[0]? = some g ∧ g < W.heap.size) : Reads enc Go.Proofs.Tryz.prog W gl 68 (fun st cs (b : WrdV) => ∃ a, cs = b.row a ∧ OpsAt st 0 st.length a b.ops) := by
  intro K st n vs x hE h
  obtain ⟨xs, m, _, _, hl, hx, hf⟩ := DataW.trod_struct Go.Proofs.Tryz.underlying68 h
  rw [c_wrd] at hl
  have hx : xs.length = 2 := hx
  match vs, hl with
  | [v0, v1], _ =>
    have f0 : DataW.trod enc Go.Proofs.Tryz.prog W 0 (fun _ => true) true m 66 (([v0, v1].drop 0).take (Go.Proofs.Tryz.prog.cellsOf 66)) = xs[0]? := hf 0 _ rfl
    have f2 : DataW.trod enc Go.Proofs.Tryz.prog W 0 (fun _ => true) true m 3 (([v0, v1].drop 1).take (Go.Proofs.Tryz.prog.cellsOf 3)) = xs[1]? := hf 1 _ rfl
    rw [List.getElem?_eq_getElem (by omega)] at f0 f2
    simp only [c_ops, c_int, List.drop_zero, List.drop_succ_cons, List.take_succ_cons, List.take_zero] at f0 f2
    obtain ⟨k5, e5, _⟩ := DataW.trod_int Go.Proofs.Tryz.underlying3 f2
    simp at e5
    subst e5
    obtain ⟨K', L, cs, ops, h1, h2, h3, a, rfl, h4⟩ := reads_ops hg K st m _ _ hE f0
    cases h3 with
    | cons h3 _ => exact ⟨K', L, _, ⟨ops, k5⟩, h1, h2, .cons h3 (VRels.int1 .nil), a, rfl, h4⟩
theorem reads_wrds (hg : ∃ g, gl[0]? = some g ∧ g < W.heap.size) : Reads enc Go.Proofs.Tryz.prog W gl 23 (fun st cs (l : List WrdV) => ∃ a, cs = [a] ∧ WrdsAt st 0 st.length a l) := by
  intro K st n vs x hE h
  obtain ⟨K', L, cs, us, h1, h2, h3, a, rows, rfl, h4, h5, h6⟩ := reads_slice (R := fun st cs (b : WrdV) => ∃ a, cs = b.row a ∧ OpsAt st 0 st.length a b.ops) (fun st L cs u h => by
    obtain ⟨a, h1, h2⟩ := h
    exact ⟨a, h1, (ArrAt.mono h2 L).wide0 (Nat.le_refl _) (by simp)⟩) Go.Proofs.Tryz.underlying23 c_wrd (by decide) hg (reads_wrd hg) K st n vs x hE h
  have hrow : rows = us.mapIdx fun i b => b.row ((rows[i]?.getD []).headD (iA 0)) := List.ext_getElem (by simpa using h5) fun i i1 i2 => by
    obtain ⟨a, e, _⟩ := h6 i i1 (by omega)
    rw [List.getElem_mapIdx, List.getElem?_eq_getElem i1, e]
    rfl
  refine ⟨K', L, [a], us, h1, h2, h3, a, rfl, fun i => (rows[i]?.getD []).headD (iA 0), by rw [← hrow]; exact h4, fun i hi => ?_⟩
  obtain ⟨a, e, ha⟩ := h6 i (by omega) hi
  show OpsAt _ _ _ ((rows[i]?.getD []).headD (iA 0)) _
  rw [List.getElem?_eq_getElem (by omega), e]
  exact ha
theorem reads_cod (hg : ∃ g, gl[0]? = some g ∧ g < W.heap.size) : Reads enc Go.Proofs.Tryz.prog W gl 25 (fun st cs (u : CodV) => CodAt st 0 st.length (.agg cs) u) := by
  intro K st n vs x hE h
  obtain ⟨xs, m, _, _, hl, hx, hf⟩ := DataW.trod_struct Go.Proofs.Tryz.underlying25 h
  rw [c_cod] at hl
  have hx : xs.length = 6 := hx
  match vs, hl with
  | [v0, v1, v2, v3, v4, v5], _ =>
    have f0 : DataW.trod enc Go.Proofs.Tryz.prog W 0 (fun _ => true) true m 22 (([v0, v1, v2, v3, v4, v5].drop 0).take (Go.Proofs.Tryz.prog.cellsOf 22)) = xs[0]? := hf 0 _ rfl
    have f1 : DataW.trod enc Go.Proofs.Tryz.prog W 0 (fun _ => true) true m 3 (([v0, v1, v2, v3, v4, v5].drop 1).take (Go.Proofs.Tryz.prog.cellsOf 3)) = xs[1]? := hf 1 _ rfl
    have f2 : DataW.trod enc Go.Proofs.Tryz.prog W 0 (fun _ => true) true m 3 (([v0, v1, v2, v3, v4, v5].drop 2).take (Go.Proofs.Tryz.prog.cellsOf 3)) = xs[2]? := hf 2 _ rfl
    have f3 : DataW.trod enc Go.Proofs.Tryz.prog W 0 (fun _ => true) true m 3 (([v0, v1, v2, v3, v4, v5].drop 3).take (Go.Proofs.Tryz.prog.cellsOf 3)) = xs[3]? := hf 3 _ rfl
    have f4 : DataW.trod enc Go.Proofs.Tryz.prog W 0 (fun _ => true) true m 3 (([v0, v1, v2, v3, v4, v5].drop 4).take (Go.Proofs.Tryz.prog.cellsOf 3)) = xs[4]? := hf 4 _ rfl
    have f5 : DataW.trod enc Go.Proofs.Tryz.prog W 0 (fun _ => true) true m 23 (([v0, v1, v2, v3, v4, v5].drop 5).take (Go.Proofs.Tryz.prog.cellsOf 23)) = xs[5]? := hf 5 _ rfl
    rw [List.getElem?_eq_getElem (by omega)] at f0 f1 f2 f3 f4 f5
    simp only [c_ints, c_wrds, c_int, List.drop_zero, List.drop_succ_cons, List.take_succ_cons, List.take_zero] at f0 f1 f2 f3 f4 f5
    obtain ⟨k1, e1, _⟩ := DataW.trod_int Go.Proofs.Tryz.underlying3 f1
    obtain ⟨k2, e2, _⟩ := DataW.trod_int Go.Proofs.Tryz.underlying3 f2
    obtain ⟨k3, e3, _⟩ := DataW.trod_int Go.Proofs.Tryz.underlying3 f3
    obtain ⟨k4, e4, _⟩ := DataW.trod_int Go.Proofs.Tryz.underlying3 f4
    simp at e1 e2 e3 e4
    subst e1 e2 e3 e4
    obtain ⟨K1, L1, cs, sz, h1, h2, h3, a, rfl, h4⟩ := reads_nums hg K st m _ _ hE f0
    obtain ⟨K2, L2, cs, bl, g1, g2, g3, b, rfl, g4⟩ := reads_wrds hg K1 (st ++ L1) m _ _ h1 f5
    cases h3 with
    | cons h3 _ =>
      refine ⟨K2, L1 ++ L2, _, ⟨sz, k1, k2, k3, k4, bl⟩, by simpa using g1, KM.le_trans h2 g2, .cons (h3.mono g2) (VRels.int1 (VRels.int1 (VRels.int1 (VRels.int1 g3)))), a, b, rfl, ?_, ?_⟩
      · have := (ArrAt.mono h4 L2).wide0 (lo' := 0) (hi' := (st ++ L1 ++ L2).length) (Nat.le_refl _) (by simp)
        simpa using this
      · simpa using g4
end
end Go.VX.Seat
end
section
/-! What layer 26 reads. -/
end
