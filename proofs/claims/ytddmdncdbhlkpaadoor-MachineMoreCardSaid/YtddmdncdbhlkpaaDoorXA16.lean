/- A part of the proofs of the statements of one layer: R4n, R5m, R6m. No condition is added here. -/
import Derived.Lay
import Derived.Test.YtddmdncdbhlkpaaDoorXA15
section
set_option linter.unusedVariables false
set_option linter.unusedSimpArgs false
set_option maxRecDepth 4000
/-! From the walks to the machine's call; the world at the door. -/
namespace Go.VX.Seat
open Go.Proofs Go.ChangeShapes Go.WideShapes
open Go.RowKit (Below)
section
variable {H : Type} {enc : TypeId × Value → H} {W : World}
theorem law_true {f : FuncId} {ws : List AV} {st : St} {K : KM} {args : List Value} (hc : Callable Go.Proofs.Tryd.prog f) (hw : wpF XS f ws st fun r s => r = .ret (bA true) ∧ ∃ m, s = st ++ m) (hE : Ent [0, 3, 4] W K st) (hargs : VRels K ws args) :
    Calls Go.Proofs.Tryd.prog f args.toArray W fun e W' => e = .returned (.bool true) ∧ Below W.heap.size W W' := by
  obtain ⟨r, s, j, rfl, _⟩ := hw
  refine ((seat_sound j).c hc W.heap.size W K W args hE.rel (Nat.le_refl _) hargs).mono fun e W' hp => ?_
  obtain ⟨K', hW', _, v', rfl, hv⟩ := hp
  cases hv
  exact ⟨rfl, hW'.below⟩
end
/-- The world at the door: the listed variables laid. -/
noncomputable def doorW (os : Os) : World := World.laidAll Go.Proofs.Tryd.prog os laidL
theorem doorW_os (os : Os) : (doorW os).os = os := World.laidAll_os _ _ _
theorem door_met (os : Os) (args : Array Value) : laidMetH Go.Proofs.Tryd.prog laidL ((doorW os).forCall (fun _ _ => 0) ⟨#[], args, []⟩).memory := by
  rw [MakeChecks.laidMetH_plain _ _ _ (by kernel_rfl)]
  exact laidMet_laidAll args (by kernel_rfl) (by kernel_rfl)
end Go.VX.Seat
end
section
set_option linter.unusedVariables false
set_option linter.unusedSimpArgs false
set_option maxRecDepth 4000
/-! Machines, read out of what comes in. -/
namespace Go.VX
/-- The type's cells are ints, side by side. -/
def onlyI (P : Program) : Nat → TypeId → Bool
  | 0, _ => false
  | n + 1, t => match P.underlying t with
    | some (.int .i64) => true
    | some (.struct fs) => tilesFs P.cellsOf (onlyI P n) (P.cellsOf t) fs.toList 0
    | some (.array m e) => onlyI P n e && Nat.beq (m * P.cellsOf e) (P.cellsOf t)
    | _ => false
section
variable {H : Type} {enc : TypeId × Value → H} {P : Program} {W : World}
theorem trod_ints {hd : Nat → Bool} {sp : Bool} : ∀ (n : Nat) (t : TypeId) (m : Nat) (cs : List Value) (x : DataW H × List MemPlace), onlyI P n t = true → DataW.trod enc P W 0 hd sp m t cs = some x → ∀ v ∈ cs, ∃ z : Int, v = .int .i64 z
  | 0, t, m, cs, x, h, _ => by cases h
  | n + 1, t, m, cs, x, h, ht => by
    unfold onlyI at h
    split at h
    · rename_i hu
      obtain ⟨v, rfl, rfl, _⟩ := DataW.trod_int hu ht
      intro u hu2
      exact ⟨v, by simpa using hu2⟩
    · rename_i fs hu
      obtain ⟨xs, m', _, rfl, hl, hx, hf⟩ := DataW.trod_struct hu ht
      have hp := tilesFs_piece hl fs.toList 0 h
      have hok := tilesFs_ok fs.toList 0 h
      simp only [List.drop_zero] at hp
      intro u hu2
      rw [← hp, List.mem_flatten] at hu2
      obtain ⟨l, hl1, hl2⟩ := hu2
      obtain ⟨f, hf1, rfl⟩ := List.mem_map.1 hl1
      obtain ⟨i, hi, rfl⟩ := List.getElem_of_mem hf1
      have := hf i fs.toList[i] (by rw [Array.getElem?_eq_getElem (by simpa using hi)]; simp)
      rw [List.getElem?_eq_getElem (by rw [hx]; simpa using hi)] at this
      exact trod_ints n _ m' _ _ (hok _ hf1) this u hl2
    · rename_i k e hu
      simp only [Bool.and_eq_true] at h
      obtain ⟨xs, m', _, rfl, hl, hx, hf⟩ := DataW.trod_array hu ht
      have hs : k * P.cellsOf e = P.cellsOf t := Nat.eq_of_beq_eq_true h.2
      have hp := pieces_row (cs := cs) (s := P.cellsOf e) 0 k (by rw [hl, ← hs, Nat.zero_add])
      simp only [Nat.zero_mul, List.drop_zero] at hp
      intro u hu2
      rw [← hp, List.mem_flatten] at hu2
      obtain ⟨l, hl1, hl2⟩ := hu2
      obtain ⟨i, hi1, rfl⟩ := List.mem_map.1 hl1
      have hi : i < k := by simpa using hi1
      have := hf i hi
      rw [List.getElem?_eq_getElem (by omega)] at this
      exact trod_ints n _ m' _ _ h.1 this u hl2
    · cases h
theorem trod_size {hd : Nat → Bool} {sp : Bool} {fs : Array Field} {t : TypeId} {m : Nat} {cs : List Value} {x : DataW H × List MemPlace} (hu : P.underlying t = some (.struct fs)) (ht : DataW.trod enc P W 0 hd sp m t cs = some x) : cs.length = P.cellsOf t := by
  obtain ⟨xs, m', _, rfl, hl, hx, hf⟩ := DataW.trod_struct hu ht
  exact hl
namespace Seat
open Go.Proofs
theorem c_mach : Go.Proofs.Tryd.prog.cellsOf 24 = 11 := by kernel_rfl
theorem only_mach : onlyI Go.Proofs.Tryd.prog 4 24 = true := by kernel_rfl
theorem reads_mach {gl : List Nat} : Reads enc Go.Proofs.Tryd.prog W gl 24 (fun _ cs (m : MachV) => cs = m.row) := by
  intro K st n vs x hE h
  have hl := trod_size Go.Proofs.Tryd.underlying24 h
  have hv := trod_ints 4 _ _ _ _ only_mach h
  rw [c_mach] at hl
  match vs, hl with
  | [v0, v1, v2, v3, v4, v5, v6, v7, v8, v9, v10], _ =>
    obtain ⟨z0, rfl⟩ := hv v0 (by simp)
    obtain ⟨z1, rfl⟩ := hv v1 (by simp)
    obtain ⟨z2, rfl⟩ := hv v2 (by simp)
    obtain ⟨z3, rfl⟩ := hv v3 (by simp)
    obtain ⟨z4, rfl⟩ := hv v4 (by simp)
    obtain ⟨z5, rfl⟩ := hv v5 (by simp)
    obtain ⟨z6, rfl⟩ := hv v6 (by simp)
    obtain ⟨z7, rfl⟩ := hv v7 (by simp)
    obtain ⟨z8, rfl⟩ := hv v8 (by simp)
    obtain ⟨z9, rfl⟩ := hv v9 (by simp)
    obtain ⟨z10, rfl⟩ := hv v10 (by simp)
    exact ⟨K, [], _, ⟨z0, z1, z2, z3, z4, z5, z6, z7, z8, z9, z10⟩, by simpa using hE, KM.le_refl K, VRels.int1 (VRels.int1 (VRels.int1 (VRels.int1 (VRels.int1 (VRels.int1 (VRels.int1 (VRels.int1 (VRels.int1 (VRels.int1 (VRels.int1 .nil)))))))))), rfl⟩
end Seat
end
end Go.VX
end
section
set_option linter.unusedVariables false
set_option linter.unusedSimpArgs false
set_option maxRecDepth 4000
/-! Five bytes in a row, read out of what comes in. -/
namespace Go.VX
theorem okWide_array {P : Program} {w : World} {r : Reach} {base : Nat} {t e : TypeId} {n : Nat} {v : Value} (ht : P.underlying t = some (.array n e)) (h : Value.okWide P w r base t v) : ∃ cs, v = .agg cs ∧ cs.size = P.cellsOf t := by
  simp only [Value.okWide, ht] at h
  obtain ⟨cs, h1, h2, _⟩ := h
  exact ⟨cs, h1, h2⟩
theorem VRels.u81 {K : KM} {n : Int} {cs : List AV} {vs : List Value} (h : VRels K cs vs) : VRels K (.sc (.int .u8 n) :: cs) (.int .u8 n :: vs) := .cons (.sc rfl) h
theorem VRels.head {K : KM} {a : AV} {v : Value} {l : List AV} {m : List Value} (h : VRels K (a :: l) (v :: m)) : VRel K a v := by
  cases h with
  | cons h _ => exact h
/-- Five bytes. -/
structure By5 where
  a : Int
  b : Int
  c : Int
  d : Int
  e : Int
def By5.row (x : By5) : List AV := [.sc (.int .u8 x.a), .sc (.int .u8 x.b), .sc (.int .u8 x.c), .sc (.int .u8 x.d), .sc (.int .u8 x.e)]
def byB (n : Int) : Prop := 0 ≤ n ∧ n ≤ 255
def By5.ok (x : By5) : Prop := byB x.a ∧ byB x.b ∧ byB x.c ∧ byB x.d ∧ byB x.e
namespace Seat
open Go.Proofs
section
variable {H : Type} {enc : TypeId × Value → H} {W : World}
theorem c_by5 : Go.Proofs.Tryd.prog.cellsOf 48 = 5 := by kernel_rfl
theorem c_byt : Go.Proofs.Tryd.prog.cellsOf 5 = 1 := by kernel_rfl
theorem reads_by5 {gl : List Nat} : Reads enc Go.Proofs.Tryd.prog W gl 48 (fun _ cs (x : By5) => cs = x.row ∧ x.ok) := by
  intro K st n vs x hE h
  obtain ⟨xs, m, _, _, hl, hx, hf⟩ := DataW.trod_array Go.Proofs.Tryd.underlying48 h
  rw [c_by5] at hl
  match vs, hl with
  | [v0, v1, v2, v3, v4], _ =>
    have get : ∀ (i : Nat), i < 5 → ∃ k, ([v0, v1, v2, v3, v4].drop i).take 1 = [Value.int .u8 k] ∧ byB k := fun i hi => by
      have h := hf i hi
      rw [List.getElem?_eq_getElem (by omega), c_byt, Nat.mul_one] at h
      obtain ⟨k, e, _, hw⟩ := DataW.trod_int Go.Proofs.Tryd.underlying5 h
      refine ⟨k, e, ?_⟩
      simp only [Lit.wf, Bool.and_eq_true, decide_eq_true_eq] at hw
      exact hw
    obtain ⟨k0, e0, w0⟩ := get 0 (by omega)
    obtain ⟨k1, e1, w1⟩ := get 1 (by omega)
    obtain ⟨k2, e2, w2⟩ := get 2 (by omega)
    obtain ⟨k3, e3, w3⟩ := get 3 (by omega)
    obtain ⟨k4, e4, w4⟩ := get 4 (by omega)
    simp at e0 e1 e2 e3 e4
    subst e0 e1 e2 e3 e4
    exact ⟨K, [], _, ⟨k0, k1, k2, k3, k4⟩, by simpa using hE, KM.le_refl K, VRels.u81 (VRels.u81 (VRels.u81 (VRels.u81 (VRels.u81 .nil)))), rfl, w0, w1, w2, w3, w4⟩
end
end Seat
end Go.VX
end
