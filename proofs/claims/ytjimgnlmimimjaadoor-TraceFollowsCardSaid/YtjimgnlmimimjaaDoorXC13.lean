/- A part of the proofs of the statements of layer 17: R3, R4, R5. No condition is added here. -/
import Derived.Test.YtjimgnlmimimjaaDoorRows
import Derived.ProofKit
import Derived.LaidMore
import Derived.OpenShut
import Derived.Stop.Joined
import Derived.Test.YtjimgnlmimimjaaDoorXC12
section
set_option linter.unusedVariables false
set_option linter.unusedSimpArgs false
set_option maxRecDepth 4000
/-! What the condition on the table of forms gives. -/
namespace Go.VX.Seat
open Go.Proofs Go.ChangeShapes
open Go.Proofs.YtjimgnlmimimjaaDoor (Rows.laid_bireme_code_forms)
theorem c147 : Go.Proofs.Tryd.prog.cellsOf 147 = 3 := by kernel_rfl
theorem c9 : Go.Proofs.Tryd.prog.cellsOf 9 = 1 := by kernel_rfl
theorem own : ownKnob Go.Proofs.Tryd.prog.godebug = none := by kernel_rfl
theorem laidOut : laidOutB Go.Proofs.Tryd.prog = true := by kernel_rfl
theorem gForms : Go.Proofs.Tryd.prog.globalNamed "bireme/code.forms" = some 0 := by kernel_rfl
theorem tForms : (Go.Proofs.Tryd.prog.globals[0]?).map (·.type) = some 153 := by kernel_rfl
def formData {H : Type} (i : Nat) : DataW H := .agg [.lit (.int .i64 (usesL.getD i 0)), .lit (.int .i64 (classL.getD i 0)), .lit (.string (nameL.getD i ⟨#[]⟩).data.toList)]
theorem laid_rows {H : Type} : (Rows.laid_bireme_code_forms : DataW H) = .agg ((List.range 25).map formData) := rfl
section
variable {H : Type} {enc : TypeId × Value → H} {W : World}
theorem trod_form {m : Nat} {l : List Value} {y : DataW H × List MemPlace} {i : Nat} {sp : Bool} {hd : Nat → Bool}
    (h : DataW.trod enc Go.Proofs.Tryd.prog W 0 hd sp m 147 l = some y) (hy : y.1 = formData i) : l = [.int .i64 (usesL.getD i 0), .int .i64 (classL.getD i 0), .string (nameL.getD i ⟨#[]⟩)] := by
  obtain ⟨xs, n, _, rfl, hl, hx, hf⟩ := DataW.trod_struct Go.Proofs.Tryd.underlying147 h
  rw [c147] at hl
  have hx : xs.length = 3 := hx
  match l, hl with
  | [v0, v1, v2], _ =>
    have f0 : DataW.trod enc Go.Proofs.Tryd.prog W 0 hd sp n 3 (([v0, v1, v2].drop 0).take (Go.Proofs.Tryd.prog.cellsOf 3)) = xs[0]? := hf 0 _ rfl
    have f1 : DataW.trod enc Go.Proofs.Tryd.prog W 0 hd sp n 3 (([v0, v1, v2].drop 1).take (Go.Proofs.Tryd.prog.cellsOf 3)) = xs[1]? := hf 1 _ rfl
    have f2 : DataW.trod enc Go.Proofs.Tryd.prog W 0 hd sp n 9 (([v0, v1, v2].drop 2).take (Go.Proofs.Tryd.prog.cellsOf 9)) = xs[2]? := hf 2 _ rfl
    match xs, hx with
    | [x0, x1, x2], _ =>
      simp only [c3, c9, List.drop_zero, List.drop_succ_cons, List.take_succ_cons, List.take_zero, List.getElem?_cons_zero, List.getElem?_cons_succ] at f0 f1 f2
      obtain ⟨k0, e0, d0, _⟩ := DataW.trod_int Go.Proofs.Tryd.underlying3 f0
      obtain ⟨k1, e1, d1, _⟩ := DataW.trod_int Go.Proofs.Tryd.underlying3 f1
      obtain ⟨k2, e2, d2, _⟩ := DataW.trod_string Go.Proofs.Tryd.underlying9 f2
      simp at e0 e1 e2
      subst e0 e1 e2 d0 d1 d2
      simp [formData] at hy
      obtain ⟨rfl, rfl, h3⟩ := hy
      have : k2 = nameL.getD i ⟨#[]⟩ := by
        cases k2
        simp at h3
        rw [h3]
        simp
      rw [this]
      simp
theorem forms_cells (h : laidMetH Go.Proofs.Tryd.prog [("bireme/code.forms", Rows.laid_bireme_code_forms)] W) :
    ∀ (o : Nat) (a : AV), formCells[o]? = some a → ∃ v, W.cell? ⟨0, o, none⟩ = some v ∧ ∀ K, VRel K a v := by
  rw [MakeChecks.laidMetH_plain _ _ _ (by kernel_rfl)] at h
  obtain ⟨ps, ⟨g0, t0, cs0, f0, p0, q0, hg0, ht0, hv0, hd0, _⟩, _⟩ := h
  obtain rfl := Option.some.inj (gForms.symm.trans hg0)
  obtain rfl := Option.some.inj (tForms.symm.trans ht0)
  obtain ⟨xs, m1, _, hx1, hlen, hn, hel⟩ := DataW.trod_array Go.Proofs.Tryd.underlying153 hd0
  rw [laid_rows] at hx1
  simp only [Prod.mk.injEq, DataW.agg.injEq] at hx1
  intro o a ho
  have ho75 : o < 75 := (List.getElem?_eq_some_iff.1 ho).1
  have hi : o / 3 < 25 := by omega
  have hr : o % 3 < 3 := by omega
  have hdm : o / 3 * 3 + o % 3 = o := by omega
  have hw := hel (o / 3) hi
  rw [List.getElem?_eq_getElem (by omega), c147] at hw
  have hd : xs[o / 3].1 = formData (o / 3) := by
    have : (xs.map (·.1))[o / 3]? = ((List.range 25).map formData)[o / 3]? := by rw [← hx1.1]
    rw [List.getElem?_map, List.getElem?_map, List.getElem?_range hi, List.getElem?_eq_getElem (by omega)] at this
    simpa using this
  have hl := trod_form hw hd
  have hrow := form_row (o / 3) hi
  have hcell : W.cell? ⟨0, o, none⟩ = ((cs0.toList.drop (o / 3 * 3)).take 3)[o % 3]? := by
    rw [List.getElem?_take, if_pos hr, List.getElem?_drop, hdm, Array.getElem?_toList]
    exact World.var?_cell hg0 hv0 o
  have ha : ((formCells.drop (0 + o / 3 * 3)).take 3)[o % 3]? = some a := by
    rw [List.getElem?_take, if_pos hr, List.getElem?_drop, Nat.zero_add, hdm]
    exact ho
  rw [hl] at hcell
  rw [hrow] at ha
  generalize o % 3 = r at *
  match r, hr with
  | 0, _ => cases ha; exact ⟨_, hcell, fun K => .sc rfl⟩
  | 1, _ => cases ha; exact ⟨_, hcell, fun K => .sc rfl⟩
  | 2, _ => cases ha; exact ⟨_, hcell, fun K => .sc rfl⟩
def K0 : KM := fun b => if b = 0 then some ⟨0, 0, 75⟩ else none
theorem ent0 (h : laidMetH Go.Proofs.Tryd.prog [("bireme/code.forms", Rows.laid_bireme_code_forms)] W) : Ent [0] W K0 [formBox] ∧ 0 < W.heap.size := by
  have hc := forms_cells h
  have hpos : 0 < W.heap.size := by
    obtain ⟨v, hv, _⟩ := hc 0 _ rfl
    exact World.block_lt_of_cell? W _ hv
  have hb : ∀ {b : Nat} {x : Box}, ([formBox] : St)[b]? = some x → b = 0 ∧ x = formBox := fun {b x} h => by
    match b with
    | 0 => simp at h; exact ⟨rfl, h.symm⟩
    | b + 1 => simp at h
  have hk : ∀ {b : Nat} {kb : KB}, K0 b = some kb → b = 0 ∧ kb = ⟨0, 0, 75⟩ := fun {b kb} h => by
    unfold K0 at h
    split at h
    · exact ⟨by assumption, (Option.some.inj h).symm⟩
    · cases h
  refine ⟨⟨?_, fun b x h => by obtain ⟨_, rfl⟩ := hb h; rfl⟩, hpos⟩
  exact {
    below := ⟨rfl, rfl, rfl, Nat.le_refl _, fun _ _ => rfl⟩
    dom := fun b kb h => by obtain ⟨rfl, _⟩ := hk h; decide
    lt := fun b x kb h1 h2 h3 => by obtain ⟨rfl, rfl⟩ := hk h3; exact hpos
    cell := fun b x kb h1 h2 h3 o a h4 => by
      obtain ⟨rfl, rfl⟩ := hb h1
      obtain ⟨_, rfl⟩ := hk h3
      obtain ⟨v, hv, hr⟩ := hc o a h4
      exact ⟨v, by rw [Nat.zero_add]; exact hv, hr _⟩
    live := fun b x kb h1 h2 h3 => by obtain ⟨rfl, rfl⟩ := hb h1; exact absurd h2 (by decide)
    excl := fun b x kb b' x' kb' h1 h2 h3 h4 h5 h6 h7 => by obtain ⟨rfl, rfl⟩ := hb h1; exact absurd h2 (by decide)
    fit := fun b x kb h1 h2 h3 => by
      obtain ⟨rfl, rfl⟩ := hb h1
      obtain ⟨_, rfl⟩ := hk h3
      decide
    glob := fun j g h => by
      match j with
      | 0 => simp at h; subst h; exact ⟨⟨0, 0, 75⟩, rfl, rfl, rfl⟩
      | j + 1 => simp at h }
end
end Go.VX.Seat
end
section
set_option linter.unusedVariables false
set_option linter.unusedSimpArgs false
set_option maxRecDepth 4000
/-! From the walks to the machine's call. -/
namespace Go.VX.Seat
open Go.Proofs Go.ChangeShapes Go.WideShapes
open Go.RowKit (Below)
open Go.Proofs.YtjimgnlmimimjaaDoor (Rows.laid_bireme_code_forms)
theorem onH : OnH XS := { onXS with find := fun _ _ _ _ _ h => .inl h, alive := fun st h => .inr ⟨rfl, rfl, rfl, rfl, h⟩ }
section
variable {H : Type} {enc : TypeId × Value → H} {W : World}
theorem unit_in (hL : laidMetH Go.Proofs.Tryd.prog [("bireme/code.forms", Rows.laid_bireme_code_forms)] W) {r : Reach} {b0 : Nat} {v : Value} {d : DataW H} {ps : List MemPlace} (hval : Value.okWide Go.Proofs.Tryd.prog W r b0 25 v)
    (h : DataW.Trod enc Go.Proofs.Tryd.prog W 0 (fun _ => true) true 25 v d ps) : ∃ (K : KM) (st : St) (av : AV) (U : UnitV), WRel W.heap.size W [0] K st W ∧ GB st ∧ VRel K av v ∧ UnitAt st 0 st.length av U := by
  obtain ⟨hE, hpos⟩ := ent0 hL
  obtain ⟨cs, rfl, _⟩ := okWide_struct Go.Proofs.Tryd.underlying25 hval
  obtain ⟨fuel, hf⟩ := h
  obtain ⟨K, L, ws, U, h1, _, h3, h4⟩ := reads_unit ⟨0, rfl, hpos⟩ K0 [formBox] fuel _ _ hE hf
  exact ⟨K, _, .agg ws, U, h1.rel, rfl, .agg h3, h4⟩
theorem law_true {f : FuncId} {ws : List AV} {st : St} {K : KM} {args : List Value} (hw : wpF XS f ws st fun r s => r = .ret (bA true) ∧ ∃ m, s = st ++ m) (hW : WRel W.heap.size W [0] K st W) (hargs : VRels K ws args) :
    Calls Go.Proofs.Tryd.prog f args.toArray W fun e W' => e = .returned (.bool true) ∧ Below W.heap.size W W' := by
  obtain ⟨r, s, j, rfl, _⟩ := hw
  refine (seat_sound j W.heap.size W K W args hW (Nat.le_refl _) hargs).mono fun e W' hp => ?_
  obtain ⟨K', hW', _, v', rfl, hv⟩ := hp
  cases hv
  exact ⟨rfl, hW'.below⟩
end
/-- The heap at the door meets the condition. -/
theorem door_met (os : Os) (args : Array Value) : laidMetH Go.Proofs.Tryd.prog [("bireme/code.forms", Rows.laid_bireme_code_forms)] ((World.doorLaid Go.Proofs.Tryd.prog 400 os).forCall (fun _ _ => 0) ⟨#[], args, []⟩).memory :=
  laidMetH_of_parts3 (fuel := 8) (laidMet_of_run' 8 (by kernel_rfl) (by kernel_rfl)) (by kernel_rfl) (by kernel_rfl)
end Go.VX.Seat
end
section
set_option linter.unusedVariables false
set_option linter.unusedSimpArgs false
set_option maxRecDepth 4000
/-! Profiles, read out of what comes in. -/
namespace Go.VX.Seat
open Go.Proofs Go.ChangeShapes Go.WideShapes
open Go.RowKit (Below)
open Go.Proofs.YtjimgnlmimimjaaDoor (Rows.laid_bireme_code_forms)
theorem c84 : Go.Proofs.Tryd.prog.cellsOf 84 = 3 := by kernel_rfl
theorem c35 : Go.Proofs.Tryd.prog.cellsOf 35 = 1 := by kernel_rfl
section
variable {H : Type} {enc : TypeId × Value → H} {W : World} {gl : List Nat}
theorem reads_cnt : Reads enc Go.Proofs.Tryd.prog W gl 84 (fun _ ws (o : CntV) => ws = o.row) := by
  intro K st n vs x hE h
  obtain ⟨xs, m, _, _, hl, hx, hf⟩ := DataW.trod_struct Go.Proofs.Tryd.underlying84 h
  rw [c84] at hl
  have hx : xs.length = 3 := hx
  match vs, hl with
  | [v0, v1, v2], _ =>
    have f0 : DataW.trod enc Go.Proofs.Tryd.prog W 0 (fun _ => true) true m 3 (([v0, v1, v2].drop 0).take (Go.Proofs.Tryd.prog.cellsOf 3)) = xs[0]? := hf 0 _ rfl
    have f1 : DataW.trod enc Go.Proofs.Tryd.prog W 0 (fun _ => true) true m 3 (([v0, v1, v2].drop 1).take (Go.Proofs.Tryd.prog.cellsOf 3)) = xs[1]? := hf 1 _ rfl
    have f2 : DataW.trod enc Go.Proofs.Tryd.prog W 0 (fun _ => true) true m 3 (([v0, v1, v2].drop 2).take (Go.Proofs.Tryd.prog.cellsOf 3)) = xs[2]? := hf 2 _ rfl
    rw [List.getElem?_eq_getElem (by omega)] at f0 f1 f2
    simp only [c3, List.drop_zero, List.drop_succ_cons, List.take_succ_cons, List.take_zero] at f0 f1 f2
    obtain ⟨k0, e0, _⟩ := DataW.trod_int Go.Proofs.Tryd.underlying3 f0
    obtain ⟨k1, e1, _⟩ := DataW.trod_int Go.Proofs.Tryd.underlying3 f1
    obtain ⟨k2, e2, _⟩ := DataW.trod_int Go.Proofs.Tryd.underlying3 f2
    simp at e0 e1 e2
    subst e0 e1 e2
    exact ⟨K, [], _, ⟨k0, k1, k2⟩, by simpa using hE, KM.le_refl K, VRels.int1 (VRels.int1 (VRels.int1 .nil)), rfl⟩
theorem reads_cnts (hg : ∃ g, gl[0]? = some g ∧ g < W.heap.size) : Reads enc Go.Proofs.Tryd.prog W gl 35 (fun st ws (l : List CntV) => ∃ a, ws = [a] ∧ CntsAt st 0 st.length a l) := by
  intro K st n vs x hE h
  obtain ⟨K', L, ws, us, h1, h2, h3, a, rows, rfl, h4, h5, h6⟩ := reads_slice (R := fun _ ws (o : CntV) => ws = o.row) (fun _ _ _ _ h => h) Go.Proofs.Tryd.underlying35 c84 (by decide) hg reads_cnt K st n vs x hE h
  obtain rfl := rows_map (f := CntV.row) h5 h6
  exact ⟨K', L, [a], us, h1, h2, h3, a, rfl, h4⟩
end
section
variable {H : Type} {enc : TypeId × Value → H} {W : World}
theorem unit_prof_in (hL : laidMetH Go.Proofs.Tryd.prog [("bireme/code.forms", Rows.laid_bireme_code_forms)] W) {r : Reach} {b0 : Nat} {v v' : Value} {d d' : DataW H} {ps ps' : List MemPlace} (hval : Value.okWide Go.Proofs.Tryd.prog W r b0 25 v)
    (h : DataW.Trod enc Go.Proofs.Tryd.prog W 0 (fun _ => true) true 25 v d ps) (hval' : Value.okWide Go.Proofs.Tryd.prog W r b0 35 v') (h' : DataW.Trod enc Go.Proofs.Tryd.prog W 0 (fun _ => true) true 35 v' d' ps') :
    ∃ (K : KM) (st : St) (av pv : AV) (U : UnitV) (P : List CntV), WRel W.heap.size W [0] K st W ∧ GB st ∧ VRel K av v ∧ VRel K pv v' ∧ UnitAt st 0 st.length av U ∧ CntsAt st 0 st.length pv P := by
  obtain ⟨hE, hpos⟩ := ent0 hL
  obtain ⟨cs, rfl, _⟩ := okWide_struct Go.Proofs.Tryd.underlying25 hval
  obtain ⟨a', len', cap', rfl⟩ := okWide_slice Go.Proofs.Tryd.underlying35 hval'
  obtain ⟨fuel, hf⟩ := h
  obtain ⟨fuel', hf'⟩ := h'
  obtain ⟨K, L, ws, U, h1, _, h3, h4⟩ := reads_unit ⟨0, rfl, hpos⟩ K0 [formBox] fuel _ _ hE hf
  obtain ⟨K2, L2, ws2, P, g1, g2, g3, a, rfl, g4⟩ := reads_cnts ⟨0, rfl, hpos⟩ K _ fuel' _ _ h1 hf'
  cases g3 with
  | cons g3 _ =>
    refine ⟨K2, _, .agg ws, a, U, P, g1.rel, rfl, (VRel.agg h3).mono g2, g3, ?_, g4⟩
    obtain ⟨s, bl, e, hs, f, hb, hbo⟩ := UnitAt.mono h4 L2
    exact ⟨s, bl, e, hs.wide0 (Nat.le_refl _) (by simp), f, hb.wide0 (Nat.le_refl _) (by simp), fun i hi => (hbo i hi).wide0 (Nat.le_refl _) (by simp)⟩
end
end Go.VX.Seat
end
