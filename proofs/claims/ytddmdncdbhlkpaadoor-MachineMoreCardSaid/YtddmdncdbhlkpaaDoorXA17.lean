/- A part of the proofs of the statements of one layer: M17. No condition is added here. -/
import Derived.Test.YtddmdncdbhlkpaaDoorXA16
section
set_option linter.unusedVariables false
set_option linter.unusedSimpArgs false
set_option maxRecDepth 4000
/-! The law MachineMore. -/
namespace Go.VX.Seat
open Go.Proofs
def moreM (m : MachV) (x : By5) : MachV :=
  { m with
    u0 := IntKind.wrap .i64 (m.u0 + Int.tmod x.a 3), u1 := IntKind.wrap .i64 (m.u1 + Int.tmod x.b 3), u2 := IntKind.wrap .i64 (m.u2 + Int.tmod x.c 3), u3 := IntKind.wrap .i64 (m.u3 + Int.tmod x.d 3),
    ports := IntKind.wrap .i64 (m.ports + Int.tmod x.e 4) }
theorem c_rem8 (P : Program) (t : TypeId) (a b : Int) (hb : b ≠ 0) (ox oy : Operand) : closed P (do eqGuard .rem t ox oy (.int .u8 a) (.int .u8 b); binOp .rem t (.int .u8 a) (.int .u8 b)) = some (.int .u8 (Int.tmod a b)) := by
  have : closed P (do eqGuard .rem t ox oy (.int .u8 a) (.int .u8 b); binOp .rem t (.int .u8 a) (.int .u8 b)) = closed P (Op.intDiv .rem .u8 a b) := rfl
  rw [this]
  unfold Op.intDiv
  rw [if_neg hb]
  rfl
theorem c_conv8 (n : Int) : closed Go.Proofs.Tryd.prog (convert 5 3 (.int .u8 n)) = some (.int .i64 (IntKind.wrap .i64 n)) := by kernel_rfl
theorem tmod_small {n b : Int} (h : byB n) (hb : 1 ≤ b ∧ b ≤ 4) : 0 ≤ Int.tmod n b ∧ Int.tmod n b ≤ 3 := by
  rw [Int.tmod_eq_emod_of_nonneg h.1]
  have h1 := Int.emod_nonneg n (show b ≠ 0 by omega)
  have h2 := Int.emod_lt_of_pos n (show 0 < b by omega)
  omega
theorem more_law {m : MachV} {x : By5} {l : List OpV} (hx : x.ok) (h1 : okM m = true) (h2 : okM (moreM m x) = true) (hw : wrongM m l = 0) :
    useErr m l = 0 ∧ useErr (moreM m x) l = 0 ∧ (fitsU (useU m l) = true → fitsU (useU (moreM m x) l) = true) ∧ homeU (useU (moreM m x) l) ≤ homeU (useU m l) := by
  have e1 : useErr m l = 0 := by unfold useErr; rw [h1, hw]; rfl
  have hreg : ∀ r, regM (moreM m x) r = regM m r := fun _ => rfl
  have hop : okOp (moreM m x) = okOp m := by funext o; unfold okOp; rw [show regM (moreM m x) = regM m from funext hreg]
  have e2 : useErr (moreM m x) l = 0 := by unfold useErr; rw [h2]; unfold wrongM at hw ⊢; rw [hop, hw]; rfl
  refine ⟨e1, e2, ?_⟩
  obtain ⟨_, hl, _⟩ := useErr_ok e1
  have hb := useU_bnds (m := m) hl
  have b1 := okM_bnd h1
  obtain ⟨sA, sR⟩ := useU_same (m := m) (m' := moreM m x) rfl l (zeroUse m) (zeroUse (moreM m x)) rfl rfl rfl rfl
  have m1 : (useU m l).m = m := useU_m m l _ rfl
  have m2 : (useU (moreM m x) l).m = moreM m x := useU_m _ l _ rfl
  have tA : (useU (moreM m x) l).A = (useU m l).A := sA
  have tR : (useU (moreM m x) l).R = (useU m l).R := sR
  have trs : (useU (moreM m x) l).rs = (useU m l).rs := by unfold UseV.rs; rw [tR]
  have hmx := maxL_rs hb.2
  obtain ⟨x1, x2, x3, x4, x5⟩ := hx
  have d1 := tmod_small x1 (show 1 ≤ (3 : Int) ∧ (3 : Int) ≤ 4 by omega)
  have d2 := tmod_small x2 (show 1 ≤ (3 : Int) ∧ (3 : Int) ≤ 4 by omega)
  have d3 := tmod_small x3 (show 1 ≤ (3 : Int) ∧ (3 : Int) ≤ 4 by omega)
  have d4 := tmod_small x4 (show 1 ≤ (3 : Int) ∧ (3 : Int) ≤ 4 by omega)
  have d5 := tmod_small x5 (show 1 ≤ (4 : Int) ∧ (4 : Int) ≤ 4 by omega)
  have u0 : (moreM m x).u0 = m.u0 + Int.tmod x.a 3 := wrap_small (by omega) (by omega)
  have u1 : (moreM m x).u1 = m.u1 + Int.tmod x.b 3 := wrap_small (by omega) (by omega)
  have u2 : (moreM m x).u2 = m.u2 + Int.tmod x.c 3 := wrap_small (by omega) (by omega)
  have u3 : (moreM m x).u3 = m.u3 + Int.tmod x.d 3 := wrap_small (by omega) (by omega)
  have up : (moreM m x).ports = m.ports + Int.tmod x.e 4 := wrap_small (by omega) (by omega)
  refine ⟨fun hf => ?_, ?_⟩
  · unfold fitsU at hf ⊢
    rw [m1] at hf
    rw [m2, tA, trs, u0, u1, u2, u3, up]
    simp only [Bool.and_eq_true, decide_eq_true_eq] at hf ⊢
    omega
  · unfold homeU
    rw [m1, m2, tA, trs]
    have a0 := up_anti (hb.1 0).1 (show 1 ≤ m.u0 by omega) (show m.u0 ≤ (moreM m x).u0 by omega)
    have a1 := up_anti (hb.1 1).1 (show 1 ≤ m.u1 by omega) (show m.u1 ≤ (moreM m x).u1 by omega)
    have a2 := up_anti (hb.1 2).1 (show 1 ≤ m.u2 by omega) (show m.u2 ≤ (moreM m x).u2 by omega)
    have a3 := up_anti (hb.1 3).1 (show 1 ≤ m.u3 by omega) (show m.u3 ≤ (moreM m x).u3 by omega)
    have a4 := up_anti hmx.1 (show 1 ≤ m.ports by omega) (show m.ports ≤ (moreM m x).ports by omega)
    omega
section
variable {X : Cx} {st : St}
set_option maxHeartbeats 4000000 in
theorem w_MachineMore (h : OnH X) (hg : GB st) (m : MachV) {lo hi : Nat} {v : AV} {l : List OpV} (hv : OpsAt st lo hi v l) (x : By5) (hx : x.ok) :
    wpF X 6 [.agg m.row, v, .agg x.row] st fun r s => r = .ret (bA true) ∧ ∃ m, s = st ++ m := by
  refine wpF_go (fn := v_l19_MachineMore) (by rw [h.F]; rfl) ?_
  simp only [v_l19_MachineMore, MachV.row, By5.row, kB, kZ, kD, fillA, partsEv, zeroes, Nat.reduceSub, Int.reduceToNat, Nat.reduceMul, asInt?, asNat?, Int.reduceAdd, Int.reduceLE, Int.reduceLT, Int.reduceNeg, Nat.reduceLeDiff, VOpd.ev, Nat.reduceEqDiff, Nat.reduceAdd, reduceIte, reduceCtorEq, splice, resOf, tupOf, cellsV, AV.toV, AV.cell?, cellVal]
  refine callO_own (w_l19_cut h.toOn (hv.mono _)) ?_
  intro w m1 hown
  have w1 : IntKind.wrap .i64 (0 + 1) = 1 := rfl
  have w2 : IntKind.wrap .i64 (1 + 1) = 2 := rfl
  have w3 : IntKind.wrap .i64 (2 + 1) = 3 := rfl
  have w4 : IntKind.wrap .i64 (3 + 1) = 4 := rfl
  have ho := hown.arr
  have hl := cutL_len l
  generalize cutL l = l2 at *
  have v1 : ∀ n : Int, byB n → IntKind.wrap .i64 (Int.tmod n 3) = Int.tmod n 3 := fun n hn => by have := tmod_small hn (show 1 ≤ (3 : Int) ∧ (3 : Int) ≤ 4 by omega); exact wrap_small (by omega) (by omega)
  have v2 : ∀ n : Int, byB n → IntKind.wrap .i64 (Int.tmod n 4) = Int.tmod n 4 := fun n hn => by have := tmod_small hn (show 1 ≤ (4 : Int) ∧ (4 : Int) ≤ 4 by omega); exact wrap_small (by omega) (by omega)
  have q := hx
  obtain ⟨x1, x2, x3, x4, x5⟩ := q
  simp only [List.append_assoc, List.cons_append, List.nil_append] at ho
  simp only [w1, w2, w3, w4, h.P, c_rem8 _ _ _ 3 (by decide), c_rem8 _ _ _ 4 (by decide), c_conv8, v1 _ x1, v1 _ x2, v1 _ x3, v1 _ x4, v2 _ x5, List.append_assoc, kB, kZ, kD, fillA, partsEv, zeroes, Nat.reduceSub, Int.reduceToNat, Nat.reduceMul, asInt?, asNat?, Int.reduceAdd, Int.reduceLE, Int.reduceLT, Int.reduceNeg, Nat.reduceLeDiff, VOpd.ev, Nat.reduceEqDiff, Nat.reduceAdd, reduceIte, reduceCtorEq, splice, resOf, tupOf, cellsV, AV.toV, AV.cell?, cellVal]
  refine loop_unroll ?_
  simp only [w1, w2, w3, w4, h.P, c_rem8 _ _ _ 3 (by decide), c_rem8 _ _ _ 4 (by decide), c_conv8, v1 _ x1, v1 _ x2, v1 _ x3, v1 _ x4, v2 _ x5, kB, kZ, kD, fillA, partsEv, zeroes, Nat.reduceSub, Int.reduceToNat, Nat.reduceMul, asInt?, asNat?, Int.reduceAdd, Int.reduceLE, Int.reduceLT, Int.reduceNeg, Nat.reduceLeDiff, VOpd.ev, Nat.reduceEqDiff, Nat.reduceAdd, reduceIte, reduceCtorEq, splice, resOf, tupOf, cellsV, AV.toV, AV.cell?, cellVal]
  refine loop_unroll ?_
  simp only [w1, w2, w3, w4, h.P, c_rem8 _ _ _ 3 (by decide), c_rem8 _ _ _ 4 (by decide), c_conv8, v1 _ x1, v1 _ x2, v1 _ x3, v1 _ x4, v2 _ x5, kB, kZ, kD, fillA, partsEv, zeroes, Nat.reduceSub, Int.reduceToNat, Nat.reduceMul, asInt?, asNat?, Int.reduceAdd, Int.reduceLE, Int.reduceLT, Int.reduceNeg, Nat.reduceLeDiff, VOpd.ev, Nat.reduceEqDiff, Nat.reduceAdd, reduceIte, reduceCtorEq, splice, resOf, tupOf, cellsV, AV.toV, AV.cell?, cellVal]
  refine loop_unroll ?_
  simp only [w1, w2, w3, w4, h.P, c_rem8 _ _ _ 3 (by decide), c_rem8 _ _ _ 4 (by decide), c_conv8, v1 _ x1, v1 _ x2, v1 _ x3, v1 _ x4, v2 _ x5, kB, kZ, kD, fillA, partsEv, zeroes, Nat.reduceSub, Int.reduceToNat, Nat.reduceMul, asInt?, asNat?, Int.reduceAdd, Int.reduceLE, Int.reduceLT, Int.reduceNeg, Nat.reduceLeDiff, VOpd.ev, Nat.reduceEqDiff, Nat.reduceAdd, reduceIte, reduceCtorEq, splice, resOf, tupOf, cellsV, AV.toV, AV.cell?, cellVal]
  refine loop_unroll ?_
  simp only [w1, w2, w3, w4, h.P, c_rem8 _ _ _ 3 (by decide), c_rem8 _ _ _ 4 (by decide), c_conv8, v1 _ x1, v1 _ x2, v1 _ x3, v1 _ x4, v2 _ x5, kB, kZ, kD, fillA, partsEv, zeroes, Nat.reduceSub, Int.reduceToNat, Nat.reduceMul, asInt?, asNat?, Int.reduceAdd, Int.reduceLE, Int.reduceLT, Int.reduceNeg, Nat.reduceLeDiff, VOpd.ev, Nat.reduceEqDiff, Nat.reduceAdd, reduceIte, reduceCtorEq, splice, resOf, tupOf, cellsV, AV.toV, AV.cell?, cellVal]
  refine loop_unroll ?_
  simp only [w1, w2, w3, w4, h.P, c_rem8 _ _ _ 3 (by decide), c_rem8 _ _ _ 4 (by decide), c_conv8, v1 _ x1, v1 _ x2, v1 _ x3, v1 _ x4, v2 _ x5, kB, kZ, kD, fillA, partsEv, zeroes, Nat.reduceSub, Int.reduceToNat, Nat.reduceMul, asInt?, asNat?, Int.reduceAdd, Int.reduceLE, Int.reduceLT, Int.reduceNeg, Nat.reduceLeDiff, VOpd.ev, Nat.reduceEqDiff, Nat.reduceAdd, reduceIte, reduceCtorEq, splice, resOf, tupOf, cellsV, AV.toV, AV.cell?, cellVal]
  refine callO_same (j_r19_Check h.toOn m) ?_
  cases hok : okM m
  · have e : chkM m = 2 := by unfold chkM; rw [hok]; rfl
    simp only [e, Int.reduceEq, Int.reduceNe, kB, kZ, kD, fillA, partsEv, zeroes, Nat.reduceSub, Int.reduceToNat, Nat.reduceMul, asInt?, asNat?, Int.reduceAdd, Int.reduceLE, Int.reduceLT, Int.reduceNeg, Nat.reduceLeDiff, VOpd.ev, Nat.reduceEqDiff, Nat.reduceAdd, reduceIte, reduceCtorEq, splice, resOf, tupOf, cellsV, AV.toV, AV.cell?, cellVal]
    refine callO_same (.hook (h.alive _ (hg.app _))) ?_
    simp only [kB, kZ, kD, fillA, partsEv, zeroes, Nat.reduceSub, Int.reduceToNat, Nat.reduceMul, asInt?, asNat?, Int.reduceAdd, Int.reduceLE, Int.reduceLT, Int.reduceNeg, Nat.reduceLeDiff, VOpd.ev, Nat.reduceEqDiff, Nat.reduceAdd, reduceIte, reduceCtorEq, splice, resOf, tupOf, cellsV, AV.toV, AV.cell?, cellVal]
    exact ⟨_, rfl⟩
  have e : chkM m = 0 := by unfold chkM; rw [hok]; rfl
  simp only [e, Int.reduceEq, Int.reduceNe, kB, kZ, kD, fillA, partsEv, zeroes, Nat.reduceSub, Int.reduceToNat, Nat.reduceMul, asInt?, asNat?, Int.reduceAdd, Int.reduceLE, Int.reduceLT, Int.reduceNeg, Nat.reduceLeDiff, VOpd.ev, Nat.reduceEqDiff, Nat.reduceAdd, reduceIte, reduceCtorEq, splice, resOf, tupOf, cellsV, AV.toV, AV.cell?, cellVal]
  obtain ⟨M2, hM2⟩ : ∃ M2, moreM m x = M2 := ⟨_, rfl⟩
  have hlaw := fun h1 h2 => more_law (m := m) (x := x) (l := l2) hx h1 h2
  rw [hM2] at hlaw
  obtain ⟨g0, gg0⟩ : ∃ g, IntKind.wrap .i64 (m.u0 + Int.tmod x.a 3) = g := ⟨_, rfl⟩
  obtain ⟨g1, gg1⟩ : ∃ g, IntKind.wrap .i64 (m.u1 + Int.tmod x.b 3) = g := ⟨_, rfl⟩
  obtain ⟨g2, gg2⟩ : ∃ g, IntKind.wrap .i64 (m.u2 + Int.tmod x.c 3) = g := ⟨_, rfl⟩
  obtain ⟨g3, gg3⟩ : ∃ g, IntKind.wrap .i64 (m.u3 + Int.tmod x.d 3) = g := ⟨_, rfl⟩
  obtain ⟨g4, gg4⟩ : ∃ g, IntKind.wrap .i64 (m.ports + Int.tmod x.e 4) = g := ⟨_, rfl⟩
  have hM : M2 = ⟨g0, g1, g2, g3, m.l0, m.l1, m.l2, m.l3, m.regs, m.banks, g4⟩ := by rw [← hM2, ← gg0, ← gg1, ← gg2, ← gg3, ← gg4]; rfl
  simp only [gg0, gg1, gg2, gg3, gg4]
  clear gg0 gg1 gg2 gg3 gg4 hM2
  subst hM
  have ho2 : ∀ b, OpsAt (st ++ (⟨[iA m.u0, iA m.u1, iA m.u2, iA m.u3, iA m.l0, iA m.l1, iA m.l2, iA m.l3, iA m.regs, iA m.banks, iA m.ports], 0, 0⟩ :: ⟨[.sc (.int .u8 x.a), .sc (.int .u8 x.b), .sc (.int .u8 x.c), .sc (.int .u8 x.d), .sc (.int .u8 x.e)], 0, 0⟩ :: (m1 ++ [b]))) _ _ w l2 := fun b => by
    have := ho.mono [b]
    simp only [List.append_assoc, List.cons_append] at this
    exact this
  have hlen2 : (l2.length : Int) < 4611686018427387904 := by omega
  refine callO_same (j_r19_Check h.toOn ⟨g0, g1, g2, g3, m.l0, m.l1, m.l2, m.l3, m.regs, m.banks, g4⟩) ?_
  cases hok2 : okM ⟨g0, g1, g2, g3, m.l0, m.l1, m.l2, m.l3, m.regs, m.banks, g4⟩
  · have e : chkM ⟨g0, g1, g2, g3, m.l0, m.l1, m.l2, m.l3, m.regs, m.banks, g4⟩ = 2 := by unfold chkM; rw [hok2]; rfl
    simp only [e, Int.reduceEq, Int.reduceNe, kB, kZ, kD, fillA, partsEv, zeroes, Nat.reduceSub, Int.reduceToNat, Nat.reduceMul, asInt?, asNat?, Int.reduceAdd, Int.reduceLE, Int.reduceLT, Int.reduceNeg, Nat.reduceLeDiff, VOpd.ev, Nat.reduceEqDiff, Nat.reduceAdd, reduceIte, reduceCtorEq, splice, resOf, tupOf, cellsV, AV.toV, AV.cell?, cellVal]
    refine callO_same (.hook (h.alive _ (hg.app _))) ?_
    simp only [kB, kZ, kD, fillA, partsEv, zeroes, Nat.reduceSub, Int.reduceToNat, Nat.reduceMul, asInt?, asNat?, Int.reduceAdd, Int.reduceLE, Int.reduceLT, Int.reduceNeg, Nat.reduceLeDiff, VOpd.ev, Nat.reduceEqDiff, Nat.reduceAdd, reduceIte, reduceCtorEq, splice, resOf, tupOf, cellsV, AV.toV, AV.cell?, cellVal]
    exact ⟨_, rfl⟩
  have e' : chkM ⟨g0, g1, g2, g3, m.l0, m.l1, m.l2, m.l3, m.regs, m.banks, g4⟩ = 0 := by unfold chkM; rw [hok2]; rfl
  simp only [e', Int.reduceEq, Int.reduceNe, kB, kZ, kD, fillA, partsEv, zeroes, Nat.reduceSub, Int.reduceToNat, Nat.reduceMul, asInt?, asNat?, Int.reduceAdd, Int.reduceLE, Int.reduceLT, Int.reduceNeg, Nat.reduceLeDiff, VOpd.ev, Nat.reduceEqDiff, Nat.reduceAdd, reduceIte, reduceCtorEq, splice, resOf, tupOf, cellsV, AV.toV, AV.cell?, cellVal]
  refine callO_same (j_r19_Wrong h.toOn m (ho2 _) hlen2) ?_
  by_cases hw0 : wrongM m l2 = 0
  case neg =>
    have hd : decide (wrongM m l2 ≠ 0) = true := decide_eq_true hw0
    simp only [hd, Int.reduceEq, Int.reduceNe, kB, kZ, kD, fillA, partsEv, zeroes, Nat.reduceSub, Int.reduceToNat, Nat.reduceMul, asInt?, asNat?, Int.reduceAdd, Int.reduceLE, Int.reduceLT, Int.reduceNeg, Nat.reduceLeDiff, VOpd.ev, Nat.reduceEqDiff, Nat.reduceAdd, reduceIte, reduceCtorEq, splice, resOf, tupOf, cellsV, AV.toV, AV.cell?, cellVal]
    refine callO_same (.hook (h.alive _ (hg.app _))) ?_
    simp only [kB, kZ, kD, fillA, partsEv, zeroes, Nat.reduceSub, Int.reduceToNat, Nat.reduceMul, asInt?, asNat?, Int.reduceAdd, Int.reduceLE, Int.reduceLT, Int.reduceNeg, Nat.reduceLeDiff, VOpd.ev, Nat.reduceEqDiff, Nat.reduceAdd, reduceIte, reduceCtorEq, splice, resOf, tupOf, cellsV, AV.toV, AV.cell?, cellVal]
    exact ⟨_, rfl⟩
  obtain ⟨e1, e2, hf, hh⟩ := hlaw hok hok2 hw0
  have hhd := decide_eq_true hh
  simp only [hw0, Int.reduceEq, Int.reduceNe, kB, kZ, kD, fillA, partsEv, zeroes, Nat.reduceSub, Int.reduceToNat, Nat.reduceMul, asInt?, asNat?, Int.reduceAdd, Int.reduceLE, Int.reduceLT, Int.reduceNeg, Nat.reduceLeDiff, VOpd.ev, Nat.reduceEqDiff, Nat.reduceAdd, reduceIte, reduceCtorEq, splice, resOf, tupOf, cellsV, AV.toV, AV.cell?, cellVal]
  refine callO_same (j_Together h.toOn (hg.glob.ext (Ext.of _ _)) m (ho2 _) hlen2) ?_
  simp only [e1, eq_self, decide_true, Int.reduceEq, Int.reduceNe, kB, kZ, kD, fillA, partsEv, zeroes, Nat.reduceSub, Int.reduceToNat, Nat.reduceMul, asInt?, asNat?, Int.reduceAdd, Int.reduceLE, Int.reduceLT, Int.reduceNeg, Nat.reduceLeDiff, VOpd.ev, Nat.reduceEqDiff, Nat.reduceAdd, reduceIte, reduceCtorEq, splice, resOf, tupOf, cellsV, AV.toV, AV.cell?, cellVal]
  refine callO_same (j_Together h.toOn (hg.glob.ext (Ext.of _ _)) ⟨g0, g1, g2, g3, m.l0, m.l1, m.l2, m.l3, m.regs, m.banks, g4⟩ (ho2 _) hlen2) ?_
  simp only [e1, e2, eq_self, decide_true, Int.reduceEq, Int.reduceNe, kB, kZ, kD, fillA, partsEv, zeroes, Nat.reduceSub, Int.reduceToNat, Nat.reduceMul, asInt?, asNat?, Int.reduceAdd, Int.reduceLE, Int.reduceLT, Int.reduceNeg, Nat.reduceLeDiff, VOpd.ev, Nat.reduceEqDiff, Nat.reduceAdd, reduceIte, reduceCtorEq, splice, resOf, tupOf, cellsV, AV.toV, AV.cell?, cellVal]
  refine callO_same (j_MHome h.toOn (hg.glob.ext (Ext.of _ _)) m (ho2 _) hlen2) ?_
  simp only [e1, e2, eq_self, decide_true, Int.reduceEq, Int.reduceNe, kB, kZ, kD, fillA, partsEv, zeroes, Nat.reduceSub, Int.reduceToNat, Nat.reduceMul, asInt?, asNat?, Int.reduceAdd, Int.reduceLE, Int.reduceLT, Int.reduceNeg, Nat.reduceLeDiff, VOpd.ev, Nat.reduceEqDiff, Nat.reduceAdd, reduceIte, reduceCtorEq, splice, resOf, tupOf, cellsV, AV.toV, AV.cell?, cellVal]
  refine callO_same (j_MHome h.toOn (hg.glob.ext (Ext.of _ _)) ⟨g0, g1, g2, g3, m.l0, m.l1, m.l2, m.l3, m.regs, m.banks, g4⟩ (ho2 _) hlen2) ?_
  generalize fitsU (useU m l2) = f1 at *
  generalize fitsU (useU ⟨g0, g1, g2, g3, m.l0, m.l1, m.l2, m.l3, m.regs, m.banks, g4⟩ l2) = f2 at *
  generalize hE : Env.put _ _ _ = E
  have k81 : E 81 = .tup [iA (if decide (useErr ⟨g0, g1, g2, g3, m.l0, m.l1, m.l2, m.l3, m.regs, m.banks, g4⟩ l2 = 0) = true then homeU (useU ⟨g0, g1, g2, g3, m.l0, m.l1, m.l2, m.l3, m.regs, m.banks, g4⟩ l2) else 0), iA (useErr ⟨g0, g1, g2, g3, m.l0, m.l1, m.l2, m.l3, m.regs, m.banks, g4⟩ l2)] := by rw [← hE]; rfl
  have k10 : E 10 = bA f1 := by rw [← hE]; rfl
  have k11 : E 11 = iA 0 := by rw [← hE]; rfl
  have k12 : E 12 = bA f2 := by rw [← hE]; rfl
  have k13 : E 13 = iA 0 := by rw [← hE]; rfl
  have k14 : E 14 = iA (homeU (useU m l2)) := by rw [← hE]; rfl
  have k15 : E 15 = iA 0 := by rw [← hE]; rfl
  clear hE
  simp only [e2, eq_self, decide_true, if_true] at k81
  cases f1 <;> cases f2
  case true.false => exact absurd (hf rfl) (by decide)
  all_goals
    simp only [k81, k10, k11, k12, k13, k14, k15, hhd, Int.reduceEq, Int.reduceNe, eq_self, kB, kZ, kD, fillA, partsEv, zeroes, Nat.reduceSub, Int.reduceToNat, Nat.reduceMul, asInt?, asNat?, Int.reduceAdd, Int.reduceLE, Int.reduceLT, Int.reduceNeg, Nat.reduceLeDiff, VOpd.ev, Nat.reduceEqDiff, Nat.reduceAdd, reduceIte, reduceCtorEq, splice, resOf, tupOf, cellsV, AV.toV, AV.cell?, cellVal]
    refine callO_same (.hook (h.alive _ (hg.app _))) ?_
    simp only [kB, kZ, kD, fillA, partsEv, zeroes, Nat.reduceSub, Int.reduceToNat, Nat.reduceMul, asInt?, asNat?, Int.reduceAdd, Int.reduceLE, Int.reduceLT, Int.reduceNeg, Nat.reduceLeDiff, VOpd.ev, Nat.reduceEqDiff, Nat.reduceAdd, reduceIte, reduceCtorEq, splice, resOf, tupOf, cellsV, AV.toV, AV.cell?, cellVal]
    exact ⟨_, rfl⟩
end
end Go.VX.Seat
end
