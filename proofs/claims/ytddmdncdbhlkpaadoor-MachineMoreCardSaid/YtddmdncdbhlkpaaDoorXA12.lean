/- A part of the proofs of the statements of one layer: M8, M9, M10, M11, M12, M13, M14, M15, M16. No condition is added here. -/
import Derived.Test.YtddmdncdbhlkpaaDoorXA11
section
set_option linter.unusedVariables false
set_option linter.unusedSimpArgs false
set_option maxRecDepth 4000
/-! Layer 19: up, the greatest of a list, Fits, Home. -/
namespace Go.VX.Seat
open Go.Proofs
def upI (a b : Int) : Int := Int.tdiv (a + b - 1) b
def maxL (l : List Int) : Int := (l.drop 1).foldl max (l.headD 0)
structure UseV where
  m : MachV
  A : Nat → Int
  R : Nat → Int
def UseV.row (u : UseV) : List AV := [iA u.m.u0, iA u.m.u1, iA u.m.u2, iA u.m.u3, iA u.m.l0, iA u.m.l1, iA u.m.l2, iA u.m.l3, iA u.m.regs, iA u.m.banks, iA u.m.ports,
  iA (u.A 0), iA (u.A 1), iA (u.A 2), iA (u.A 3), iA (u.R 0), iA (u.R 1), iA (u.R 2), iA (u.R 3), iA (u.R 4), iA (u.R 5), iA (u.R 6), iA (u.R 7)]
def UseV.rs (u : UseV) : List Int := [u.R 0, u.R 1, u.R 2, u.R 3, u.R 4, u.R 5, u.R 6, u.R 7]
def fitsU (u : UseV) : Bool := decide (u.A 0 ≤ u.m.u0) && decide (u.A 1 ≤ u.m.u1) && decide (u.A 2 ≤ u.m.u2) && decide (u.A 3 ≤ u.m.u3) && decide (maxL u.rs ≤ u.m.ports)
def homeU (u : UseV) : Int := max (max (max (max (max 0 (upI (u.A 0) u.m.u0)) (upI (u.A 1) u.m.u1)) (upI (u.A 2) u.m.u2)) (upI (u.A 3) u.m.u3)) (upI (maxL u.rs) u.m.ports)
theorem c_quo (P : Program) (t : TypeId) (a b : Int) (hb : b ≠ 0) (ox oy : Operand) : closed P (do eqGuard .quo t ox oy (.int .i64 a) (.int .i64 b); binOp .quo t (.int .i64 a) (.int .i64 b)) = some (.int .i64 (IntKind.wrap .i64 (Int.tdiv a b))) := by
  have : closed P (do eqGuard .quo t ox oy (.int .i64 a) (.int .i64 b); binOp .quo t (.int .i64 a) (.int .i64 b)) = closed P (Op.intDiv .quo .i64 a b) := rfl
  rw [this]
  unfold Op.intDiv
  rw [if_neg hb]
  rfl
theorem up_bnd {a b : Int} (ha : 0 ≤ a) (hb : 1 ≤ b) : 0 ≤ upI a b ∧ upI a b ≤ a + b - 1 := by
  unfold upI
  rw [Int.tdiv_eq_ediv_of_nonneg (by omega)]
  refine ⟨Int.ediv_nonneg (by omega) (by omega), ?_⟩
  exact Int.ediv_le_self _ (by omega)
theorem v_slice_all {P : Program} {env : Env} {st : St} {n esz b o : Nat} {x : VOpd} (hx : x.ev env = .ptr b o) (h : (st.atN b o (n * esz)).isSome = true) : vop P (.slice (some n) esz x none none none) env st = some (.val (.sl b o n esz true), st) := by
  rw [v_slice, hx]
  simp [bnd, h]
theorem arr_part {s : St} {b o mode ver : Nat} {cs : List AV} {full : Bool} {l : List Int} {n : Nat} (h : s[b]? = some ⟨cs, mode, ver⟩) (hm : mode < 2) (hn : n = l.length) (hl : ∀ i (hi : i < l.length), cs[o + i]? = some (iA l[i])) (hb : o + l.length ≤ cs.length) : IntsAt s b (b + 1) (.sl b o n 1 full) l where
  len := by rw [hn]; simp [lenA]
  size := fun b' o' n' e f hv => by
    cases hv
    refine ⟨rfl, ?_⟩
    rw [atN_box h hm _ _ (by omega)]
    simp
  row := fun i hi => by
    simp only [List.length_map] at hi
    subst hn
    refine ⟨b, o + i * 1, ?_, by omega, by omega, ?_⟩
    · simp only [elemA, Int.toNat_natCast]
      rw [if_pos ⟨by omega, by omega, trivial⟩]
    · rw [atN_box h hm _ _ (by omega)]
      have h1 := hl i hi
      obtain ⟨h2, h3⟩ := List.getElem?_eq_some_iff.1 h1
      rw [Nat.mul_one, List.drop_eq_getElem_cons h2, h3]
      simp
section
variable {X : Cx} {st : St}
theorem j_machine_up (h : On X) (a b : Int) (ha : 0 ≤ a ∧ a ≤ 1000000) (hb : 1 ≤ b ∧ b ≤ 1000000) : J X.P X.F X.H (.call 49 [iA a, iA b] st (.ret (iA (upI a b))) st) := by
  refine pure_intro (by rw [h.F]; rfl) rfl ?_
  have h1 := up_bnd ha.1 hb.1
  have w1 : IntKind.wrap .i64 (a + b) = a + b := wrap_small (by omega) (by omega)
  have w2 : IntKind.wrap .i64 (a + b - 1) = a + b - 1 := wrap_small (by omega) (by omega)
  have w3 : IntKind.wrap .i64 (Int.tdiv (a + b - 1) b) = upI a b := wrap_small (by have := h1.1; unfold upI at this; omega) (by have := h1.2; unfold upI at this; omega)
  simp only [v_machine_up, w1, w2, c_quo _ _ _ b (show b ≠ 0 by omega), w3, kB, kZ, kD, fillA, partsEv, zeroes, Nat.reduceSub, Int.reduceToNat, Nat.reduceMul, asInt?, asNat?, Int.reduceAdd, Int.reduceLE, Int.reduceLT, Int.reduceNeg, Nat.reduceLeDiff, VOpd.ev, Nat.reduceEqDiff, Nat.reduceAdd, reduceIte, reduceCtorEq, splice, resOf, tupOf, cellsV, AV.toV, AV.cell?, cellVal]
  first | exact ⟨_, rfl⟩ | exact ⟨rfl, _, rfl⟩ | exact ⟨trivial, _, rfl⟩ | exact ⟨[], (List.append_nil _).symm⟩
theorem j_slices_Max (h : On X) {lo hi : Nat} {v : AV} {l : List Int} (hv : IntsAt st lo hi v l) (hne : 0 < l.length) (hlen : (l.length : Int) < 4611686018427387904) :
    J X.P X.F X.H (.call 48 [v] st (.ret (iA (maxL l))) st) := by
  refine pure_intro (by rw [h.F]; rfl) rfl ?_
  have l1 := hv.len
  simp only [List.length_map] at l1
  have d0 : decide ((l.length : Int) < 1) = false := decide_eq_false (by omega)
  obtain ⟨b0, o0, he0, _, ha0, _⟩ := hv.get 0 (by simpa using hne)
  have p0 := ha0 [] 0 (by omega)
  simp only [List.getElem_map, Nat.add_zero, List.getElem?_cons_zero, Int.natCast_zero] at p0 he0
  simp only [v_slices_Max_int, l1, d0, he0, p0, kB, kZ, kD, fillA, partsEv, zeroes, Nat.reduceSub, Int.reduceToNat, Nat.reduceMul, asInt?, asNat?, Int.reduceAdd, Int.reduceLE, Int.reduceLT, Int.reduceNeg, Nat.reduceLeDiff, VOpd.ev, Nat.reduceEqDiff, Nat.reduceAdd, reduceIte, reduceCtorEq, splice, resOf, tupOf, cellsV, AV.toV, AV.cell?, cellVal]
  refine loop_live [0] (fun mm e => ∃ i : Nat, 1 ≤ i ∧ i + mm = l.length ∧ e 4 = iA i ∧ e 3 = iA (((l.take i).drop 1).foldl max (l.headD 0))) (l.length - 1) ?_ ?_
  · refine ⟨1, by omega, by omega, by simp only [kB, kZ, kD, fillA, partsEv, zeroes, Nat.reduceSub, Int.reduceToNat, Nat.reduceMul, asInt?, asNat?, Int.reduceAdd, Int.reduceLE, Int.reduceLT, Int.reduceNeg, Nat.reduceLeDiff, VOpd.ev, Nat.reduceEqDiff, Nat.reduceAdd, reduceIte, reduceCtorEq, splice, resOf, tupOf, cellsV, AV.toV, AV.cell?, cellVal], ?_⟩
    simp only [kB, kZ, kD, fillA, partsEv, zeroes, Nat.reduceSub, Int.reduceToNat, Nat.reduceMul, asInt?, asNat?, Int.reduceAdd, Int.reduceLE, Int.reduceLT, Int.reduceNeg, Nat.reduceLeDiff, VOpd.ev, Nat.reduceEqDiff, Nat.reduceAdd, reduceIte, reduceCtorEq, splice, resOf, tupOf, cellsV, AV.toV, AV.cell?, cellVal]
    cases l with
    | nil => simp at hne
    | cons x l => rfl
  · intro mm e hL ⟨i, hi1, him, q4, q3⟩
    simp only [kB, kZ, kD, fillA, partsEv, zeroes, Nat.reduceSub, Int.reduceToNat, Nat.reduceMul, asInt?, asNat?, Int.reduceAdd, Int.reduceLE, Int.reduceLT, Int.reduceNeg, Nat.reduceLeDiff, VOpd.ev, Nat.reduceEqDiff, Nat.reduceAdd, reduceIte, reduceCtorEq, splice, resOf, tupOf, cellsV, AV.toV, AV.cell?, cellVal] at hL
    simp only [hL, q4, q3, l1, kB, kZ, kD, fillA, partsEv, zeroes, Nat.reduceSub, Int.reduceToNat, Nat.reduceMul, asInt?, asNat?, Int.reduceAdd, Int.reduceLE, Int.reduceLT, Int.reduceNeg, Nat.reduceLeDiff, VOpd.ev, Nat.reduceEqDiff, Nat.reduceAdd, reduceIte, reduceCtorEq, splice, resOf, tupOf, cellsV, AV.toV, AV.cell?, cellVal]
    refine condO_intro ?_ ?_ <;> intro hc
    · have hil : i < l.length := by have := of_decide_eq_true hc; omega
      obtain ⟨b1, o1, he1, _, ha1, _⟩ := hv.get i (by simpa using hil)
      have p1 := ha1 [] 0 (by omega)
      simp only [List.getElem_map, Nat.add_zero, List.getElem?_cons_zero] at p1
      have hwr : IntKind.wrap .i64 ((i : Int) + 1) = ((i + 1 : Nat) : Int) := by rw [wrap_small (by omega) (by omega)]; omega
      have hst : ((l.take (i + 1)).drop 1).foldl max (l.headD 0) = max (((l.take i).drop 1).foldl max (l.headD 0)) l[i] := by
        rw [← List.take_append_getElem hil, List.drop_append_of_le_length (by simp; omega), List.foldl_append]
        rfl
      simp only [hL, q4, q3, l1, he1, p1, hwr, kB, kZ, kD, fillA, partsEv, zeroes, Nat.reduceSub, Int.reduceToNat, Nat.reduceMul, asInt?, asNat?, Int.reduceAdd, Int.reduceLE, Int.reduceLT, Int.reduceNeg, Nat.reduceLeDiff, VOpd.ev, Nat.reduceEqDiff, Nat.reduceAdd, reduceIte, reduceCtorEq, splice, resOf, tupOf, cellsV, AV.toV, AV.cell?, cellVal]
      exact ⟨mm - 1, by omega, i + 1, by omega, by omega, rfl, by rw [hst]⟩
    · have hi : i = l.length := by have := of_decide_eq_false hc; omega
      subst hi
      rw [List.take_length] at q3
      simp only [hL, q4, q3, l1, kB, kZ, kD, fillA, partsEv, zeroes, Nat.reduceSub, Int.reduceToNat, Nat.reduceMul, asInt?, asNat?, Int.reduceAdd, Int.reduceLE, Int.reduceLT, Int.reduceNeg, Nat.reduceLeDiff, VOpd.ev, Nat.reduceEqDiff, Nat.reduceAdd, reduceIte, reduceCtorEq, splice, resOf, tupOf, cellsV, AV.toV, AV.cell?, cellVal]
      first | exact ⟨_, rfl⟩ | exact ⟨rfl, _, rfl⟩ | exact ⟨trivial, _, rfl⟩ | exact ⟨[], (List.append_nil _).symm⟩
theorem rs_cells (u : UseV) : ∀ i (hi : i < u.rs.length), u.row[15 + i]? = some (iA u.rs[i]) := fun i hi => by
  match i, hi with
  | 0, _ => rfl
  | 1, _ => rfl
  | 2, _ => rfl
  | 3, _ => rfl
  | 4, _ => rfl
  | 5, _ => rfl
  | 6, _ => rfl
  | 7, _ => rfl
theorem j_Fits (h : On X) (u : UseV) : J X.P X.F X.H (.call 30 [.agg u.row] st (.ret (bA (fitsU u))) st) := by
  refine pure_intro (by rw [h.F]; rfl) rfl ?_
  have w1 : IntKind.wrap .i64 (0 + 1) = 1 := rfl
  have w2 : IntKind.wrap .i64 (1 + 1) = 2 := rfl
  have w3 : IntKind.wrap .i64 (2 + 1) = 3 := rfl
  have w4 : IntKind.wrap .i64 (3 + 1) = 4 := rfl
  have hrow := rs_cells u
  simp only [v__machine_Use_Fits, UseV.row, kB, kZ, kD, fillA, partsEv, zeroes, Nat.reduceSub, Int.reduceToNat, Nat.reduceMul, asInt?, asNat?, Int.reduceAdd, Int.reduceLE, Int.reduceLT, Int.reduceNeg, Nat.reduceLeDiff, VOpd.ev, Nat.reduceEqDiff, Nat.reduceAdd, reduceIte, reduceCtorEq, splice, resOf, tupOf, cellsV, AV.toV, AV.cell?, cellVal]
  refine loop_unroll ?_
  simp only [w1, w2, w3, w4, kB, kZ, kD, fillA, partsEv, zeroes, Nat.reduceSub, Int.reduceToNat, Nat.reduceMul, asInt?, asNat?, Int.reduceAdd, Int.reduceLE, Int.reduceLT, Int.reduceNeg, Nat.reduceLeDiff, VOpd.ev, Nat.reduceEqDiff, Nat.reduceAdd, reduceIte, reduceCtorEq, splice, resOf, tupOf, cellsV, AV.toV, AV.cell?, cellVal]
  cases h0 : decide (u.m.u0 < u.A 0)
  case true =>
    have e : fitsU u = false := by
      have : decide (u.A 0 ≤ u.m.u0) = false := decide_eq_false (by have := of_decide_eq_true h0; omega)
      unfold fitsU
      simp only [this, Bool.false_and, Bool.and_false]
    simp only [h0, e, kB, kZ, kD, fillA, partsEv, zeroes, Nat.reduceSub, Int.reduceToNat, Nat.reduceMul, asInt?, asNat?, Int.reduceAdd, Int.reduceLE, Int.reduceLT, Int.reduceNeg, Nat.reduceLeDiff, VOpd.ev, Nat.reduceEqDiff, Nat.reduceAdd, reduceIte, reduceCtorEq, splice, resOf, tupOf, cellsV, AV.toV, AV.cell?, cellVal]
    first | exact ⟨_, rfl⟩ | exact ⟨rfl, _, rfl⟩ | exact ⟨trivial, _, rfl⟩ | exact ⟨[], (List.append_nil _).symm⟩
  simp only [h0, w1, w2, w3, w4, kB, kZ, kD, fillA, partsEv, zeroes, Nat.reduceSub, Int.reduceToNat, Nat.reduceMul, asInt?, asNat?, Int.reduceAdd, Int.reduceLE, Int.reduceLT, Int.reduceNeg, Nat.reduceLeDiff, VOpd.ev, Nat.reduceEqDiff, Nat.reduceAdd, reduceIte, reduceCtorEq, splice, resOf, tupOf, cellsV, AV.toV, AV.cell?, cellVal]
  refine loop_unroll ?_
  simp only [w1, w2, w3, w4, kB, kZ, kD, fillA, partsEv, zeroes, Nat.reduceSub, Int.reduceToNat, Nat.reduceMul, asInt?, asNat?, Int.reduceAdd, Int.reduceLE, Int.reduceLT, Int.reduceNeg, Nat.reduceLeDiff, VOpd.ev, Nat.reduceEqDiff, Nat.reduceAdd, reduceIte, reduceCtorEq, splice, resOf, tupOf, cellsV, AV.toV, AV.cell?, cellVal]
  cases h1 : decide (u.m.u1 < u.A 1)
  case true =>
    have e : fitsU u = false := by
      have : decide (u.A 1 ≤ u.m.u1) = false := decide_eq_false (by have := of_decide_eq_true h1; omega)
      unfold fitsU
      simp only [this, Bool.false_and, Bool.and_false]
    simp only [h1, e, kB, kZ, kD, fillA, partsEv, zeroes, Nat.reduceSub, Int.reduceToNat, Nat.reduceMul, asInt?, asNat?, Int.reduceAdd, Int.reduceLE, Int.reduceLT, Int.reduceNeg, Nat.reduceLeDiff, VOpd.ev, Nat.reduceEqDiff, Nat.reduceAdd, reduceIte, reduceCtorEq, splice, resOf, tupOf, cellsV, AV.toV, AV.cell?, cellVal]
    first | exact ⟨_, rfl⟩ | exact ⟨rfl, _, rfl⟩ | exact ⟨trivial, _, rfl⟩ | exact ⟨[], (List.append_nil _).symm⟩
  simp only [h1, w1, w2, w3, w4, kB, kZ, kD, fillA, partsEv, zeroes, Nat.reduceSub, Int.reduceToNat, Nat.reduceMul, asInt?, asNat?, Int.reduceAdd, Int.reduceLE, Int.reduceLT, Int.reduceNeg, Nat.reduceLeDiff, VOpd.ev, Nat.reduceEqDiff, Nat.reduceAdd, reduceIte, reduceCtorEq, splice, resOf, tupOf, cellsV, AV.toV, AV.cell?, cellVal]
  refine loop_unroll ?_
  simp only [w1, w2, w3, w4, kB, kZ, kD, fillA, partsEv, zeroes, Nat.reduceSub, Int.reduceToNat, Nat.reduceMul, asInt?, asNat?, Int.reduceAdd, Int.reduceLE, Int.reduceLT, Int.reduceNeg, Nat.reduceLeDiff, VOpd.ev, Nat.reduceEqDiff, Nat.reduceAdd, reduceIte, reduceCtorEq, splice, resOf, tupOf, cellsV, AV.toV, AV.cell?, cellVal]
  cases h2 : decide (u.m.u2 < u.A 2)
  case true =>
    have e : fitsU u = false := by
      have : decide (u.A 2 ≤ u.m.u2) = false := decide_eq_false (by have := of_decide_eq_true h2; omega)
      unfold fitsU
      simp only [this, Bool.false_and, Bool.and_false]
    simp only [h2, e, kB, kZ, kD, fillA, partsEv, zeroes, Nat.reduceSub, Int.reduceToNat, Nat.reduceMul, asInt?, asNat?, Int.reduceAdd, Int.reduceLE, Int.reduceLT, Int.reduceNeg, Nat.reduceLeDiff, VOpd.ev, Nat.reduceEqDiff, Nat.reduceAdd, reduceIte, reduceCtorEq, splice, resOf, tupOf, cellsV, AV.toV, AV.cell?, cellVal]
    first | exact ⟨_, rfl⟩ | exact ⟨rfl, _, rfl⟩ | exact ⟨trivial, _, rfl⟩ | exact ⟨[], (List.append_nil _).symm⟩
  simp only [h2, w1, w2, w3, w4, kB, kZ, kD, fillA, partsEv, zeroes, Nat.reduceSub, Int.reduceToNat, Nat.reduceMul, asInt?, asNat?, Int.reduceAdd, Int.reduceLE, Int.reduceLT, Int.reduceNeg, Nat.reduceLeDiff, VOpd.ev, Nat.reduceEqDiff, Nat.reduceAdd, reduceIte, reduceCtorEq, splice, resOf, tupOf, cellsV, AV.toV, AV.cell?, cellVal]
  refine loop_unroll ?_
  simp only [w1, w2, w3, w4, kB, kZ, kD, fillA, partsEv, zeroes, Nat.reduceSub, Int.reduceToNat, Nat.reduceMul, asInt?, asNat?, Int.reduceAdd, Int.reduceLE, Int.reduceLT, Int.reduceNeg, Nat.reduceLeDiff, VOpd.ev, Nat.reduceEqDiff, Nat.reduceAdd, reduceIte, reduceCtorEq, splice, resOf, tupOf, cellsV, AV.toV, AV.cell?, cellVal]
  cases h3 : decide (u.m.u3 < u.A 3)
  case true =>
    have e : fitsU u = false := by
      have : decide (u.A 3 ≤ u.m.u3) = false := decide_eq_false (by have := of_decide_eq_true h3; omega)
      unfold fitsU
      simp only [this, Bool.false_and, Bool.and_false]
    simp only [h3, e, kB, kZ, kD, fillA, partsEv, zeroes, Nat.reduceSub, Int.reduceToNat, Nat.reduceMul, asInt?, asNat?, Int.reduceAdd, Int.reduceLE, Int.reduceLT, Int.reduceNeg, Nat.reduceLeDiff, VOpd.ev, Nat.reduceEqDiff, Nat.reduceAdd, reduceIte, reduceCtorEq, splice, resOf, tupOf, cellsV, AV.toV, AV.cell?, cellVal]
    first | exact ⟨_, rfl⟩ | exact ⟨rfl, _, rfl⟩ | exact ⟨trivial, _, rfl⟩ | exact ⟨[], (List.append_nil _).symm⟩
  simp only [h3, w1, w2, w3, w4, kB, kZ, kD, fillA, partsEv, zeroes, Nat.reduceSub, Int.reduceToNat, Nat.reduceMul, asInt?, asNat?, Int.reduceAdd, Int.reduceLE, Int.reduceLT, Int.reduceNeg, Nat.reduceLeDiff, VOpd.ev, Nat.reduceEqDiff, Nat.reduceAdd, reduceIte, reduceCtorEq, splice, resOf, tupOf, cellsV, AV.toV, AV.cell?, cellVal]
  refine loop_unroll ?_
  simp only [kB, kZ, kD, fillA, partsEv, zeroes, Nat.reduceSub, Int.reduceToNat, Nat.reduceMul, asInt?, asNat?, Int.reduceAdd, Int.reduceLE, Int.reduceLT, Int.reduceNeg, Nat.reduceLeDiff, VOpd.ev, Nat.reduceEqDiff, Nat.reduceAdd, reduceIte, reduceCtorEq, splice, resOf, tupOf, cellsV, AV.toV, AV.cell?, cellVal]
  rw [v_slice_all (b := st.length + 0) (o := 15) (by simp only [kB, kZ, kD, fillA, partsEv, zeroes, Nat.reduceSub, Int.reduceToNat, Nat.reduceMul, asInt?, asNat?, Int.reduceAdd, Int.reduceLE, Int.reduceLT, Int.reduceNeg, Nat.reduceLeDiff, VOpd.ev, Nat.reduceEqDiff, Nat.reduceAdd, reduceIte, reduceCtorEq, splice, resOf, tupOf, cellsV, AV.toV, AV.cell?, cellVal]) (by simp only [kB, kZ, kD, fillA, partsEv, zeroes, Nat.reduceSub, Int.reduceToNat, Nat.reduceMul, asInt?, asNat?, Int.reduceAdd, Int.reduceLE, Int.reduceLT, Int.reduceNeg, Nat.reduceLeDiff, VOpd.ev, Nat.reduceEqDiff, Nat.reduceAdd, reduceIte, reduceCtorEq, splice, resOf, tupOf, cellsV, AV.toV, AV.cell?, cellVal]; rfl)]
  simp only [kB, kZ, kD, fillA, partsEv, zeroes, Nat.reduceSub, Int.reduceToNat, Nat.reduceMul, asInt?, asNat?, Int.reduceAdd, Int.reduceLE, Int.reduceLT, Int.reduceNeg, Nat.reduceLeDiff, VOpd.ev, Nat.reduceEqDiff, Nat.reduceAdd, reduceIte, reduceCtorEq, splice, resOf, tupOf, cellsV, AV.toV, AV.cell?, cellVal]
  refine callO_same (j_slices_Max (l := u.rs) h (arr_part (s := st ++ [⟨u.row, 0, 0⟩]) (b := st.length + 0) (mode := 0) (ver := 0) (by simp) (by decide) rfl hrow (by simp [UseV.rs, UseV.row])) (by simp [UseV.rs]) (by simp [UseV.rs])) ?_
  have e : fitsU u = decide (maxL u.rs ≤ u.m.ports) := by
    have g0 : decide (u.A 0 ≤ u.m.u0) = true := decide_eq_true (by have := of_decide_eq_false h0; omega)
    have g1 : decide (u.A 1 ≤ u.m.u1) = true := decide_eq_true (by have := of_decide_eq_false h1; omega)
    have g2 : decide (u.A 2 ≤ u.m.u2) = true := decide_eq_true (by have := of_decide_eq_false h2; omega)
    have g3 : decide (u.A 3 ≤ u.m.u3) = true := decide_eq_true (by have := of_decide_eq_false h3; omega)
    unfold fitsU
    simp only [g0, g1, g2, g3, Bool.true_and]
  simp only [e, kB, kZ, kD, fillA, partsEv, zeroes, Nat.reduceSub, Int.reduceToNat, Nat.reduceMul, asInt?, asNat?, Int.reduceAdd, Int.reduceLE, Int.reduceLT, Int.reduceNeg, Nat.reduceLeDiff, VOpd.ev, Nat.reduceEqDiff, Nat.reduceAdd, reduceIte, reduceCtorEq, splice, resOf, tupOf, cellsV, AV.toV, AV.cell?, cellVal]
  first | exact ⟨_, rfl⟩ | exact ⟨rfl, _, rfl⟩ | exact ⟨trivial, _, rfl⟩ | exact ⟨[], (List.append_nil _).symm⟩
end
end Go.VX.Seat
end
section
set_option linter.unusedVariables false
set_option linter.unusedSimpArgs false
set_option maxRecDepth 4000
/-! Layer 19: a use with one operation more. -/
namespace Go.VX.Seat
open Go.Proofs
def incr (A : Nat → Int) (c : Nat) : Nat → Int := fun j => if j = c then A j + 1 else A j
def bankI (b r : Int) : Nat := (Int.tmod r b).toNat
def withU (u : UseV) (o : OpV) : UseV := ⟨u.m, incr u.A (clsM o.k).toNat, (rdsR o).foldl (fun R r => incr R (bankI u.m.banks r)) u.R⟩
theorem row_len (u : UseV) : u.row.length = 23 := rfl
theorem row_A (u : UseV) : ∀ c : Nat, c < 4 → u.row[11 + c]? = some (iA (u.A c))
  | 0, _ => rfl
  | 1, _ => rfl
  | 2, _ => rfl
  | 3, _ => rfl
theorem row_R (u : UseV) : ∀ c : Nat, c < 8 → u.row[15 + c]? = some (iA (u.R c))
  | 0, _ => rfl
  | 1, _ => rfl
  | 2, _ => rfl
  | 3, _ => rfl
  | 4, _ => rfl
  | 5, _ => rfl
  | 6, _ => rfl
  | 7, _ => rfl
theorem splice_A (u : UseV) : ∀ c : Nat, c < 4 → splice u.row (11 + c) [iA (u.A c + 1)] = (⟨u.m, incr u.A c, u.R⟩ : UseV).row
  | 0, _ => rfl
  | 1, _ => rfl
  | 2, _ => rfl
  | 3, _ => rfl
theorem splice_R (u : UseV) : ∀ c : Nat, c < 8 → splice u.row (15 + c) [iA (u.R c + 1)] = (⟨u.m, u.A, incr u.R c⟩ : UseV).row
  | 0, _ => rfl
  | 1, _ => rfl
  | 2, _ => rfl
  | 3, _ => rfl
  | 4, _ => rfl
  | 5, _ => rfl
  | 6, _ => rfl
  | 7, _ => rfl
theorem incr_bnd {R : Nat → Int} {n : Int} (h : ∀ j, 0 ≤ R j ∧ R j ≤ n) (c : Nat) : ∀ j, 0 ≤ incr R c j ∧ incr R c j ≤ n + 1 := fun j => by
  have := h j
  unfold incr
  split <;> omega
theorem bankI_lt {b r : Int} (hb : 1 ≤ b ∧ b ≤ 8) (hr : 0 ≤ r) : bankI b r < 8 ∧ Int.tmod r b = (bankI b r : Int) := by
  unfold bankI
  rw [Int.tmod_eq_emod_of_nonneg hr]
  have h1 := Int.emod_nonneg r (show b ≠ 0 by omega)
  have h2 := Int.emod_lt_of_pos r (show 0 < b by omega)
  omega
section
variable {X : Cx} {st : St}
theorem j_With (h : On X) (hg : GlobAt st) (u : UseV) (o : OpV) (hc : hasCls o.k = true) (hb : 1 ≤ u.m.banks ∧ u.m.banks ≤ 8) (hr : ∀ r ∈ rdsR o, 0 ≤ r) (hA : ∀ j, 0 ≤ u.A j ∧ u.A j ≤ 1000000) (hR : ∀ j, 0 ≤ u.R j ∧ u.R j ≤ 1000000) :
    J X.P X.F X.H (.call 47 [.agg u.row, .agg o.row] st (.ret (.agg (withU u o).row)) st) := by
  refine pure_intro (by rw [h.F]; rfl) rfl ?_
  obtain ⟨c, hc4, hcl, _⟩ := lsAt u.m o.k hc
  have hct : (clsM o.k).toNat = c := by rw [hcl]; simp
  have hrow0 : u.row[0]? = some (iA u.m.u0) := rfl
  simp only [v__machine_Use_With, OpV.row, kB, kZ, kD, fillA, partsEv, zeroes, Nat.reduceSub, Int.reduceToNat, Nat.reduceMul, asInt?, asNat?, Int.reduceAdd, Int.reduceLE, Int.reduceLT, Int.reduceNeg, Nat.reduceLeDiff, VOpd.ev, Nat.reduceEqDiff, Nat.reduceAdd, reduceIte, reduceCtorEq, splice, resOf, tupOf, cellsV, AV.toV, AV.cell?, cellVal]
  refine callO_same (j_machine_Class h (hg.ext (Ext.of _ _)) o.k) ?_
  rw [hcl]
  have hc5 : (0 : Int) ≤ (c : Int) ∧ (c : Int) < 4 := by omega
  have hle : 11 + c + 1 ≤ u.row.length := by rw [row_len]; omega
  have hwA : IntKind.wrap .i64 (u.A c + 1) = u.A c + 1 := by have := hA c; exact wrap_small (by omega) (by omega)
  simp only [if_pos hc5, row_A u c hc4, hle, hwA, splice_A u c hc4, kB, kZ, kD, fillA, partsEv, zeroes, Nat.reduceSub, Int.reduceToNat, Nat.reduceMul, asInt?, asNat?, Int.reduceAdd, Int.reduceLE, Int.reduceLT, Int.reduceNeg, Nat.reduceLeDiff, VOpd.ev, Nat.reduceEqDiff, Nat.reduceAdd, reduceIte, reduceCtorEq, resOf, tupOf, cellsV, AV.toV, AV.cell?, cellVal]
  have hwu : withU u o = ⟨u.m, incr u.A c, (rdsR o).foldl (fun R r => incr R (bankI u.m.banks r)) u.R⟩ := by unfold withU; rw [hct]
  rw [hwu]
  refine callO_own (w_machine_Reads h (hg.ext (Ext.of _ _)) o) ?_
  intro w m1 hw
  rw [reads_eq] at hw
  simp only [List.append_assoc, List.cons_append, List.nil_append, kB, kZ, kD, fillA, partsEv, zeroes, Nat.reduceSub, Int.reduceToNat, Nat.reduceMul, asInt?, asNat?, Int.reduceAdd, Int.reduceLE, Int.reduceLT, Int.reduceNeg, Nat.reduceLeDiff, VOpd.ev, Nat.reduceEqDiff, Nat.reduceAdd, reduceIte, reduceCtorEq, resOf, tupOf, cellsV, AV.toV, AV.cell?, cellVal]
  have hw2 : IntsAt (st ++ (⟨(⟨u.m, incr u.A c, u.R⟩ : UseV).row, 0, 1⟩ :: ⟨[iA o.k, iA o.d, iA o.a, iA o.b, iA o.c, iA o.n, iA o.g], 0, 0⟩ :: ⟨[iA 0, iA 0, iA 0, iA 0, iA 0, iA 0, iA 0, iA 0, iA 0, iA 0, iA 0, iA 0, iA 0, iA 0, iA 0, iA 0, iA 0, iA 0, iA 0, iA 0, iA 0, iA 0, iA 0], 0, 0⟩ :: m1)) (st.length + 3) (st.length + 3 + m1.length) w (rdsR o) ∧ ∀ b, boxOf w = some b → st.length + 3 ≤ b := by
    have h1 := hw.arr.wide' (lo' := st.length + 3) (hi' := st.length + 3 + m1.length) (by simp) (by simp; omega)
    exact ⟨by simpa using h1, fun b hb => by have := (hw.bnd b hb).1; simpa using this⟩
  clear hw
  obtain ⟨hw2, hwb⟩ := hw2
  have lw := hw2.len
  simp only [List.length_map] at lw
  have hll : (rdsR o).length ≤ 4 := by
    rw [← reads_eq]
    have h1 := foldl_putL_len (rawM o) []
    have h2 := rawM_len o
    unfold onceL
    simp at h1
    omega
  simp only [lw, kB, kZ, kD, fillA, partsEv, zeroes, Nat.reduceSub, Int.reduceToNat, Nat.reduceMul, asInt?, asNat?, Int.reduceAdd, Int.reduceLE, Int.reduceLT, Int.reduceNeg, Nat.reduceLeDiff, VOpd.ev, Nat.reduceEqDiff, Nat.reduceAdd, reduceIte, reduceCtorEq, resOf, tupOf, cellsV, AV.toV, AV.cell?, cellVal]
  generalize rdsR o = rl at *
  generalize incr u.A c = A1 at *
  refine loop_inv (fun n e s' => ∃ (i ver : Nat) (R' : Nat → Int), i + n = rl.length ∧ s' = st ++ (⟨(⟨u.m, A1, R'⟩ : UseV).row, 0, ver⟩ :: ⟨[iA o.k, iA o.d, iA o.a, iA o.b, iA o.c, iA o.n, iA o.g], 0, 0⟩ :: ⟨[iA 0, iA 0, iA 0, iA 0, iA 0, iA 0, iA 0, iA 0, iA 0, iA 0, iA 0, iA 0, iA 0, iA 0, iA 0, iA 0, iA 0, iA 0, iA 0, iA 0, iA 0, iA 0, iA 0], 0, 0⟩ :: m1) ∧ e 2 = .ptr (st.length + 0) 0 ∧ e 4 = .ptr (st.length + 2) 0 ∧ e 23 = w ∧ e 24 = iA rl.length ∧ e 25 = iA i ∧ R' = (rl.take i).foldl (fun R r => incr R (bankI u.m.banks r)) u.R ∧ ∀ j, 0 ≤ R' j ∧ R' j ≤ 1000000 + i) ?_ rl.length ?_
  case refine_2 =>
    exact ⟨0, 1, u.R, by omega, by simp, rfl, rfl, rfl, rfl, rfl, rfl, fun j => by have := hR j; omega⟩
  intro n e s' ⟨i, ver, R', him, hs', k2, k4, k23, k24, k25, hR', hRb⟩
  subst hs'
  simp only [k2, k4, k23, k24, k25, kB, kZ, kD, fillA, partsEv, zeroes, Nat.reduceSub, Int.reduceToNat, Nat.reduceMul, asInt?, asNat?, Int.reduceAdd, Int.reduceLE, Int.reduceLT, Int.reduceNeg, Nat.reduceLeDiff, VOpd.ev, Nat.reduceEqDiff, Nat.reduceAdd, reduceIte, reduceCtorEq, resOf, tupOf, cellsV, AV.toV, AV.cell?, cellVal]
  refine condO_intro ?_ ?_ <;> intro hcc
  · have hil : i < rl.length := by have := of_decide_eq_true hcc; omega
    have hw3 := hw2.agree (Agree.swap st [] ⟨(⟨u.m, A1, u.R⟩ : UseV).row, 0, 1⟩ ⟨(⟨u.m, A1, R'⟩ : UseV).row, 0, ver⟩ (⟨[iA o.k, iA o.d, iA o.a, iA o.b, iA o.c, iA o.n, iA o.g], 0, 0⟩ :: ⟨[iA 0, iA 0, iA 0, iA 0, iA 0, iA 0, iA 0, iA 0, iA 0, iA 0, iA 0, iA 0, iA 0, iA 0, iA 0, iA 0, iA 0, iA 0, iA 0, iA 0, iA 0, iA 0, iA 0], 0, 0⟩ :: m1)) (fun b hb h1 => by have := hwb b hb; simp at h1; omega)
    obtain ⟨b1, o1, he1, _, ha1, _⟩ := hw3.get i (by simpa using hil)
    have p1 := ha1 [] 0 (by omega)
    simp only [List.append_nil, List.getElem_map, Nat.add_zero, List.getElem?_cons_zero, List.nil_append] at p1
    have hwr : IntKind.wrap .i64 ((i : Int) + 1) = ((i + 1 : Nat) : Int) := by rw [wrap_small (by omega) (by omega)]; omega
    obtain ⟨hj8, hjm⟩ := bankI_lt hb (hr rl[i] (List.getElem_mem hil))
    obtain ⟨j, hj⟩ : ∃ j, bankI u.m.banks rl[i] = j := ⟨_, rfl⟩
    rw [hj] at hj8 hjm
    have hj5 : (0 : Int) ≤ (j : Int) ∧ (j : Int) < 8 := by omega
    have hle2 : 15 + j + 1 ≤ (⟨u.m, A1, R'⟩ : UseV).row.length := by rw [row_len]; omega
    have hwR : IntKind.wrap .i64 (R' j + 1) = R' j + 1 := by have := hRb j; exact wrap_small (by omega) (by omega)
    have hrow9 : (⟨u.m, A1, R'⟩ : UseV).row[9]? = some (iA u.m.banks) := rfl
    simp only [k2, k4, k23, k24, k25, he1, p1, hrow9, c_rem _ _ _ u.m.banks (show u.m.banks ≠ 0 by omega), hjm, if_pos hj5, row_R ⟨u.m, A1, R'⟩ j hj8, hle2, hwR, splice_R ⟨u.m, A1, R'⟩ j hj8, hwr, kB, kZ, kD, fillA, partsEv, zeroes, Nat.reduceSub, Int.reduceToNat, Nat.reduceMul, asInt?, asNat?, Int.reduceAdd, Int.reduceLE, Int.reduceLT, Int.reduceNeg, Nat.reduceLeDiff, VOpd.ev, Nat.reduceEqDiff, Nat.reduceAdd, reduceIte, reduceCtorEq, resOf, tupOf, cellsV, AV.toV, AV.cell?, cellVal]
    refine ⟨n - 1, by omega, i + 1, ver + 1, incr R' j, by omega, rfl, rfl, ?_, fun j2 => by have := incr_bnd hRb j j2; omega⟩
    rw [hR', ← List.take_append_getElem hil, List.foldl_append]
    simp only [List.foldl_cons, List.foldl_nil, hj]
  · have hi : i = rl.length := by have := of_decide_eq_false hcc; omega
    subst hi
    rw [List.take_length] at hR'
    rw [← hR']
    simp only [k2, k4, k23, k24, k25, UseV.row, kB, kZ, kD, fillA, partsEv, zeroes, Nat.reduceSub, Int.reduceToNat, Nat.reduceMul, asInt?, asNat?, Int.reduceAdd, Int.reduceLE, Int.reduceLT, Int.reduceNeg, Nat.reduceLeDiff, VOpd.ev, Nat.reduceEqDiff, Nat.reduceAdd, reduceIte, reduceCtorEq, splice, resOf, tupOf, cellsV, AV.toV, AV.cell?, cellVal]
    exact ⟨_, rfl⟩
end
end Go.VX.Seat
end
section
set_option linter.unusedVariables false
set_option linter.unusedSimpArgs false
set_option maxRecDepth 4000
/-! Layer 19: Home of a use; use, Together, Home. -/
namespace Go.VX.Seat
open Go.Proofs
theorem foldl_max_bnd {n : Int} : ∀ (l : List Int) (a : Int), 0 ≤ a ∧ a ≤ n → (∀ x ∈ l, 0 ≤ x ∧ x ≤ n) → 0 ≤ l.foldl max a ∧ l.foldl max a ≤ n
  | [], a, h, _ => h
  | x :: l, a, h, hl => by
    rw [List.foldl_cons]
    refine foldl_max_bnd l _ ?_ fun y hy => hl y (List.mem_cons_of_mem _ hy)
    have := hl x List.mem_cons_self
    omega
theorem maxL_rs {u : UseV} {n : Int} (h : ∀ j, 0 ≤ u.R j ∧ u.R j ≤ n) : 0 ≤ maxL u.rs ∧ maxL u.rs ≤ n := by
  unfold maxL UseV.rs
  refine foldl_max_bnd _ _ (h 0) fun x hx => ?_
  simp at hx
  rcases hx with rfl | rfl | rfl | rfl | rfl | rfl | rfl <;> exact h _
section
variable {X : Cx} {st : St}
theorem j_UHome (h : On X) (u : UseV) (hok : okM u.m = true) (hA : ∀ j, 0 ≤ u.A j ∧ u.A j ≤ 1000000) (hR : ∀ j, 0 ≤ u.R j ∧ u.R j ≤ 1000000) : J X.P X.F X.H (.call 31 [.agg u.row] st (.ret (iA (homeU u))) st) := by
  refine pure_intro (by rw [h.F]; rfl) rfl ?_
  have hb := okM_bnd hok
  have hmx := maxL_rs hR
  have w1 : IntKind.wrap .i64 (0 + 1) = 1 := rfl
  have w2 : IntKind.wrap .i64 (1 + 1) = 2 := rfl
  have w3 : IntKind.wrap .i64 (2 + 1) = 3 := rfl
  have w4 : IntKind.wrap .i64 (3 + 1) = 4 := rfl
  have hrow := rs_cells u
  unfold homeU
  simp only [v__machine_Use_Home, UseV.row, kB, kZ, kD, fillA, partsEv, zeroes, Nat.reduceSub, Int.reduceToNat, Nat.reduceMul, asInt?, asNat?, Int.reduceAdd, Int.reduceLE, Int.reduceLT, Int.reduceNeg, Nat.reduceLeDiff, VOpd.ev, Nat.reduceEqDiff, Nat.reduceAdd, reduceIte, reduceCtorEq, splice, resOf, tupOf, cellsV, AV.toV, AV.cell?, cellVal]
  refine loop_unroll ?_
  simp only [w1, w2, w3, w4, kB, kZ, kD, fillA, partsEv, zeroes, Nat.reduceSub, Int.reduceToNat, Nat.reduceMul, asInt?, asNat?, Int.reduceAdd, Int.reduceLE, Int.reduceLT, Int.reduceNeg, Nat.reduceLeDiff, VOpd.ev, Nat.reduceEqDiff, Nat.reduceAdd, reduceIte, reduceCtorEq, splice, resOf, tupOf, cellsV, AV.toV, AV.cell?, cellVal]
  refine callO_same (j_machine_up h (u.A 0) u.m.u0 (hA 0) ⟨by omega, by omega⟩) ?_
  simp only [w1, w2, w3, w4, kB, kZ, kD, fillA, partsEv, zeroes, Nat.reduceSub, Int.reduceToNat, Nat.reduceMul, asInt?, asNat?, Int.reduceAdd, Int.reduceLE, Int.reduceLT, Int.reduceNeg, Nat.reduceLeDiff, VOpd.ev, Nat.reduceEqDiff, Nat.reduceAdd, reduceIte, reduceCtorEq, splice, resOf, tupOf, cellsV, AV.toV, AV.cell?, cellVal]
  refine loop_unroll ?_
  simp only [w1, w2, w3, w4, kB, kZ, kD, fillA, partsEv, zeroes, Nat.reduceSub, Int.reduceToNat, Nat.reduceMul, asInt?, asNat?, Int.reduceAdd, Int.reduceLE, Int.reduceLT, Int.reduceNeg, Nat.reduceLeDiff, VOpd.ev, Nat.reduceEqDiff, Nat.reduceAdd, reduceIte, reduceCtorEq, splice, resOf, tupOf, cellsV, AV.toV, AV.cell?, cellVal]
  refine callO_same (j_machine_up h (u.A 1) u.m.u1 (hA 1) ⟨by omega, by omega⟩) ?_
  simp only [w1, w2, w3, w4, kB, kZ, kD, fillA, partsEv, zeroes, Nat.reduceSub, Int.reduceToNat, Nat.reduceMul, asInt?, asNat?, Int.reduceAdd, Int.reduceLE, Int.reduceLT, Int.reduceNeg, Nat.reduceLeDiff, VOpd.ev, Nat.reduceEqDiff, Nat.reduceAdd, reduceIte, reduceCtorEq, splice, resOf, tupOf, cellsV, AV.toV, AV.cell?, cellVal]
  refine loop_unroll ?_
  simp only [w1, w2, w3, w4, kB, kZ, kD, fillA, partsEv, zeroes, Nat.reduceSub, Int.reduceToNat, Nat.reduceMul, asInt?, asNat?, Int.reduceAdd, Int.reduceLE, Int.reduceLT, Int.reduceNeg, Nat.reduceLeDiff, VOpd.ev, Nat.reduceEqDiff, Nat.reduceAdd, reduceIte, reduceCtorEq, splice, resOf, tupOf, cellsV, AV.toV, AV.cell?, cellVal]
  refine callO_same (j_machine_up h (u.A 2) u.m.u2 (hA 2) ⟨by omega, by omega⟩) ?_
  simp only [w1, w2, w3, w4, kB, kZ, kD, fillA, partsEv, zeroes, Nat.reduceSub, Int.reduceToNat, Nat.reduceMul, asInt?, asNat?, Int.reduceAdd, Int.reduceLE, Int.reduceLT, Int.reduceNeg, Nat.reduceLeDiff, VOpd.ev, Nat.reduceEqDiff, Nat.reduceAdd, reduceIte, reduceCtorEq, splice, resOf, tupOf, cellsV, AV.toV, AV.cell?, cellVal]
  refine loop_unroll ?_
  simp only [w1, w2, w3, w4, kB, kZ, kD, fillA, partsEv, zeroes, Nat.reduceSub, Int.reduceToNat, Nat.reduceMul, asInt?, asNat?, Int.reduceAdd, Int.reduceLE, Int.reduceLT, Int.reduceNeg, Nat.reduceLeDiff, VOpd.ev, Nat.reduceEqDiff, Nat.reduceAdd, reduceIte, reduceCtorEq, splice, resOf, tupOf, cellsV, AV.toV, AV.cell?, cellVal]
  refine callO_same (j_machine_up h (u.A 3) u.m.u3 (hA 3) ⟨by omega, by omega⟩) ?_
  simp only [w1, w2, w3, w4, kB, kZ, kD, fillA, partsEv, zeroes, Nat.reduceSub, Int.reduceToNat, Nat.reduceMul, asInt?, asNat?, Int.reduceAdd, Int.reduceLE, Int.reduceLT, Int.reduceNeg, Nat.reduceLeDiff, VOpd.ev, Nat.reduceEqDiff, Nat.reduceAdd, reduceIte, reduceCtorEq, splice, resOf, tupOf, cellsV, AV.toV, AV.cell?, cellVal]
  refine loop_unroll ?_
  simp only [kB, kZ, kD, fillA, partsEv, zeroes, Nat.reduceSub, Int.reduceToNat, Nat.reduceMul, asInt?, asNat?, Int.reduceAdd, Int.reduceLE, Int.reduceLT, Int.reduceNeg, Nat.reduceLeDiff, VOpd.ev, Nat.reduceEqDiff, Nat.reduceAdd, reduceIte, reduceCtorEq, splice, resOf, tupOf, cellsV, AV.toV, AV.cell?, cellVal]
  rw [v_slice_all (b := st.length + 0) (o := 15) (by simp only [kB, kZ, kD, fillA, partsEv, zeroes, Nat.reduceSub, Int.reduceToNat, Nat.reduceMul, asInt?, asNat?, Int.reduceAdd, Int.reduceLE, Int.reduceLT, Int.reduceNeg, Nat.reduceLeDiff, VOpd.ev, Nat.reduceEqDiff, Nat.reduceAdd, reduceIte, reduceCtorEq, splice, resOf, tupOf, cellsV, AV.toV, AV.cell?, cellVal]) (by simp only [kB, kZ, kD, fillA, partsEv, zeroes, Nat.reduceSub, Int.reduceToNat, Nat.reduceMul, asInt?, asNat?, Int.reduceAdd, Int.reduceLE, Int.reduceLT, Int.reduceNeg, Nat.reduceLeDiff, VOpd.ev, Nat.reduceEqDiff, Nat.reduceAdd, reduceIte, reduceCtorEq, splice, resOf, tupOf, cellsV, AV.toV, AV.cell?, cellVal]; rfl)]
  simp only [kB, kZ, kD, fillA, partsEv, zeroes, Nat.reduceSub, Int.reduceToNat, Nat.reduceMul, asInt?, asNat?, Int.reduceAdd, Int.reduceLE, Int.reduceLT, Int.reduceNeg, Nat.reduceLeDiff, VOpd.ev, Nat.reduceEqDiff, Nat.reduceAdd, reduceIte, reduceCtorEq, splice, resOf, tupOf, cellsV, AV.toV, AV.cell?, cellVal]
  refine callO_same (j_slices_Max (l := u.rs) h (arr_part (s := st ++ [⟨u.row, 0, 0⟩]) (b := st.length + 0) (mode := 0) (ver := 0) (by simp) (by decide) rfl hrow (by simp [UseV.rs, UseV.row])) (by simp [UseV.rs]) (by simp [UseV.rs])) ?_
  simp only [kB, kZ, kD, fillA, partsEv, zeroes, Nat.reduceSub, Int.reduceToNat, Nat.reduceMul, asInt?, asNat?, Int.reduceAdd, Int.reduceLE, Int.reduceLT, Int.reduceNeg, Nat.reduceLeDiff, VOpd.ev, Nat.reduceEqDiff, Nat.reduceAdd, reduceIte, reduceCtorEq, splice, resOf, tupOf, cellsV, AV.toV, AV.cell?, cellVal]
  refine callO_same (j_machine_up h (maxL u.rs) u.m.ports hmx ⟨by omega, by omega⟩) ?_
  simp only [kB, kZ, kD, fillA, partsEv, zeroes, Nat.reduceSub, Int.reduceToNat, Nat.reduceMul, asInt?, asNat?, Int.reduceAdd, Int.reduceLE, Int.reduceLT, Int.reduceNeg, Nat.reduceLeDiff, VOpd.ev, Nat.reduceEqDiff, Nat.reduceAdd, reduceIte, reduceCtorEq, splice, resOf, tupOf, cellsV, AV.toV, AV.cell?, cellVal]
  first | exact ⟨_, rfl⟩ | exact ⟨rfl, _, rfl⟩ | exact ⟨trivial, _, rfl⟩ | exact ⟨[], (List.append_nil _).symm⟩
theorem j_NewUse (h : On X) (m : MachV) : J X.P X.F X.H (.call 46 [.agg m.row] st (.ret (.agg (⟨m, fun _ => 0, fun _ => 0⟩ : UseV).row)) st) := by
  refine pure_intro (by rw [h.F]; rfl) rfl ?_
  simp only [v_machine_NewUse, MachV.row, UseV.row, kB, kZ, kD, fillA, partsEv, zeroes, Nat.reduceSub, Int.reduceToNat, Nat.reduceMul, asInt?, asNat?, Int.reduceAdd, Int.reduceLE, Int.reduceLT, Int.reduceNeg, Nat.reduceLeDiff, VOpd.ev, Nat.reduceEqDiff, Nat.reduceAdd, reduceIte, reduceCtorEq, splice, resOf, tupOf, cellsV, AV.toV, AV.cell?, cellVal]
  first | exact ⟨_, rfl⟩ | exact ⟨rfl, _, rfl⟩ | exact ⟨trivial, _, rfl⟩ | exact ⟨[], (List.append_nil _).symm⟩
end
/-- An operation that may be handed in. -/
def okOp (m : MachV) (o : OpV) : Bool := hasCls o.k && (rdsR o).all (regM m)
def wrongM (m : MachV) (l : List OpV) : Int := if decide (400 < (l.length : Int)) then 3 else if l.all (okOp m) then 0 else 2
def useErr (m : MachV) (l : List OpV) : Int := if okM m then wrongM m l else 2
def zeroUse (m : MachV) : UseV := ⟨m, fun _ => 0, fun _ => 0⟩
def useU (m : MachV) (l : List OpV) : UseV := l.foldl withU (zeroUse m)
def zeroM : MachV := ⟨0, 0, 0, 0, 0, 0, 0, 0, 0, 0, 0⟩
theorem useU_m (m : MachV) : ∀ (l : List OpV) (u : UseV), u.m = m → (l.foldl withU u).m = m
  | [], u, h => h
  | o :: l, u, h => useU_m m l _ h
end Go.VX.Seat
end
section
set_option linter.unusedVariables false
set_option linter.unusedSimpArgs false
set_option maxRecDepth 4000
/-! Layer 19: use. -/
namespace Go.VX.Seat
open Go.Proofs
theorem rdsR_len (o : OpV) : (rdsR o).length ≤ 4 := by
  rw [← reads_eq]
  have h1 := foldl_putL_len (rawM o) []
  have h2 := rawM_len o
  unfold onceL
  simp at h1
  omega
theorem foldl_incr_bnd (b : Int) : ∀ (rl : List Int) (R : Nat → Int) (n : Int), (∀ j, 0 ≤ R j ∧ R j ≤ n) → ∀ j, 0 ≤ (rl.foldl (fun R r => incr R (bankI b r)) R) j ∧ (rl.foldl (fun R r => incr R (bankI b r)) R) j ≤ n + rl.length
  | [], R, n, h, j => by have := h j; simpa using this
  | r :: rl, R, n, h, j => by
    have := foldl_incr_bnd b rl _ (n + 1) (incr_bnd h (bankI b r)) j
    simp only [List.foldl_cons, List.length_cons]
    omega
theorem useU_bnd (m : MachV) : ∀ (l : List OpV) (u : UseV) (a r : Int), (∀ j, 0 ≤ u.A j ∧ u.A j ≤ a) → (∀ j, 0 ≤ u.R j ∧ u.R j ≤ r) → (∀ j, 0 ≤ (l.foldl withU u).A j ∧ (l.foldl withU u).A j ≤ a + l.length) ∧ (∀ j, 0 ≤ (l.foldl withU u).R j ∧ (l.foldl withU u).R j ≤ r + 4 * l.length)
  | [], u, a, r, h1, h2 => ⟨fun j => by have := h1 j; simpa using this, fun j => by have := h2 j; simpa using this⟩
  | o :: l, u, a, r, h1, h2 => by
    have hl := rdsR_len o
    have := useU_bnd m l (withU u o) (a + 1) (r + 4) (incr_bnd h1 _) (fun j => by have := foldl_incr_bnd u.m.banks (rdsR o) u.R r h2 j; show _ ∧ _; unfold withU; simp only; omega)
    simp only [List.foldl_cons, List.length_cons]
    exact ⟨fun j => by have := this.1 j; omega, fun j => by have := this.2 j; omega⟩
theorem row_take (u : UseV) : u.row.take 23 = u.row := rfl
theorem row_all (u : UseV) : u.row.all AV.isCell = true := rfl
theorem splice_row (u : UseV) {cs : List AV} (h : cs.length = 23) : splice cs 0 u.row = u.row := by
  unfold splice
  rw [row_len, List.drop_eq_nil_of_le (by omega)]
  simp
def useR (m : MachV) (l : List OpV) : UseV := if useErr m l = 0 then useU m l else zeroUse zeroM
section
variable {X : Cx} {st : St}
set_option maxHeartbeats 2000000 in
theorem j_use (h : On X) (hg : GlobAt st) (m : MachV) {lo hi : Nat} {v : AV} {l : List OpV} (hv : OpsAt st lo hi v l) (hlen : (l.length : Int) < 4611686018427387904) :
    J X.P X.F X.H (.call 29 [.agg m.row, v] st (.ret (.tup [.agg (useR m l).row, iA (useErr m l)])) st) := by
  refine pure_intro (by rw [h.F]; rfl) rfl ?_
  have l1 := hv.len
  simp only [List.length_map] at l1
  simp only [v_machine_use, MachV.row, row_len, row_take, row_all, splice_row, Nat.le_refl, kB, kZ, kD, fillA, partsEv, zeroes, Nat.reduceSub, Int.reduceToNat, Nat.reduceMul, asInt?, asNat?, Int.reduceAdd, Int.reduceLE, Int.reduceLT, Int.reduceNeg, Nat.reduceLeDiff, VOpd.ev, Nat.reduceEqDiff, Nat.reduceAdd, reduceIte, reduceCtorEq, resOf, tupOf, cellsV, AV.toV, AV.cell?, cellVal]
  refine callO_same (j_machine_Check h m) ?_
  cases hok : okM m
  · have e : chkM m = 2 := by unfold chkM; rw [hok]; rfl
    have e2 : useErr m l = 2 := by unfold useErr; rw [hok]; rfl
    have e3 : useR m l = zeroUse zeroM := by unfold useR; rw [e2]; rfl
    rw [e2, e3]
    simp only [e, Int.reduceEq, Int.reduceNe, zeroUse, zeroM, UseV.row, kB, kZ, kD, fillA, partsEv, zeroes, Nat.reduceSub, Int.reduceToNat, Nat.reduceMul, asInt?, asNat?, Int.reduceAdd, Int.reduceLE, Int.reduceLT, Int.reduceNeg, Nat.reduceLeDiff, VOpd.ev, Nat.reduceEqDiff, Nat.reduceAdd, reduceIte, reduceCtorEq, splice, resOf, tupOf, cellsV, AV.toV, AV.cell?, cellVal]
    exact ⟨_, rfl⟩
  have e : chkM m = 0 := by unfold chkM; rw [hok]; rfl
  have hbnd := okM_bnd hok
  simp only [e, l1, Int.reduceEq, Int.reduceNe, MachV.row, row_len, row_take, row_all, splice_row, Nat.le_refl, kB, kZ, kD, fillA, partsEv, zeroes, Nat.reduceSub, Int.reduceToNat, Nat.reduceMul, asInt?, asNat?, Int.reduceAdd, Int.reduceLE, Int.reduceLT, Int.reduceNeg, Nat.reduceLeDiff, VOpd.ev, Nat.reduceEqDiff, Nat.reduceAdd, reduceIte, reduceCtorEq, resOf, tupOf, cellsV, AV.toV, AV.cell?, cellVal]
  cases h400 : decide (400 < (l.length : Int))
  case true =>
    have e2 : useErr m l = 3 := by unfold useErr wrongM; rw [hok, h400]; rfl
    have e3 : useR m l = zeroUse zeroM := by unfold useR; rw [e2]; rfl
    rw [e2, e3]
    simp only [h400, zeroUse, zeroM, UseV.row, kB, kZ, kD, fillA, partsEv, zeroes, Nat.reduceSub, Int.reduceToNat, Nat.reduceMul, asInt?, asNat?, Int.reduceAdd, Int.reduceLE, Int.reduceLT, Int.reduceNeg, Nat.reduceLeDiff, VOpd.ev, Nat.reduceEqDiff, Nat.reduceAdd, reduceIte, reduceCtorEq, splice, resOf, tupOf, cellsV, AV.toV, AV.cell?, cellVal]
    exact ⟨_, rfl⟩
  have hl400 : l.length ≤ 400 := by have := of_decide_eq_false h400; omega
  simp only [h400, MachV.row, row_len, row_take, row_all, splice_row, Nat.le_refl, kB, kZ, kD, fillA, partsEv, zeroes, Nat.reduceSub, Int.reduceToNat, Nat.reduceMul, asInt?, asNat?, Int.reduceAdd, Int.reduceLE, Int.reduceLT, Int.reduceNeg, Nat.reduceLeDiff, VOpd.ev, Nat.reduceEqDiff, Nat.reduceAdd, reduceIte, reduceCtorEq, resOf, tupOf, cellsV, AV.toV, AV.cell?, cellVal]
  refine callO_same (j_NewUse h m) ?_
  obtain ⟨RR, hRR⟩ : ∃ x, (useR m l).row = x := ⟨_, rfl⟩
  rw [hRR]
  simp only [l1, MachV.row, UseV.row, kB, kZ, kD, fillA, partsEv, zeroes, Nat.reduceSub, Int.reduceToNat, Nat.reduceMul, asInt?, asNat?, Int.reduceAdd, Int.reduceLE, Int.reduceLT, Int.reduceNeg, Nat.reduceLeDiff, VOpd.ev, Nat.reduceEqDiff, Nat.reduceAdd, reduceIte, reduceCtorEq, splice, resOf, tupOf, cellsV, AV.toV, AV.cell?, cellVal]
  have hm := fun L => hv.mono L
  refine loop_inv (fun n e s' => ∃ (i ver : Nat) (L : St), i + n = l.length ∧ s' = st ++ (⟨[iA m.u0, iA m.u1, iA m.u2, iA m.u3, iA m.l0, iA m.l1, iA m.l2, iA m.l3, iA m.regs, iA m.banks, iA m.ports], 0, 0⟩ :: ⟨[iA 0, iA 0, iA 0, iA 0, iA 0, iA 0, iA 0, iA 0, iA 0, iA 0, iA 0, iA 0, iA 0, iA 0, iA 0, iA 0, iA 0, iA 0, iA 0, iA 0, iA 0, iA 0, iA 0], 0, 0⟩ :: ⟨(useU m (l.take i)).row, 0, ver⟩ :: L) ∧ e 2 = .ptr (st.length + 0) 0 ∧ e 4 = .ptr (st.length + 1) 0 ∧ e 7 = .ptr (st.length + 2) 0 ∧ e 26 = v ∧ e 27 = iA l.length ∧ e 28 = iA i ∧ (l.take i).all (okOp m) = true) ?_ l.length ?_
  case refine_2 =>
    exact ⟨0, 1, [], by omega, rfl, rfl, rfl, rfl, rfl, rfl, rfl, rfl⟩
  intro n e s' ⟨i, ver, L, him, hs', k2, k4, k7, k26, k27, k28, hall⟩
  subst hs'
  simp only [k2, k4, k7, k26, k27, k28, kB, kZ, kD, fillA, partsEv, zeroes, Nat.reduceSub, Int.reduceToNat, Nat.reduceMul, asInt?, asNat?, Int.reduceAdd, Int.reduceLE, Int.reduceLT, Int.reduceNeg, Nat.reduceLeDiff, VOpd.ev, Nat.reduceEqDiff, Nat.reduceAdd, reduceIte, reduceCtorEq, resOf, tupOf, cellsV, AV.toV, AV.cell?, cellVal]
  refine condO_intro ?_ ?_ <;> intro hcc
  · have hil : i < l.length := by have := of_decide_eq_true hcc; omega
    obtain ⟨b1, o1, he1, hn1, ha1, _⟩ := hv.get i (by simpa using hil)
    simp only [List.getElem_map, OpV.row] at hn1 ha1
    simp only [k2, k4, k7, k26, k27, k28, he1, hn1, kB, kZ, kD, fillA, partsEv, zeroes, Nat.reduceSub, Int.reduceToNat, Nat.reduceMul, asInt?, asNat?, Int.reduceAdd, Int.reduceLE, Int.reduceLT, Int.reduceNeg, Nat.reduceLeDiff, VOpd.ev, Nat.reduceEqDiff, Nat.reduceAdd, reduceIte, reduceCtorEq, splice, resOf, tupOf, cellsV, AV.toV, AV.cell?, cellVal]
    refine callO_same (j_machine_Class h (hg.ext (Ext.of _ _)) l[i].k) ?_
    cases hk : hasCls l[i].k
    · have hno : l.all (okOp m) = false := List.all_eq_false.2 ⟨l[i], List.getElem_mem hil, by unfold okOp; rw [hk]; simp⟩
      have e2 : useErr m l = 2 := by unfold useErr wrongM; rw [hok, h400, hno]; rfl
      have e3 : useR m l = zeroUse zeroM := by unfold useR; rw [e2]; rfl
      rw [e2, ← hRR, e3]
      simp only [hk, k2, k4, k7, k26, k27, k28, zeroUse, zeroM, UseV.row, kB, kZ, kD, fillA, partsEv, zeroes, Nat.reduceSub, Int.reduceToNat, Nat.reduceMul, asInt?, asNat?, Int.reduceAdd, Int.reduceLE, Int.reduceLT, Int.reduceNeg, Nat.reduceLeDiff, VOpd.ev, Nat.reduceEqDiff, Nat.reduceAdd, reduceIte, reduceCtorEq, splice, resOf, tupOf, cellsV, AV.toV, AV.cell?, cellVal]
      exact ⟨_, rfl⟩
    simp only [hk, k2, k4, k7, k26, k27, k28, kB, kZ, kD, fillA, partsEv, zeroes, Nat.reduceSub, Int.reduceToNat, Nat.reduceMul, asInt?, asNat?, Int.reduceAdd, Int.reduceLE, Int.reduceLT, Int.reduceNeg, Nat.reduceLeDiff, VOpd.ev, Nat.reduceEqDiff, Nat.reduceAdd, reduceIte, reduceCtorEq, splice, resOf, tupOf, cellsV, AV.toV, AV.cell?, cellVal]
    refine callO_own (w_machine_Reads h (hg.ext (Ext.of _ _)) l[i]) ?_
    intro w m1 hw
    rw [reads_eq] at hw
    have lw := hw.arr.len
    simp only [List.length_map] at lw
    have hll := rdsR_len l[i]
    have hw1 := hw.arr
    simp only [List.append_assoc, List.cons_append, List.nil_append] at hw1
    simp only [lw, k2, k4, k7, k26, k27, k28, List.append_assoc, List.cons_append, List.nil_append, kB, kZ, kD, fillA, partsEv, zeroes, Nat.reduceSub, Int.reduceToNat, Nat.reduceMul, asInt?, asNat?, Int.reduceAdd, Int.reduceLE, Int.reduceLT, Int.reduceNeg, Nat.reduceLeDiff, VOpd.ev, Nat.reduceEqDiff, Nat.reduceAdd, reduceIte, reduceCtorEq, splice, resOf, tupOf, cellsV, AV.toV, AV.cell?, cellVal]
    refine loop_cut [2, 4, 7, 9, 26, 27, 28] (fun _ => (rdsR l[i]).all (regM m) = true) ?_ ?_
    · refine loop_live [42, 43, 2, 4, 7, 9, 26, 27, 28] (fun mm e => ∃ k : Nat, k + mm = (rdsR l[i]).length ∧ e 44 = iA k ∧ ((rdsR l[i]).take k).all (regM m) = true) (rdsR l[i]).length ?_ ?_
      · exact ⟨0, by omega, by simp only [kB, kZ, kD, fillA, partsEv, zeroes, Nat.reduceSub, Int.reduceToNat, Nat.reduceMul, asInt?, asNat?, Int.reduceAdd, Int.reduceLE, Int.reduceLT, Int.reduceNeg, Nat.reduceLeDiff, VOpd.ev, Nat.reduceEqDiff, Nat.reduceAdd, reduceIte, reduceCtorEq, splice, resOf, tupOf, cellsV, AV.toV, AV.cell?, cellVal], rfl⟩
      · intro mm e hL ⟨k, hkm, q44, hpre⟩
        simp only [k2, k4, k7, k26, k27, k28, kB, kZ, kD, fillA, partsEv, zeroes, Nat.reduceSub, Int.reduceToNat, Nat.reduceMul, asInt?, asNat?, Int.reduceAdd, Int.reduceLE, Int.reduceLT, Int.reduceNeg, Nat.reduceLeDiff, VOpd.ev, Nat.reduceEqDiff, Nat.reduceAdd, reduceIte, reduceCtorEq, splice, resOf, tupOf, cellsV, AV.toV, AV.cell?, cellVal] at hL
        obtain ⟨q42, q43, q2, q4, q7, q9, q26, q27, q28⟩ := hL
        simp only [q42, q43, q44, kB, kZ, kD, fillA, partsEv, zeroes, Nat.reduceSub, Int.reduceToNat, Nat.reduceMul, asInt?, asNat?, Int.reduceAdd, Int.reduceLE, Int.reduceLT, Int.reduceNeg, Nat.reduceLeDiff, VOpd.ev, Nat.reduceEqDiff, Nat.reduceAdd, reduceIte, reduceCtorEq, splice, resOf, tupOf, cellsV, AV.toV, AV.cell?, cellVal]
        refine condO_intro ?_ ?_ <;> intro hc2
        · have hkl : k < (rdsR l[i]).length := by have := of_decide_eq_true hc2; omega
          obtain ⟨b2, o2, he2, _, ha2, _⟩ := hw1.get k (by simpa using hkl)
          have p2 := ha2 [] 0 (by omega)
          simp only [List.append_nil, List.getElem_map, Nat.add_zero, List.getElem?_cons_zero] at p2
          have hwm : IntKind.wrap .i64 (m.regs - 1) = m.regs - 1 := wrap_small (by omega) (by omega)
          have hwr : IntKind.wrap .i64 ((k : Int) + 1) = ((k + 1 : Nat) : Int) := by rw [wrap_small (by omega) (by omega)]; omega
          have hin : inB (rdsR l[i])[k] 0 (m.regs - 1) = regM m (rdsR l[i])[k] := by
            unfold inB regM
            congr 1
            exact decide_eq_decide.2 (by omega)
          simp only [q2, q42, q43, q44, he2, p2, hwm, kB, kZ, kD, fillA, partsEv, zeroes, Nat.reduceSub, Int.reduceToNat, Nat.reduceMul, asInt?, asNat?, Int.reduceAdd, Int.reduceLE, Int.reduceLT, Int.reduceNeg, Nat.reduceLeDiff, VOpd.ev, Nat.reduceEqDiff, Nat.reduceAdd, reduceIte, reduceCtorEq, splice, resOf, tupOf, cellsV, AV.toV, AV.cell?, cellVal]
          refine callO_same (j_machine_in h _ _ _) ?_
          rw [hin]
          cases hq : regM m (rdsR l[i])[k]
          · have hno : l.all (okOp m) = false := List.all_eq_false.2 ⟨l[i], List.getElem_mem hil, by
              have : (rdsR l[i]).all (regM m) = false := List.all_eq_false.2 ⟨_, List.getElem_mem hkl, by rw [hq]; simp⟩
              unfold okOp; rw [this]; simp⟩
            have e2 : useErr m l = 2 := by unfold useErr wrongM; rw [hok, h400, hno]; rfl
            have e3 : useR m l = zeroUse zeroM := by unfold useR; rw [e2]; rfl
            rw [e2, ← hRR, e3]
            simp only [hq, q2, q4, q7, q9, q26, q27, q28, q44, zeroUse, zeroM, UseV.row, kB, kZ, kD, fillA, partsEv, zeroes, Nat.reduceSub, Int.reduceToNat, Nat.reduceMul, asInt?, asNat?, Int.reduceAdd, Int.reduceLE, Int.reduceLT, Int.reduceNeg, Nat.reduceLeDiff, VOpd.ev, Nat.reduceEqDiff, Nat.reduceAdd, reduceIte, reduceCtorEq, splice, resOf, tupOf, cellsV, AV.toV, AV.cell?, cellVal]
            exact ⟨_, rfl⟩
          · simp only [hq, q2, q4, q7, q9, q26, q27, q28, q44, q42, q43, hwr, k2, k4, k7, k26, k27, k28, kB, kZ, kD, fillA, partsEv, zeroes, Nat.reduceSub, Int.reduceToNat, Nat.reduceMul, asInt?, asNat?, Int.reduceAdd, Int.reduceLE, Int.reduceLT, Int.reduceNeg, Nat.reduceLeDiff, VOpd.ev, Nat.reduceEqDiff, Nat.reduceAdd, reduceIte, reduceCtorEq, splice, resOf, tupOf, cellsV, AV.toV, AV.cell?, cellVal]
            refine ⟨mm - 1, by omega, k + 1, by omega, rfl, ?_⟩
            rw [← List.take_append_getElem hkl, List.all_append, hpre]
            simp [hq]
        · have hkl : k = (rdsR l[i]).length := by have := of_decide_eq_false hc2; omega
          subst hkl
          rw [List.take_length] at hpre
          simp only [q2, q4, q7, q9, q26, q27, q28, q44, hpre, k2, k4, k7, k26, k27, k28, kB, kZ, kD, fillA, partsEv, zeroes, Nat.reduceSub, Int.reduceToNat, Nat.reduceMul, asInt?, asNat?, Int.reduceAdd, Int.reduceLE, Int.reduceLT, Int.reduceNeg, Nat.reduceLeDiff, VOpd.ev, Nat.reduceEqDiff, Nat.reduceAdd, reduceIte, reduceCtorEq, splice, resOf, tupOf, cellsV, AV.toV, AV.cell?, cellVal]
    intro e hL hregs
    simp only [k2, k4, k7, k26, k27, k28, kB, kZ, kD, fillA, partsEv, zeroes, Nat.reduceSub, Int.reduceToNat, Nat.reduceMul, asInt?, asNat?, Int.reduceAdd, Int.reduceLE, Int.reduceLT, Int.reduceNeg, Nat.reduceLeDiff, VOpd.ev, Nat.reduceEqDiff, Nat.reduceAdd, reduceIte, reduceCtorEq, splice, resOf, tupOf, cellsV, AV.toV, AV.cell?, cellVal] at hL
    obtain ⟨q2, q4, q7, q9, q26, q27, q28⟩ := hL
    have hub := useU_bnd m (l.take i) (zeroUse m) 0 0 (fun _ => ⟨Int.le_refl _, Int.le_refl _⟩) (fun _ => ⟨Int.le_refl _, Int.le_refl _⟩)
    have htl : (l.take i).length ≤ 400 := by simp; omega
    have hum : (useU m (l.take i)).m = m := useU_m m _ _ rfl
    have hwr : IntKind.wrap .i64 ((i : Int) + 1) = ((i + 1 : Nat) : Int) := by rw [wrap_small (by omega) (by omega)]; omega
    simp only [q2, q4, q7, q9, q26, q27, q28, row_len, row_take, row_all, splice_row, Nat.le_refl, kB, kZ, kD, fillA, partsEv, zeroes, Nat.reduceSub, Int.reduceToNat, Nat.reduceMul, asInt?, asNat?, Int.reduceAdd, Int.reduceLE, Int.reduceLT, Int.reduceNeg, Nat.reduceLeDiff, VOpd.ev, Nat.reduceEqDiff, Nat.reduceAdd, reduceIte, reduceCtorEq, resOf, tupOf, cellsV, AV.toV, AV.cell?, cellVal]
    refine callO_same (j_With h (hg.ext (Ext.of _ _)) (useU m (l.take i)) l[i] hk (by rw [hum]; omega) (fun r hr => by have := List.all_eq_true.1 hregs r hr; unfold regM at this; simp at this; omega) (fun j => by have := hub.1 j; unfold useU; omega) (fun j => by have := hub.2 j; unfold useU; omega)) ?_
    have hput := put_zero (useU m (l.take i)).row ver 0 (withU (useU m (l.take i)) l[i]).row (L ++ ⟨[iA l[i].k, iA l[i].d, iA l[i].a, iA l[i].b, iA l[i].c, iA l[i].n, iA l[i].g], 0, 1⟩ :: m1) (by rw [row_len, row_len]; omega) (row_all _)
    rw [splice_row _ (row_len _)] at hput
    have hl23 := row_len (withU (useU m (l.take i)) l[i])
    simp only [q2, q4, q7, q9, q26, q27, q28, hwr, hput, hl23, kB, kZ, kD, fillA, partsEv, zeroes, Nat.reduceSub, Int.reduceToNat, Nat.reduceMul, asInt?, asNat?, Int.reduceAdd, Int.reduceLE, Int.reduceLT, Int.reduceNeg, Nat.reduceLeDiff, VOpd.ev, Nat.reduceEqDiff, Nat.reduceAdd, reduceIte, reduceCtorEq, resOf, tupOf, cellsV, AV.toV, AV.cell?, cellVal]
    have hst : useU m (l.take (i + 1)) = withU (useU m (l.take i)) l[i] := by
      unfold useU
      rw [← List.take_append_getElem hil, List.foldl_append]
      rfl
    have hal : (l.take (i + 1)).all (okOp m) = true := by
      rw [← List.take_append_getElem hil, List.all_append, hall]
      simp [okOp, hk, hregs]
    refine ⟨n - 1, by omega, i + 1, ver + 1, _, by omega, by rw [hst], ?_⟩
    exact ⟨rfl, hal⟩
  · have hi : i = l.length := by have := of_decide_eq_false hcc; omega
    subst hi
    rw [List.take_length] at hall ⊢
    have e2 : useErr m l = 0 := by unfold useErr wrongM; rw [hok, h400, hall]; rfl
    have e3 : useR m l = useU m l := by unfold useR; rw [e2]; rfl
    rw [e2, ← hRR, e3]
    simp only [k2, k4, k7, k26, k27, k28, UseV.row, kB, kZ, kD, fillA, partsEv, zeroes, Nat.reduceSub, Int.reduceToNat, Nat.reduceMul, asInt?, asNat?, Int.reduceAdd, Int.reduceLE, Int.reduceLT, Int.reduceNeg, Nat.reduceLeDiff, VOpd.ev, Nat.reduceEqDiff, Nat.reduceAdd, reduceIte, reduceCtorEq, splice, resOf, tupOf, cellsV, AV.toV, AV.cell?, cellVal]
    exact ⟨_, rfl⟩
end
end Go.VX.Seat
end
section
set_option linter.unusedVariables false
set_option linter.unusedSimpArgs false
set_option maxRecDepth 4000
/-! Layer 19: Together, Home; the reference's Wrong. -/
namespace Go.VX.Seat
open Go.Proofs
theorem useErr_ok {m : MachV} {l : List OpV} (h : useErr m l = 0) : okM m = true ∧ l.length ≤ 400 ∧ l.all (okOp m) = true := by
  unfold useErr wrongM at h
  cases ho : okM m
  · rw [ho] at h; simp at h
  · rw [ho] at h
    cases h4 : decide (400 < (l.length : Int))
    · rw [h4] at h
      have := of_decide_eq_false h4
      cases ha : l.all (okOp m)
      · rw [ha] at h; simp at h
      · exact ⟨rfl, by omega, rfl⟩
    · rw [h4] at h; simp at h
theorem useU_bnds {m : MachV} {l : List OpV} (hl : l.length ≤ 400) : (∀ j, 0 ≤ (useU m l).A j ∧ (useU m l).A j ≤ 1000000) ∧ (∀ j, 0 ≤ (useU m l).R j ∧ (useU m l).R j ≤ 1000000) := by
  have := useU_bnd m l (zeroUse m) 0 0 (fun _ => ⟨Int.le_refl _, Int.le_refl _⟩) (fun _ => ⟨Int.le_refl _, Int.le_refl _⟩)
  exact ⟨fun j => by have := this.1 j; unfold useU; omega, fun j => by have := this.2 j; unfold useU; omega⟩
section
variable {X : Cx} {st : St}
theorem j_Together (h : On X) (hg : GlobAt st) (m : MachV) {lo hi : Nat} {v : AV} {l : List OpV} (hv : OpsAt st lo hi v l) (hlen : (l.length : Int) < 4611686018427387904) :
    J X.P X.F X.H (.call 10 [.agg m.row, v] st (.ret (.tup [bA (decide (useErr m l = 0) && fitsU (useU m l)), iA (useErr m l)])) st) := by
  refine pure_intro (by rw [h.F]; rfl) rfl ?_
  simp only [v_machine_Together, MachV.row, kB, kZ, kD, fillA, partsEv, zeroes, Nat.reduceSub, Int.reduceToNat, Nat.reduceMul, asInt?, asNat?, Int.reduceAdd, Int.reduceLE, Int.reduceLT, Int.reduceNeg, Nat.reduceLeDiff, VOpd.ev, Nat.reduceEqDiff, Nat.reduceAdd, reduceIte, reduceCtorEq, splice, resOf, tupOf, cellsV, AV.toV, AV.cell?, cellVal]
  refine callO_same (j_use h (hg.ext (Ext.of _ _)) m (hv.mono _) hlen) ?_
  simp only [UseV.row, kB, kZ, kD, fillA, partsEv, zeroes, Nat.reduceSub, Int.reduceToNat, Nat.reduceMul, asInt?, asNat?, Int.reduceAdd, Int.reduceLE, Int.reduceLT, Int.reduceNeg, Nat.reduceLeDiff, VOpd.ev, Nat.reduceEqDiff, Nat.reduceAdd, reduceIte, reduceCtorEq, splice, resOf, tupOf, cellsV, AV.toV, AV.cell?, cellVal]
  cases he : decide (useErr m l = 0)
  · simp only [he, kB, kZ, kD, fillA, partsEv, zeroes, Nat.reduceSub, Int.reduceToNat, Nat.reduceMul, asInt?, asNat?, Int.reduceAdd, Int.reduceLE, Int.reduceLT, Int.reduceNeg, Nat.reduceLeDiff, VOpd.ev, Nat.reduceEqDiff, Nat.reduceAdd, reduceIte, reduceCtorEq, splice, resOf, tupOf, cellsV, AV.toV, AV.cell?, cellVal]
    first | exact ⟨_, rfl⟩ | exact ⟨rfl, _, rfl⟩ | exact ⟨trivial, _, rfl⟩ | exact ⟨[], (List.append_nil _).symm⟩
  · have he0 := of_decide_eq_true he
    have hr : useR m l = useU m l := by unfold useR; rw [if_pos he0]
    simp only [he, kB, kZ, kD, fillA, partsEv, zeroes, Nat.reduceSub, Int.reduceToNat, Nat.reduceMul, asInt?, asNat?, Int.reduceAdd, Int.reduceLE, Int.reduceLT, Int.reduceNeg, Nat.reduceLeDiff, VOpd.ev, Nat.reduceEqDiff, Nat.reduceAdd, reduceIte, reduceCtorEq, splice, resOf, tupOf, cellsV, AV.toV, AV.cell?, cellVal]
    refine callO_same (j_Fits h (useR m l)) ?_
    rw [hr]
    simp only [he, kB, kZ, kD, fillA, partsEv, zeroes, Nat.reduceSub, Int.reduceToNat, Nat.reduceMul, asInt?, asNat?, Int.reduceAdd, Int.reduceLE, Int.reduceLT, Int.reduceNeg, Nat.reduceLeDiff, VOpd.ev, Nat.reduceEqDiff, Nat.reduceAdd, reduceIte, reduceCtorEq, splice, resOf, tupOf, cellsV, AV.toV, AV.cell?, cellVal]
    first | exact ⟨_, rfl⟩ | exact ⟨rfl, _, rfl⟩ | exact ⟨trivial, _, rfl⟩ | exact ⟨[], (List.append_nil _).symm⟩
theorem j_MHome (h : On X) (hg : GlobAt st) (m : MachV) {lo hi : Nat} {v : AV} {l : List OpV} (hv : OpsAt st lo hi v l) (hlen : (l.length : Int) < 4611686018427387904) :
    J X.P X.F X.H (.call 11 [.agg m.row, v] st (.ret (.tup [iA (if decide (useErr m l = 0) then homeU (useU m l) else 0), iA (useErr m l)])) st) := by
  refine pure_intro (by rw [h.F]; rfl) rfl ?_
  simp only [v_machine_Home, MachV.row, kB, kZ, kD, fillA, partsEv, zeroes, Nat.reduceSub, Int.reduceToNat, Nat.reduceMul, asInt?, asNat?, Int.reduceAdd, Int.reduceLE, Int.reduceLT, Int.reduceNeg, Nat.reduceLeDiff, VOpd.ev, Nat.reduceEqDiff, Nat.reduceAdd, reduceIte, reduceCtorEq, splice, resOf, tupOf, cellsV, AV.toV, AV.cell?, cellVal]
  refine callO_same (j_use h (hg.ext (Ext.of _ _)) m (hv.mono _) hlen) ?_
  simp only [UseV.row, kB, kZ, kD, fillA, partsEv, zeroes, Nat.reduceSub, Int.reduceToNat, Nat.reduceMul, asInt?, asNat?, Int.reduceAdd, Int.reduceLE, Int.reduceLT, Int.reduceNeg, Nat.reduceLeDiff, VOpd.ev, Nat.reduceEqDiff, Nat.reduceAdd, reduceIte, reduceCtorEq, splice, resOf, tupOf, cellsV, AV.toV, AV.cell?, cellVal]
  cases he : decide (useErr m l = 0)
  · have hne : decide (useErr m l ≠ 0) = true := by simpa using he
    simp only [he, hne, kB, kZ, kD, fillA, partsEv, zeroes, Nat.reduceSub, Int.reduceToNat, Nat.reduceMul, asInt?, asNat?, Int.reduceAdd, Int.reduceLE, Int.reduceLT, Int.reduceNeg, Nat.reduceLeDiff, VOpd.ev, Nat.reduceEqDiff, Nat.reduceAdd, reduceIte, reduceCtorEq, splice, resOf, tupOf, cellsV, AV.toV, AV.cell?, cellVal]
    first | exact ⟨_, rfl⟩ | exact ⟨rfl, _, rfl⟩ | exact ⟨trivial, _, rfl⟩ | exact ⟨[], (List.append_nil _).symm⟩
  · have he0 := of_decide_eq_true he
    have hne : decide (useErr m l ≠ 0) = false := by simpa using he
    have hr : useR m l = useU m l := by unfold useR; rw [if_pos he0]
    obtain ⟨ho, hl, _⟩ := useErr_ok he0
    have hb := useU_bnds (m := m) hl
    simp only [he, hne, kB, kZ, kD, fillA, partsEv, zeroes, Nat.reduceSub, Int.reduceToNat, Nat.reduceMul, asInt?, asNat?, Int.reduceAdd, Int.reduceLE, Int.reduceLT, Int.reduceNeg, Nat.reduceLeDiff, VOpd.ev, Nat.reduceEqDiff, Nat.reduceAdd, reduceIte, reduceCtorEq, splice, resOf, tupOf, cellsV, AV.toV, AV.cell?, cellVal]
    refine callO_same (j_UHome h (useR m l) (by rw [hr]; unfold useU; rw [useU_m m l _ rfl]; exact ho) (by rw [hr]; exact hb.1) (by rw [hr]; exact hb.2)) ?_
    rw [hr, he0]
    simp only [kB, kZ, kD, fillA, partsEv, zeroes, Nat.reduceSub, Int.reduceToNat, Nat.reduceMul, asInt?, asNat?, Int.reduceAdd, Int.reduceLE, Int.reduceLT, Int.reduceNeg, Nat.reduceLeDiff, VOpd.ev, Nat.reduceEqDiff, Nat.reduceAdd, reduceIte, reduceCtorEq, splice, resOf, tupOf, cellsV, AV.toV, AV.cell?, cellVal]
    first | exact ⟨_, rfl⟩ | exact ⟨rfl, _, rfl⟩ | exact ⟨trivial, _, rfl⟩ | exact ⟨[], (List.append_nil _).symm⟩
end
end Go.VX.Seat
end
section
set_option linter.unusedVariables false
set_option linter.unusedSimpArgs false
set_option maxRecDepth 4000
/-! Layer 19: the reference's Wrong. -/
namespace Go.VX.Seat
open Go.Proofs
section
variable {X : Cx} {st : St}
set_option maxHeartbeats 1000000 in
theorem j_r19_Wrong (h : On X) (m : MachV) {lo hi : Nat} {v : AV} {l : List OpV} (hv : OpsAt st lo hi v l) (hlen : (l.length : Int) < 4611686018427387904) :
    J X.P X.F X.H (.call 13 [.agg m.row, v] st (.ret (iA (wrongM m l))) st) := by
  refine pure_intro (by rw [h.F]; rfl) rfl ?_
  have l1 := hv.len
  simp only [List.length_map] at l1
  simp only [v_r19_Wrong, l1, MachV.row, kB, kZ, kD, fillA, partsEv, zeroes, Nat.reduceSub, Int.reduceToNat, Nat.reduceMul, asInt?, asNat?, Int.reduceAdd, Int.reduceLE, Int.reduceLT, Int.reduceNeg, Nat.reduceLeDiff, VOpd.ev, Nat.reduceEqDiff, Nat.reduceAdd, reduceIte, reduceCtorEq, splice, resOf, tupOf, cellsV, AV.toV, AV.cell?, cellVal]
  cases h400 : decide (400 < (l.length : Int))
  case true =>
    have e2 : wrongM m l = 3 := by unfold wrongM; rw [h400]; rfl
    simp only [h400, e2, kB, kZ, kD, fillA, partsEv, zeroes, Nat.reduceSub, Int.reduceToNat, Nat.reduceMul, asInt?, asNat?, Int.reduceAdd, Int.reduceLE, Int.reduceLT, Int.reduceNeg, Nat.reduceLeDiff, VOpd.ev, Nat.reduceEqDiff, Nat.reduceAdd, reduceIte, reduceCtorEq, splice, resOf, tupOf, cellsV, AV.toV, AV.cell?, cellVal]
    first | exact ⟨_, rfl⟩ | exact ⟨rfl, _, rfl⟩ | exact ⟨trivial, _, rfl⟩ | exact ⟨[], (List.append_nil _).symm⟩
  have hl400 : l.length ≤ 400 := by have := of_decide_eq_false h400; omega
  simp only [h400, l1, kB, kZ, kD, fillA, partsEv, zeroes, Nat.reduceSub, Int.reduceToNat, Nat.reduceMul, asInt?, asNat?, Int.reduceAdd, Int.reduceLE, Int.reduceLT, Int.reduceNeg, Nat.reduceLeDiff, VOpd.ev, Nat.reduceEqDiff, Nat.reduceAdd, reduceIte, reduceCtorEq, splice, resOf, tupOf, cellsV, AV.toV, AV.cell?, cellVal]
  refine loop_inv (fun n e s' => ∃ (i : Nat) (L : St), i + n = l.length ∧ s' = st ++ (⟨[iA m.u0, iA m.u1, iA m.u2, iA m.u3, iA m.l0, iA m.l1, iA m.l2, iA m.l3, iA m.regs, iA m.banks, iA m.ports], 0, 0⟩ :: L) ∧ e 1 = v ∧ e 2 = .ptr (st.length + 0) 0 ∧ e 5 = iA i ∧ (l.take i).all (okOp m) = true) ?_ l.length ?_
  case refine_2 =>
    exact ⟨0, [], by omega, rfl, rfl, rfl, rfl, rfl⟩
  intro n e s' ⟨i, L, him, hs', k1, k2, k5, hall⟩
  subst hs'
  simp only [k1, k2, k5, l1, kB, kZ, kD, fillA, partsEv, zeroes, Nat.reduceSub, Int.reduceToNat, Nat.reduceMul, asInt?, asNat?, Int.reduceAdd, Int.reduceLE, Int.reduceLT, Int.reduceNeg, Nat.reduceLeDiff, VOpd.ev, Nat.reduceEqDiff, Nat.reduceAdd, reduceIte, reduceCtorEq, splice, resOf, tupOf, cellsV, AV.toV, AV.cell?, cellVal]
  refine condO_intro ?_ ?_ <;> intro hcc
  · have hil : i < l.length := by have := of_decide_eq_true hcc; omega
    obtain ⟨b1, o1, he1, hn1, ha1, _⟩ := hv.get i (by simpa using hil)
    have ha0 := fun L => ha1 L 0 (by omega)
    simp only [List.getElem_map, OpV.row, List.getElem?_cons_zero] at hn1 ha0
    simp only [k1, k2, k5, he1, hn1, ha0, kB, kZ, kD, fillA, partsEv, zeroes, Nat.reduceSub, Int.reduceToNat, Nat.reduceMul, asInt?, asNat?, Int.reduceAdd, Int.reduceLE, Int.reduceLT, Int.reduceNeg, Nat.reduceLeDiff, VOpd.ev, Nat.reduceEqDiff, Nat.reduceAdd, reduceIte, reduceCtorEq, splice, resOf, tupOf, cellsV, AV.toV, AV.cell?, cellVal]
    refine callO_same (j_r19_Class h l[i].k) ?_
    cases hk : hasCls l[i].k
    · have hno : l.all (okOp m) = false := List.all_eq_false.2 ⟨l[i], List.getElem_mem hil, by unfold okOp; rw [hk]; simp⟩
      have e2 : wrongM m l = 2 := by unfold wrongM; rw [h400, hno]; rfl
      simp only [hk, k1, k2, k5, e2, kB, kZ, kD, fillA, partsEv, zeroes, Nat.reduceSub, Int.reduceToNat, Nat.reduceMul, asInt?, asNat?, Int.reduceAdd, Int.reduceLE, Int.reduceLT, Int.reduceNeg, Nat.reduceLeDiff, VOpd.ev, Nat.reduceEqDiff, Nat.reduceAdd, reduceIte, reduceCtorEq, splice, resOf, tupOf, cellsV, AV.toV, AV.cell?, cellVal]
      first | exact ⟨_, rfl⟩ | exact ⟨rfl, _, rfl⟩ | exact ⟨trivial, _, rfl⟩ | exact ⟨[], (List.append_nil _).symm⟩
    simp only [hk, k1, k2, k5, he1, hn1, ha0, kB, kZ, kD, fillA, partsEv, zeroes, Nat.reduceSub, Int.reduceToNat, Nat.reduceMul, asInt?, asNat?, Int.reduceAdd, Int.reduceLE, Int.reduceLT, Int.reduceNeg, Nat.reduceLeDiff, VOpd.ev, Nat.reduceEqDiff, Nat.reduceAdd, reduceIte, reduceCtorEq, splice, resOf, tupOf, cellsV, AV.toV, AV.cell?, cellVal]
    refine callO_own (w_r19_Reads h l[i]) ?_
    intro w m1 hw
    have lw := hw.arr.len
    simp only [List.length_map] at lw
    have hll := rdsR_len l[i]
    have hw1 := hw.arr
    simp only [List.append_assoc, List.cons_append, List.nil_append] at hw1
    simp only [k1, k2, k5, List.append_assoc, List.cons_append, List.nil_append, kB, kZ, kD, fillA, partsEv, zeroes, Nat.reduceSub, Int.reduceToNat, Nat.reduceMul, asInt?, asNat?, Int.reduceAdd, Int.reduceLE, Int.reduceLT, Int.reduceNeg, Nat.reduceLeDiff, VOpd.ev, Nat.reduceEqDiff, Nat.reduceAdd, reduceIte, reduceCtorEq, splice, resOf, tupOf, cellsV, AV.toV, AV.cell?, cellVal]
    refine cutLoop (mB (mB m0)) [1, 2, 5] (fun _ => (rdsR l[i]).all (regM m) = true) ?_ ?_
    · refine loop_live [8, 1, 2, 5] (fun mm e => ∃ k : Nat, k + mm = (rdsR l[i]).length ∧ e 9 = iA k ∧ ((rdsR l[i]).take k).all (regM m) = true) (rdsR l[i]).length ?_ ?_
      · exact ⟨0, by omega, by simp only [kB, kZ, kD, fillA, partsEv, zeroes, Nat.reduceSub, Int.reduceToNat, Nat.reduceMul, asInt?, asNat?, Int.reduceAdd, Int.reduceLE, Int.reduceLT, Int.reduceNeg, Nat.reduceLeDiff, VOpd.ev, Nat.reduceEqDiff, Nat.reduceAdd, reduceIte, reduceCtorEq, splice, resOf, tupOf, cellsV, AV.toV, AV.cell?, cellVal], rfl⟩
      · intro mm e hL ⟨k, hkm, q9, hpre⟩
        simp only [k1, k2, k5, kB, kZ, kD, fillA, partsEv, zeroes, Nat.reduceSub, Int.reduceToNat, Nat.reduceMul, asInt?, asNat?, Int.reduceAdd, Int.reduceLE, Int.reduceLT, Int.reduceNeg, Nat.reduceLeDiff, VOpd.ev, Nat.reduceEqDiff, Nat.reduceAdd, reduceIte, reduceCtorEq, splice, resOf, tupOf, cellsV, AV.toV, AV.cell?, cellVal] at hL
        obtain ⟨q8, q1, q2, q5⟩ := hL
        simp only [q8, q9, lw, kB, kZ, kD, fillA, partsEv, zeroes, Nat.reduceSub, Int.reduceToNat, Nat.reduceMul, asInt?, asNat?, Int.reduceAdd, Int.reduceLE, Int.reduceLT, Int.reduceNeg, Nat.reduceLeDiff, VOpd.ev, Nat.reduceEqDiff, Nat.reduceAdd, reduceIte, reduceCtorEq, splice, resOf, tupOf, cellsV, AV.toV, AV.cell?, cellVal]
        refine condO_intro ?_ ?_ <;> intro hc2
        · have hkl : k < (rdsR l[i]).length := by have := of_decide_eq_true hc2; omega
          obtain ⟨b2, o2, he2, _, ha2, _⟩ := hw1.get k (by simpa using hkl)
          have p2 := ha2 [] 0 (by omega)
          simp only [List.append_nil, List.getElem_map, Nat.add_zero, List.getElem?_cons_zero] at p2
          have hwr : IntKind.wrap .i64 ((k : Int) + 1) = ((k + 1 : Nat) : Int) := by rw [wrap_small (by omega) (by omega)]; omega
          cases hq : regM m (rdsR l[i])[k]
          · have hno : l.all (okOp m) = false := List.all_eq_false.2 ⟨l[i], List.getElem_mem hil, by
              have : (rdsR l[i]).all (regM m) = false := List.all_eq_false.2 ⟨_, List.getElem_mem hkl, by rw [hq]; simp⟩
              unfold okOp; rw [this]; simp⟩
            have e2 : wrongM m l = 2 := by unfold wrongM; rw [h400, hno]; rfl
            rw [e2]
            cases hd1 : decide ((rdsR l[i])[k] < 0)
            · have hd2 : decide (m.regs ≤ (rdsR l[i])[k]) = true := by
                have := of_decide_eq_false hd1
                unfold regM at hq
                simp only [Bool.and_eq_false_iff, decide_eq_false_iff_not] at hq
                exact decide_eq_true (by omega)
              simp only [q2, q8, q9, he2, p2, hd1, hd2, kB, kZ, kD, fillA, partsEv, zeroes, Nat.reduceSub, Int.reduceToNat, Nat.reduceMul, asInt?, asNat?, Int.reduceAdd, Int.reduceLE, Int.reduceLT, Int.reduceNeg, Nat.reduceLeDiff, VOpd.ev, Nat.reduceEqDiff, Nat.reduceAdd, reduceIte, reduceCtorEq, splice, resOf, tupOf, cellsV, AV.toV, AV.cell?, cellVal]
              first | exact ⟨_, rfl⟩ | exact ⟨rfl, _, rfl⟩ | exact ⟨trivial, _, rfl⟩ | exact ⟨[], (List.append_nil _).symm⟩
            · simp only [q2, q8, q9, he2, p2, hd1, kB, kZ, kD, fillA, partsEv, zeroes, Nat.reduceSub, Int.reduceToNat, Nat.reduceMul, asInt?, asNat?, Int.reduceAdd, Int.reduceLE, Int.reduceLT, Int.reduceNeg, Nat.reduceLeDiff, VOpd.ev, Nat.reduceEqDiff, Nat.reduceAdd, reduceIte, reduceCtorEq, splice, resOf, tupOf, cellsV, AV.toV, AV.cell?, cellVal]
              first | exact ⟨_, rfl⟩ | exact ⟨rfl, _, rfl⟩ | exact ⟨trivial, _, rfl⟩ | exact ⟨[], (List.append_nil _).symm⟩
          · have hr2 : 0 ≤ (rdsR l[i])[k] ∧ (rdsR l[i])[k] < m.regs := by unfold regM at hq; simpa using hq
            have hd1 : decide ((rdsR l[i])[k] < 0) = false := decide_eq_false (by omega)
            have hd2 : decide (m.regs ≤ (rdsR l[i])[k]) = false := decide_eq_false (by omega)
            simp only [q1, q2, q5, q8, q9, he2, p2, hd1, hd2, hwr, k1, k2, k5, kB, kZ, kD, fillA, partsEv, zeroes, Nat.reduceSub, Int.reduceToNat, Nat.reduceMul, asInt?, asNat?, Int.reduceAdd, Int.reduceLE, Int.reduceLT, Int.reduceNeg, Nat.reduceLeDiff, VOpd.ev, Nat.reduceEqDiff, Nat.reduceAdd, reduceIte, reduceCtorEq, splice, resOf, tupOf, cellsV, AV.toV, AV.cell?, cellVal]
            refine ⟨mm - 1, by omega, k + 1, by omega, rfl, ?_⟩
            rw [← List.take_append_getElem hkl, List.all_append, hpre]
            simp [hq]
        · have hkl : k = (rdsR l[i]).length := by have := of_decide_eq_false hc2; omega
          subst hkl
          rw [List.take_length] at hpre
          simp only [q1, q2, q5, hpre, k1, k2, k5, kB, kZ, kD, fillA, partsEv, zeroes, Nat.reduceSub, Int.reduceToNat, Nat.reduceMul, asInt?, asNat?, Int.reduceAdd, Int.reduceLE, Int.reduceLT, Int.reduceNeg, Nat.reduceLeDiff, VOpd.ev, Nat.reduceEqDiff, Nat.reduceAdd, reduceIte, reduceCtorEq, splice, resOf, tupOf, cellsV, AV.toV, AV.cell?, cellVal]
    intro e hL hregs
    simp only [k1, k2, k5, kB, kZ, kD, fillA, partsEv, zeroes, Nat.reduceSub, Int.reduceToNat, Nat.reduceMul, asInt?, asNat?, Int.reduceAdd, Int.reduceLE, Int.reduceLT, Int.reduceNeg, Nat.reduceLeDiff, VOpd.ev, Nat.reduceEqDiff, Nat.reduceAdd, reduceIte, reduceCtorEq, splice, resOf, tupOf, cellsV, AV.toV, AV.cell?, cellVal] at hL
    obtain ⟨q1, q2, q5⟩ := hL
    have hwr : IntKind.wrap .i64 ((i : Int) + 1) = ((i + 1 : Nat) : Int) := by rw [wrap_small (by omega) (by omega)]; omega
    have hal : (l.take (i + 1)).all (okOp m) = true := by
      rw [← List.take_append_getElem hil, List.all_append, hall]
      simp [okOp, hk, hregs]
    simp only [q1, q2, q5, hwr, kB, kZ, kD, fillA, partsEv, zeroes, Nat.reduceSub, Int.reduceToNat, Nat.reduceMul, asInt?, asNat?, Int.reduceAdd, Int.reduceLE, Int.reduceLT, Int.reduceNeg, Nat.reduceLeDiff, VOpd.ev, Nat.reduceEqDiff, Nat.reduceAdd, reduceIte, reduceCtorEq, splice, resOf, tupOf, cellsV, AV.toV, AV.cell?, cellVal]
    exact ⟨n - 1, by omega, i + 1, _, by omega, rfl, rfl, hal⟩
  · have hi : i = l.length := by have := of_decide_eq_false hcc; omega
    subst hi
    rw [List.take_length] at hall
    have e2 : wrongM m l = 0 := by unfold wrongM; rw [h400, hall]; rfl
    simp only [k1, k2, k5, e2, kB, kZ, kD, fillA, partsEv, zeroes, Nat.reduceSub, Int.reduceToNat, Nat.reduceMul, asInt?, asNat?, Int.reduceAdd, Int.reduceLE, Int.reduceLT, Int.reduceNeg, Nat.reduceLeDiff, VOpd.ev, Nat.reduceEqDiff, Nat.reduceAdd, reduceIte, reduceCtorEq, splice, resOf, tupOf, cellsV, AV.toV, AV.cell?, cellVal]
    first | exact ⟨_, rfl⟩ | exact ⟨rfl, _, rfl⟩ | exact ⟨trivial, _, rfl⟩ | exact ⟨[], (List.append_nil _).symm⟩
end
end Go.VX.Seat
end
section
set_option linter.unusedVariables false
set_option linter.unusedSimpArgs false
set_option maxRecDepth 4000
/-! The law MachineAlone. -/
namespace Go.VX.Seat
open Go.Proofs
theorem up_zero {b : Int} (hb : 1 ≤ b) : upI 0 b = 0 := by
  unfold upI
  rw [Int.tdiv_eq_ediv_of_nonneg (by omega)]
  exact Int.ediv_eq_zero_of_lt (by omega) (by omega)
theorem up_one {b : Int} (hb : 1 ≤ b) : upI 1 b = 1 := by
  unfold upI
  rw [show (1 : Int) + b - 1 = b by omega]
  exact Int.tdiv_self (by omega)
theorem up_le_one {a b : Int} (ha : 0 ≤ a) (hab : a ≤ b) (hb : 1 ≤ b) : 0 ≤ upI a b ∧ upI a b ≤ 1 := by
  unfold upI
  rw [Int.tdiv_eq_ediv_of_nonneg (by omega)]
  refine ⟨Int.ediv_nonneg (by omega) (by omega), ?_⟩
  have : (a + b - 1) / b < 2 := Int.ediv_lt_of_lt_mul (by omega) (by omega)
  omega
theorem alone_law {m : MachV} {o : OpV} (hok : okM m = true) (ho : okOp m o = true) : fitsU (useU m [o]) = true ∧ homeU (useU m [o]) = 1 := by
  have hb := okM_bnd hok
  have hk : hasCls o.k = true := by unfold okOp at ho; simp only [Bool.and_eq_true] at ho; exact ho.1
  obtain ⟨c, hc4, hcl, _⟩ := lsAt m o.k hk
  have hR := foldl_incr_bnd m.banks (rdsR o) (fun _ => 0) 0 (fun _ => ⟨Int.le_refl _, Int.le_refl _⟩)
  have hl := rdsR_len o
  have hct : (clsM o.k).toNat = c := by rw [hcl]; simp
  have hu : useU m [o] = ⟨m, incr (fun _ => 0) c, (rdsR o).foldl (fun R r => incr R (bankI m.banks r)) (fun _ => 0)⟩ := by
    show withU (zeroUse m) o = _
    unfold withU zeroUse
    rw [hct]
  rw [hu]
  generalize (rdsR o).foldl (fun R r => incr R (bankI m.banks r)) (fun _ => 0) = R at *
  have hmx : 0 ≤ maxL (UseV.rs ⟨m, incr (fun _ => 0) c, R⟩) ∧ maxL (UseV.rs ⟨m, incr (fun _ => 0) c, R⟩) ≤ 4 := maxL_rs fun j => by have := hR j; show 0 ≤ R j ∧ R j ≤ 4; omega
  unfold fitsU homeU
  generalize maxL (UseV.rs ⟨m, incr (fun _ => 0) c, R⟩) = M at *
  have hM := up_le_one hmx.1 (show M ≤ m.ports by omega) (by omega)
  have z0 := up_zero hb.1.1
  have z1 := up_zero hb.2.1.1
  have z2 := up_zero hb.2.2.1.1
  have z3 := up_zero hb.2.2.2.1.1
  have o0 := up_one hb.1.1
  have o1 := up_one hb.2.1.1
  have o2 := up_one hb.2.2.1.1
  have o3 := up_one hb.2.2.2.1.1
  match c, hc4 with
  | 0, _ => simp [incr, z1, z2, z3, o0]; omega
  | 1, _ => simp [incr, z0, z2, z3, o1]; omega
  | 2, _ => simp [incr, z0, z1, z3, o2]; omega
  | 3, _ => simp [incr, z0, z1, z2, o3]; omega
section
variable {X : Cx} {st : St}
set_option maxHeartbeats 2000000 in
theorem w_MachineAlone (h : OnH X) (hg : GB st) (m : MachV) (o : OpV) :
    wpF X 7 [.agg m.row, .agg o.row] st fun r s => r = .ret (bA true) ∧ ∃ m, s = st ++ m := by
  refine wpF_go (fn := v_l19_MachineAlone) (by rw [h.F]; rfl) ?_
  simp only [v_l19_MachineAlone, MachV.row, OpV.row, kB, kZ, kD, fillA, partsEv, zeroes, Nat.reduceSub, Int.reduceToNat, Nat.reduceMul, asInt?, asNat?, Int.reduceAdd, Int.reduceLE, Int.reduceLT, Int.reduceNeg, Nat.reduceLeDiff, VOpd.ev, Nat.reduceEqDiff, Nat.reduceAdd, reduceIte, reduceCtorEq, splice, resOf, tupOf, cellsV, AV.toV, AV.cell?, cellVal]
  refine callO_same (j_r19_Check h.toOn m) ?_
  cases hok : okM m
  · have e : chkM m = 2 := by unfold chkM; rw [hok]; rfl
    simp only [e, Int.reduceEq, Int.reduceNe, kB, kZ, kD, fillA, partsEv, zeroes, Nat.reduceSub, Int.reduceToNat, Nat.reduceMul, asInt?, asNat?, Int.reduceAdd, Int.reduceLE, Int.reduceLT, Int.reduceNeg, Nat.reduceLeDiff, VOpd.ev, Nat.reduceEqDiff, Nat.reduceAdd, reduceIte, reduceCtorEq, splice, resOf, tupOf, cellsV, AV.toV, AV.cell?, cellVal]
    refine callO_same (.hook (h.alive _ (hg.app _))) ?_
    simp only [kB, kZ, kD, fillA, partsEv, zeroes, Nat.reduceSub, Int.reduceToNat, Nat.reduceMul, asInt?, asNat?, Int.reduceAdd, Int.reduceLE, Int.reduceLT, Int.reduceNeg, Nat.reduceLeDiff, VOpd.ev, Nat.reduceEqDiff, Nat.reduceAdd, reduceIte, reduceCtorEq, splice, resOf, tupOf, cellsV, AV.toV, AV.cell?, cellVal]
    exact ⟨_, rfl⟩
  have e : chkM m = 0 := by unfold chkM; rw [hok]; rfl
  have hops : OpsAt (st ++ [⟨[iA m.u0, iA m.u1, iA m.u2, iA m.u3, iA m.l0, iA m.l1, iA m.l2, iA m.l3, iA m.regs, iA m.banks, iA m.ports], 0, 0⟩, ⟨[iA o.k, iA o.d, iA o.a, iA o.b, iA o.c, iA o.n, iA o.g], 0, 0⟩, ⟨[iA o.k, iA o.d, iA o.a, iA o.b, iA o.c, iA o.n, iA o.g], 0, 0⟩]) (st.length + 2) (st.length + 2 + 1) (.sl (st.length + 2) 0 1 7 true) [o] :=
    ArrAt.ofBox (mode := 0) (ver := 0) (by simp [OpV.row]) (by decide) (by simp [OpV.row]) rfl
  simp only [e, Int.reduceEq, Int.reduceNe, kB, kZ, kD, fillA, partsEv, zeroes, Nat.reduceSub, Int.reduceToNat, Nat.reduceMul, asInt?, asNat?, Int.reduceAdd, Int.reduceLE, Int.reduceLT, Int.reduceNeg, Nat.reduceLeDiff, VOpd.ev, Nat.reduceEqDiff, Nat.reduceAdd, reduceIte, reduceCtorEq, splice, resOf, tupOf, cellsV, AV.toV, AV.cell?, cellVal]
  refine callO_same (j_r19_Wrong h.toOn m hops (by simp)) ?_
  cases hop : okOp m o
  · have e2 : wrongM m [o] = 2 := by unfold wrongM; simp [hop]
    simp only [e2, Int.reduceEq, Int.reduceNe, kB, kZ, kD, fillA, partsEv, zeroes, Nat.reduceSub, Int.reduceToNat, Nat.reduceMul, asInt?, asNat?, Int.reduceAdd, Int.reduceLE, Int.reduceLT, Int.reduceNeg, Nat.reduceLeDiff, VOpd.ev, Nat.reduceEqDiff, Nat.reduceAdd, reduceIte, reduceCtorEq, splice, resOf, tupOf, cellsV, AV.toV, AV.cell?, cellVal]
    refine callO_same (.hook (h.alive _ (hg.app _))) ?_
    simp only [kB, kZ, kD, fillA, partsEv, zeroes, Nat.reduceSub, Int.reduceToNat, Nat.reduceMul, asInt?, asNat?, Int.reduceAdd, Int.reduceLE, Int.reduceLT, Int.reduceNeg, Nat.reduceLeDiff, VOpd.ev, Nat.reduceEqDiff, Nat.reduceAdd, reduceIte, reduceCtorEq, splice, resOf, tupOf, cellsV, AV.toV, AV.cell?, cellVal]
    exact ⟨_, rfl⟩
  have e2 : wrongM m [o] = 0 := by unfold wrongM; simp [hop]
  have e3 : useErr m [o] = 0 := by unfold useErr; rw [hok, e2]; rfl
  obtain ⟨f1, f2⟩ := alone_law hok hop
  simp only [e2, Int.reduceEq, Int.reduceNe, kB, kZ, kD, fillA, partsEv, zeroes, Nat.reduceSub, Int.reduceToNat, Nat.reduceMul, asInt?, asNat?, Int.reduceAdd, Int.reduceLE, Int.reduceLT, Int.reduceNeg, Nat.reduceLeDiff, VOpd.ev, Nat.reduceEqDiff, Nat.reduceAdd, reduceIte, reduceCtorEq, splice, resOf, tupOf, cellsV, AV.toV, AV.cell?, cellVal]
  refine callO_same (j_Together h.toOn (hg.glob.ext (Ext.of _ _)) m hops (by simp)) ?_
  simp only [e3, f1, kB, kZ, kD, fillA, partsEv, zeroes, Nat.reduceSub, Int.reduceToNat, Nat.reduceMul, asInt?, asNat?, Int.reduceAdd, Int.reduceLE, Int.reduceLT, Int.reduceNeg, Nat.reduceLeDiff, VOpd.ev, Nat.reduceEqDiff, Nat.reduceAdd, reduceIte, reduceCtorEq, splice, resOf, tupOf, cellsV, AV.toV, AV.cell?, cellVal]
  refine callO_same (j_MHome h.toOn (hg.glob.ext (Ext.of _ _)) m hops (by simp)) ?_
  simp only [e3, f2, Int.reduceEq, Int.reduceNe, eq_self, kB, kZ, kD, fillA, partsEv, zeroes, Nat.reduceSub, Int.reduceToNat, Nat.reduceMul, asInt?, asNat?, Int.reduceAdd, Int.reduceLE, Int.reduceLT, Int.reduceNeg, Nat.reduceLeDiff, VOpd.ev, Nat.reduceEqDiff, Nat.reduceAdd, reduceIte, reduceCtorEq, splice, resOf, tupOf, cellsV, AV.toV, AV.cell?, cellVal]
  refine callO_same (.hook (h.alive _ (hg.app _))) ?_
  simp only [kB, kZ, kD, fillA, partsEv, zeroes, Nat.reduceSub, Int.reduceToNat, Nat.reduceMul, asInt?, asNat?, Int.reduceAdd, Int.reduceLE, Int.reduceLT, Int.reduceNeg, Nat.reduceLeDiff, VOpd.ev, Nat.reduceEqDiff, Nat.reduceAdd, reduceIte, reduceCtorEq, splice, resOf, tupOf, cellsV, AV.toV, AV.cell?, cellVal]
  exact ⟨_, rfl⟩
end
end Go.VX.Seat
end
section
set_option linter.unusedVariables false
set_option linter.unusedSimpArgs false
set_option maxRecDepth 4000
/-! Plain law of MachineMore. -/
namespace Go.VX.Seat
open Go.Proofs
theorem up_le {a b k : Int} (ha : 0 ≤ a) (hb : 1 ≤ b) (h : a ≤ k * b) : upI a b ≤ k := by
  unfold upI
  rw [Int.tdiv_eq_ediv_of_nonneg (by omega)]
  have : (a + b - 1) / b < k + 1 := Int.ediv_lt_of_lt_mul (by omega) (by rw [Int.add_mul]; omega)
  omega
theorem le_up {a b : Int} (ha : 0 ≤ a) (hb : 1 ≤ b) : a ≤ upI a b * b := by
  unfold upI
  rw [Int.tdiv_eq_ediv_of_nonneg (by omega)]
  have h1 := Int.mul_ediv_add_emod (a + b - 1) b
  have h2 := Int.emod_lt_of_pos (a + b - 1) (show 0 < b by omega)
  have h3 : b * ((a + b - 1) / b) = (a + b - 1) / b * b := Int.mul_comm _ _
  omega
theorem up_anti {a b b' : Int} (ha : 0 ≤ a) (hb : 1 ≤ b) (hbb : b ≤ b') : upI a b' ≤ upI a b := by
  refine up_le ha (by omega) ?_
  have h1 := le_up ha hb
  have h2 := (up_bnd ha hb).1
  have h3 : upI a b * b ≤ upI a b * b' := Int.mul_le_mul_of_nonneg_left hbb h2
  omega
/-- Counts do not depend on Units and Ports. -/
theorem useU_same {m m' : MachV} (hb : m'.banks = m.banks) : ∀ (l : List OpV) (u u' : UseV), u.m = m → u'.m = m' → u'.A = u.A → u'.R = u.R → (l.foldl withU u').A = (l.foldl withU u).A ∧ (l.foldl withU u').R = (l.foldl withU u).R
  | [], u, u', _, _, h1, h2 => ⟨h1, h2⟩
  | o :: l, u, u', e, e', h1, h2 => by
    simp only [List.foldl_cons]
    refine useU_same hb l (withU u o) (withU u' o) e e' ?_ ?_
    · unfold withU; simp only [h1]
    · unfold withU; simp only [h2, e, e', hb]
end Go.VX.Seat
end
section
set_option linter.unusedVariables false
set_option linter.unusedSimpArgs false
set_option maxRecDepth 4000
/-! Layer 19: cut. -/
namespace Go.VX.Seat
open Go.Proofs
def cutL (l : List OpV) : List OpV := (if decide ((l.length : Int) ≤ 400) then l.take 30 else l).take 401
theorem cutL_len (l : List OpV) : (cutL l).length ≤ 401 := by unfold cutL; simp; omega
section
variable {X : Cx} {st : St}
theorem w_l19_cut (h : On X) {lo hi : Nat} {v : AV} {l : List OpV} (hv : OpsAt st lo hi v l) :
    wpF X 9 [v] st fun r s => ∃ w m, r = .ret w ∧ s = st ++ m ∧ OwnS s st.length w 7 ((cutL l).map OpV.row) := by
  refine wpF_go (fn := v_l19_cut) (by rw [h.F]; rfl) ?_
  have l1 := hv.len
  simp only [List.length_map] at l1
  simp only [v_l19_cut, l1, kB, kZ, kD, fillA, partsEv, zeroes, Nat.reduceSub, Int.reduceToNat, Nat.reduceMul, asInt?, asNat?, Int.reduceAdd, Int.reduceLE, Int.reduceLT, Int.reduceNeg, Nat.reduceLeDiff, VOpd.ev, Nat.reduceEqDiff, Nat.reduceAdd, reduceIte, reduceCtorEq, splice, resOf, tupOf, cellsV, AV.toV, AV.cell?, cellVal]
  refine anyCond m0 (fun e s => s = st ∧ ∃ w, e 0 = w ∧ OpsAt st lo hi w (if decide ((l.length : Int) ≤ 400) then l.take 30 else l)) ?_ ?_
  · refine condO_intro ?_ ?_ <;> intro hc
    · have hmin : (min (l.length : Int) 30) = ((min l.length 30 : Nat) : Int) := by omega
      have ht : l.take (min l.length 30) = l.take 30 := by
        rcases Nat.le_total l.length 30 with h | h
        · rw [Nat.min_eq_left h, List.take_length, List.take_of_length_le h]
        · rw [Nat.min_eq_right h]
      simp only [l1, hc, kB, kZ, kD, fillA, partsEv, zeroes, Nat.reduceSub, Int.reduceToNat, Nat.reduceMul, asInt?, asNat?, Int.reduceAdd, Int.reduceLE, Int.reduceLT, Int.reduceNeg, Nat.reduceLeDiff, VOpd.ev, Nat.reduceEqDiff, Nat.reduceAdd, reduceIte, reduceCtorEq, splice, resOf, tupOf, cellsV, AV.toV, AV.cell?, cellVal]
      refine opR_pre (vx := v) (n := min l.length 30) (lo := lo) (hi := hi) (rows := l.map OpV.row) (by simp only [kB, kZ, kD, fillA, partsEv, zeroes, Nat.reduceSub, Int.reduceToNat, Nat.reduceMul, asInt?, asNat?, Int.reduceAdd, Int.reduceLE, Int.reduceLT, Int.reduceNeg, Nat.reduceLeDiff, VOpd.ev, Nat.reduceEqDiff, Nat.reduceAdd, reduceIte, reduceCtorEq, splice, resOf, tupOf, cellsV, AV.toV, AV.cell?, cellVal]) (by rw [hmin]; simp only [kB, kZ, kD, fillA, partsEv, zeroes, Nat.reduceSub, Int.reduceToNat, Nat.reduceMul, asInt?, asNat?, Int.reduceAdd, Int.reduceLE, Int.reduceLT, Int.reduceNeg, Nat.reduceLeDiff, VOpd.ev, Nat.reduceEqDiff, Nat.reduceAdd, reduceIte, reduceCtorEq, splice, resOf, tupOf, cellsV, AV.toV, AV.cell?, cellVal]; rw [if_pos (by omega)]) (hv.mono _) (by simp; omega) ?_
      intro w hw
      rw [← List.map_take, ht] at hw
      simp only [hc, if_true, kB, kZ, kD, fillA, partsEv, zeroes, Nat.reduceSub, Int.reduceToNat, Nat.reduceMul, asInt?, asNat?, Int.reduceAdd, Int.reduceLE, Int.reduceLT, Int.reduceNeg, Nat.reduceLeDiff, VOpd.ev, Nat.reduceEqDiff, Nat.reduceAdd, reduceIte, reduceCtorEq, splice, resOf, tupOf, cellsV, AV.toV, AV.cell?, cellVal]
      exact ⟨List.append_nil _, by rw [List.append_nil] at hw; exact hw⟩
    · simp only [hc, kB, kZ, kD, fillA, partsEv, zeroes, Nat.reduceSub, Int.reduceToNat, Nat.reduceMul, asInt?, asNat?, Int.reduceAdd, Int.reduceLE, Int.reduceLT, Int.reduceNeg, Nat.reduceLeDiff, VOpd.ev, Nat.reduceEqDiff, Nat.reduceAdd, reduceIte, reduceCtorEq, splice, resOf, tupOf, cellsV, AV.toV, AV.cell?, cellVal]
      exact ⟨List.append_nil _, hv⟩
  rintro e s ⟨rfl, w, k0, hw⟩
  have lw := hw.len
  simp only [List.length_map] at lw
  have hcut : cutL l = (if decide ((l.length : Int) ≤ 400) then l.take 30 else l).take 401 := rfl
  rw [hcut]
  generalize (if decide ((l.length : Int) ≤ 400) then l.take 30 else l) = l2 at *
  have hmin : (min (l2.length : Int) 401) = ((min l2.length 401 : Nat) : Int) := by omega
  have ht : l2.take (min l2.length 401) = l2.take 401 := by
    rcases Nat.le_total l2.length 401 with h | h
    · rw [Nat.min_eq_left h, List.take_length, List.take_of_length_le h]
    · rw [Nat.min_eq_right h]
  simp only [k0, lw, kB, kZ, kD, fillA, partsEv, zeroes, Nat.reduceSub, Int.reduceToNat, Nat.reduceMul, asInt?, asNat?, Int.reduceAdd, Int.reduceLE, Int.reduceLT, Int.reduceNeg, Nat.reduceLeDiff, VOpd.ev, Nat.reduceEqDiff, Nat.reduceAdd, reduceIte, reduceCtorEq, splice, resOf, tupOf, cellsV, AV.toV, AV.cell?, cellVal]
  refine opR_pre (vx := w) (n := min l2.length 401) (lo := lo) (hi := hi) (rows := l2.map OpV.row) (by simp only [k0, kB, kZ, kD, fillA, partsEv, zeroes, Nat.reduceSub, Int.reduceToNat, Nat.reduceMul, asInt?, asNat?, Int.reduceAdd, Int.reduceLE, Int.reduceLT, Int.reduceNeg, Nat.reduceLeDiff, VOpd.ev, Nat.reduceEqDiff, Nat.reduceAdd, reduceIte, reduceCtorEq, splice, resOf, tupOf, cellsV, AV.toV, AV.cell?, cellVal]) (by rw [hmin]; simp only [kB, kZ, kD, fillA, partsEv, zeroes, Nat.reduceSub, Int.reduceToNat, Nat.reduceMul, asInt?, asNat?, Int.reduceAdd, Int.reduceLE, Int.reduceLT, Int.reduceNeg, Nat.reduceLeDiff, VOpd.ev, Nat.reduceEqDiff, Nat.reduceAdd, reduceIte, reduceCtorEq, splice, resOf, tupOf, cellsV, AV.toV, AV.cell?, cellVal]; rw [if_pos (by omega)]) (hw.mono _) (by simp; omega) ?_
  intro w1 hw1
  rw [← List.map_take, ht] at hw1
  simp only [kB, kZ, kD, fillA, partsEv, zeroes, Nat.reduceSub, Int.reduceToNat, Nat.reduceMul, asInt?, asNat?, Int.reduceAdd, Int.reduceLE, Int.reduceLT, Int.reduceNeg, Nat.reduceLeDiff, VOpd.ev, Nat.reduceEqDiff, Nat.reduceAdd, reduceIte, reduceCtorEq, splice, resOf, tupOf, cellsV, AV.toV, AV.cell?, cellVal]
  refine opR_append (vx := .sl (s.length) 0 0 7 true) (vy := w1) (lo := s.length) (rows := []) (by simp only [kB, kZ, kD, fillA, partsEv, zeroes, Nat.reduceSub, Int.reduceToNat, Nat.reduceMul, asInt?, asNat?, Int.reduceAdd, Int.reduceLE, Int.reduceLT, Int.reduceNeg, Nat.reduceLeDiff, VOpd.ev, Nat.reduceEqDiff, Nat.reduceAdd, reduceIte, reduceCtorEq, splice, resOf, tupOf, cellsV, AV.toV, AV.cell?, cellVal]) (by simp only [kB, kZ, kD, fillA, partsEv, zeroes, Nat.reduceSub, Int.reduceToNat, Nat.reduceMul, asInt?, asNat?, Int.reduceAdd, Int.reduceLE, Int.reduceLT, Int.reduceNeg, Nat.reduceLeDiff, VOpd.ev, Nat.reduceEqDiff, Nat.reduceAdd, reduceIte, reduceCtorEq, splice, resOf, tupOf, cellsV, AV.toV, AV.cell?, cellVal]) (own_empty (x := ⟨[], 0, 0⟩) (by simp) (by decide) (Nat.le_refl _)) (by simp) hw1 (by simp; omega) (opRow_cells _) ?_
  intro w2 s1 hag hown hor
  obtain ⟨L2, rfl⟩ := Agree.shape (st := s) (M := ([] : St)) (N := [⟨[], 0, 0⟩]) (by simpa using hag) (fun b hb => by have := hb.2; cases this; simp)
  simp only [kB, kZ, kD, fillA, partsEv, zeroes, Nat.reduceSub, Int.reduceToNat, Nat.reduceMul, asInt?, asNat?, Int.reduceAdd, Int.reduceLE, Int.reduceLT, Int.reduceNeg, Nat.reduceLeDiff, VOpd.ev, Nat.reduceEqDiff, Nat.reduceAdd, reduceIte, reduceCtorEq, splice, resOf, tupOf, cellsV, AV.toV, AV.cell?, cellVal]
  exact ⟨_, _, rfl, rfl, by simpa using hown⟩
end
end Go.VX.Seat
end
