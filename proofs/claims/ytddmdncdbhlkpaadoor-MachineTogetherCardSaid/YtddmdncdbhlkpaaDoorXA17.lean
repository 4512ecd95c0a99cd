/- A part of the proofs of the statements of one layer: M18, M19, M20. No condition is added here. -/
import Derived.Test.YtddmdncdbhlkpaaDoorXA16
section
set_option linter.unusedVariables false
set_option linter.unusedSimpArgs false
set_option maxRecDepth 4000
/-! Layer 19: the reference's counts. -/
namespace Go.VX.Seat
open Go.Proofs
def rcells (n : Nat) (R : Nat → Int) : List AV := (List.range n).map fun j => iA (R j)
def acells (A : Nat → Int) : List AV := [iA (A 0), iA (A 1), iA (A 2), iA (A 3)]
theorem rcells_len (n : Nat) (R : Nat → Int) : (rcells n R).length = n := by simp [rcells]
theorem rcells_get {n : Nat} {R : Nat → Int} {j : Nat} (h : j < n) : (rcells n R)[j]? = some (iA (R j)) := by
  unfold rcells
  rw [List.getElem?_map, List.getElem?_range h]
  rfl
theorem rcells_splice {n : Nat} {R : Nat → Int} {j : Nat} (h : j < n) : splice (rcells n R) j [iA (R j + 1)] = rcells n (incr R j) := by
  refine List.ext_getElem? fun i => ?_
  unfold splice
  have hl := rcells_len n R
  by_cases hi : i < n
  · rw [rcells_get hi]
    rcases Nat.lt_trichotomy i j with h1 | h1 | h1
    · rw [List.getElem?_append_left (by simp only [List.length_append, List.length_take, hl]; omega), List.getElem?_append_left (by simp only [List.length_take, hl]; omega), List.getElem?_take_of_lt h1, rcells_get hi]
      unfold incr; rw [if_neg (by omega)]
    · subst h1
      rw [List.getElem?_append_left (by simp only [List.length_append, List.length_take, hl, List.length_cons]; omega), List.getElem?_append_right (by simp only [List.length_take, hl]; omega)]
      simp only [List.length_take, hl, Nat.min_eq_left (Nat.le_of_lt h), Nat.sub_self, List.getElem?_cons_zero]
      unfold incr; rw [if_pos rfl]
    · rw [List.getElem?_append_right (by simp only [List.length_append, List.length_take, hl, List.length_cons, List.length_nil]; omega)]
      simp only [List.length_append, List.length_take, hl, Nat.min_eq_left (Nat.le_of_lt h), List.length_cons, List.length_nil, List.getElem?_drop]
      rw [show j + (0 + 1) + (i - (j + (0 + 1))) = i by omega, rcells_get hi]
      unfold incr; rw [if_neg (by omega)]
  · rw [List.getElem?_eq_none (by simp [hl]; omega), List.getElem?_eq_none (by rw [rcells_len]; omega)]
theorem rcells_zero (n : Nat) : (List.replicate n [iA 0]).flatten = rcells n (fun _ => 0) := by
  unfold rcells
  induction n with
  | zero => rfl
  | succ n ih => rw [List.replicate_succ', List.range_succ, List.map_append, List.flatten_append, ih]; rfl
theorem acells_get (A : Nat → Int) : ∀ c : Nat, c < 4 → (acells A)[c]? = some (iA (A c))
  | 0, _ => rfl
  | 1, _ => rfl
  | 2, _ => rfl
  | 3, _ => rfl
theorem acells_splice (A : Nat → Int) : ∀ c : Nat, c < 4 → splice (acells A) c [iA (A c + 1)] = acells (incr A c)
  | 0, _ => rfl
  | 1, _ => rfl
  | 2, _ => rfl
  | 3, _ => rfl
theorem acells_len (A : Nat → Int) : (acells A).length = 4 := rfl
theorem mrow_len (m : MachV) : m.row.length = 11 := rfl
theorem useU_take {m : MachV} {l : List OpV} {i : Nat} (h : i < l.length) : useU m (l.take (i + 1)) = withU (useU m (l.take i)) l[i] := by
  unfold useU
  rw [← List.take_append_getElem h, List.foldl_append]
  rfl
section
variable {X : Cx} {st : St}
set_option maxHeartbeats 1000000 in
theorem w_r19_counts (h : On X) (m : MachV) {lo hi : Nat} {v : AV} {l : List OpV} (hok : okM m = true) (hw0 : wrongM m l = 0) (hv : OpsAt st lo hi v l) :
    wpF X 33 [.agg m.row, v] st fun r s => ∃ L, r = .ret (.tup [.agg (acells (useU m l).A), .sl (st.length + 3) 0 m.banks.toNat 1 true]) ∧ s = st ++ L ∧ ∃ v, L[3]? = some ⟨rcells m.banks.toNat (useU m l).R, 0, v⟩ := by
  refine wpF_go (fn := v_r19_counts) (by rw [h.F]; rfl) ?_
  have l1 := hv.len
  simp only [List.length_map] at l1
  have hb := okM_bnd hok
  obtain ⟨_, hl400, hall⟩ := useErr_ok (m := m) (l := l) (by unfold useErr; rw [hok, hw0]; rfl)
  obtain ⟨k, hk⟩ : ∃ k : Nat, m.banks = (k : Int) := ⟨m.banks.toNat, by omega⟩
  have hk0 : (0 : Int) ≤ (k : Int) := by omega
  have hkn : m.banks.toNat = k := by omega
  have hk8 : k ≤ 8 := by omega
  have hk1 : 1 ≤ k := by omega
  have hk9 : k * 8 ≤ 1000000000 ∧ k ≤ 1000000000 := by omega
  have hrow9 : m.row[9]? = some (iA m.banks) := rfl
  rw [hkn]
  simp only [v_r19_counts, l1, hrow9, hk, hk0, hk9, Nat.le_refl, and_self, if_true, beq_self_eq_true, rcells_zero, kB, kZ, kD, fillA, partsEv, zeroes, Nat.reduceSub, Int.reduceToNat, Nat.reduceMul, asInt?, asNat?, Int.reduceAdd, Int.reduceLE, Int.reduceLT, Int.reduceNeg, Nat.reduceLeDiff, VOpd.ev, Nat.reduceEqDiff, Nat.reduceAdd, reduceIte, reduceCtorEq, resOf, tupOf, cellsV, AV.toV, AV.cell?, cellVal]
  refine loop_inv (fun n e s' => ∃ (i v1 v2 : Nat) (L : St), i + n = l.length ∧ s' = st ++ (⟨m.row, 0, 0⟩ :: ⟨acells fun _ => 0, 0, 0⟩ :: ⟨acells (useU m (l.take i)).A, 0, v1⟩ :: ⟨rcells k (useU m (l.take i)).R, 0, v2⟩ :: L) ∧ e 1 = v ∧ e 2 = .ptr (st.length + 0) 0 ∧ e 4 = .ptr (st.length + 1) 0 ∧ e 6 = .ptr (st.length + 2) 0 ∧ e 7 = .sl (st.length + 3) 0 k 1 true ∧ e 8 = iA i) ?_ l.length ?_
  case refine_2 =>
    exact ⟨0, 0, 0, [], by omega, rfl, rfl, rfl, rfl, rfl, rfl, rfl⟩
  intro n e s' ⟨i, v1, v2, L, him, hs', k1, k2, k4, k6, k7, k8⟩
  subst hs'
  simp only [k1, k2, k4, k6, k7, k8, l1, kB, kZ, kD, fillA, partsEv, zeroes, Nat.reduceSub, Int.reduceToNat, Nat.reduceMul, asInt?, asNat?, Int.reduceAdd, Int.reduceLE, Int.reduceLT, Int.reduceNeg, Nat.reduceLeDiff, VOpd.ev, Nat.reduceEqDiff, Nat.reduceAdd, reduceIte, reduceCtorEq, resOf, tupOf, cellsV, AV.toV, AV.cell?, cellVal]
  refine condO_intro ?_ ?_ <;> intro hcc
  · have hil : i < l.length := by have := of_decide_eq_true hcc; omega
    have hopi : okOp m l[i] = true := List.all_eq_true.1 hall _ (List.getElem_mem hil)
    have hkc : hasCls l[i].k = true := by unfold okOp at hopi; simp only [Bool.and_eq_true] at hopi; exact hopi.1
    have hregs : ∀ r ∈ rdsR l[i], 0 ≤ r := fun r hr => by
      unfold okOp at hopi; simp only [Bool.and_eq_true] at hopi
      have := List.all_eq_true.1 hopi.2 r hr
      unfold regM at this; simp at this; omega
    obtain ⟨c, hc4, hcl, _⟩ := lsAt m l[i].k hkc
    have hct : (clsM l[i].k).toNat = c := by rw [hcl]; simp
    have hc5 : (0 : Int) ≤ (c : Int) ∧ (c : Int) < 4 := by omega
    have hub := useU_bnds (m := m) (l := l.take i) (by simp; omega)
    obtain ⟨b1, o1, he1, hn1, ha1, _⟩ := hv.get i (by simpa using hil)
    have ha0 := fun L => ha1 L 0 (by omega)
    simp only [List.getElem_map, OpV.row, List.getElem?_cons_zero] at hn1 ha0
    obtain ⟨U, hU⟩ : ∃ U, useU m (l.take i) = U := ⟨_, rfl⟩
    have hnext : useU m (l.take (i + 1)) = withU U l[i] := by rw [useU_take hil, hU]
    have hUm : U.m = m := by rw [← hU]; exact useU_m m _ _ rfl
    rw [hU] at hub ⊢
    have hwA : IntKind.wrap .i64 (U.A c + 1) = U.A c + 1 := by have := hub.1 c; exact wrap_small (by omega) (by omega)
    have hle : c + 1 ≤ (acells U.A).length := by rw [acells_len]; omega
    simp only [k1, k2, k4, k6, k7, k8, he1, hn1, ha0, kB, kZ, kD, fillA, partsEv, zeroes, Nat.reduceSub, Int.reduceToNat, Nat.reduceMul, asInt?, asNat?, Int.reduceAdd, Int.reduceLE, Int.reduceLT, Int.reduceNeg, Nat.reduceLeDiff, VOpd.ev, Nat.reduceEqDiff, Nat.reduceAdd, reduceIte, reduceCtorEq, resOf, tupOf, cellsV, AV.toV, AV.cell?, cellVal]
    refine callO_same (j_r19_Class h l[i].k) ?_
    rw [hcl]
    simp only [k1, k2, k4, k6, k7, k8, he1, hn1, ha0, if_pos hc5, acells_get U.A c hc4, hle, hwA, acells_splice U.A c hc4, kB, kZ, kD, fillA, partsEv, zeroes, Nat.reduceSub, Int.reduceToNat, Nat.reduceMul, asInt?, asNat?, Int.reduceAdd, Int.reduceLE, Int.reduceLT, Int.reduceNeg, Nat.reduceLeDiff, VOpd.ev, Nat.reduceEqDiff, Nat.reduceAdd, reduceIte, reduceCtorEq, resOf, tupOf, cellsV, AV.toV, AV.cell?, cellVal]
    refine callO_own (w_r19_Reads h l[i]) ?_
    intro w m1 hw
    have lw := hw.arr.len
    simp only [List.length_map] at lw
    have hll := rdsR_len l[i]
    have hwb : ∀ b, boxOf w = some b → st.length + 4 ≤ b := fun b hb => by have := (hw.bnd b hb).1; simp at this; omega
    obtain ⟨A1, hA1⟩ : ∃ A1, incr U.A c = A1 := ⟨_, rfl⟩
    have hw2 : ∀ (R : Nat → Int) (v : Nat), ArrAt (st ++ (⟨m.row, 0, 0⟩ :: ⟨acells fun _ => 0, 0, 0⟩ :: ⟨acells A1, 0, v1 + 1⟩ :: ⟨rcells k R, 0, v⟩ :: (L ++ m1))) _ _ w 1 (rowsI (rdsR l[i])) := fun R v => by
      have h0 := hw.arr
      rw [hA1] at h0
      simp only [List.append_assoc, List.cons_append] at h0
      exact h0.agree (Agree.swap st [⟨m.row, 0, 0⟩, ⟨acells fun _ => 0, 0, 0⟩, ⟨acells A1, 0, v1 + 1⟩] ⟨rcells k U.R, 0, v2⟩ ⟨rcells k R, 0, v⟩ (L ++ m1)) (fun b hb h1 => by have := hwb b hb; simp at h1; omega)
    rw [hA1]
    have hbk : 1 ≤ m.banks ∧ m.banks ≤ 8 := by omega
    simp only [k1, k2, k4, k6, k7, k8, List.append_assoc, List.cons_append, List.nil_append, kB, kZ, kD, fillA, partsEv, zeroes, Nat.reduceSub, Int.reduceToNat, Nat.reduceMul, asInt?, asNat?, Int.reduceAdd, Int.reduceLE, Int.reduceLT, Int.reduceNeg, Nat.reduceLeDiff, VOpd.ev, Nat.reduceEqDiff, Nat.reduceAdd, reduceIte, reduceCtorEq, resOf, tupOf, cellsV, AV.toV, AV.cell?, cellVal]
    have hnA : (withU U l[i]).A = A1 := by unfold withU; rw [hct]; exact hA1
    have hnR : (withU U l[i]).R = (rdsR l[i]).foldl (fun R r => incr R (bankI m.banks r)) U.R := by unfold withU; rw [hUm]
    generalize rdsR l[i] = rl at *
    refine anyLoop (mB (mB m0)) (fun e s' => ∃ v3, s' = st ++ (⟨m.row, 0, 0⟩ :: ⟨acells fun _ => 0, 0, 0⟩ :: ⟨acells A1, 0, v1 + 1⟩ :: ⟨rcells k (rl.foldl (fun R r => incr R (bankI m.banks r)) U.R), 0, v3⟩ :: (L ++ m1)) ∧ e 1 = v ∧ e 2 = .ptr (st.length + 0) 0 ∧ e 4 = .ptr (st.length + 1) 0 ∧ e 6 = .ptr (st.length + 2) 0 ∧ e 7 = .sl (st.length + 3) 0 k 1 true ∧ e 8 = iA i) ?_ ?_
    · refine loop_inv (fun n e s' => ∃ (q v3 : Nat) (R : Nat → Int), q + n = rl.length ∧ s' = st ++ (⟨m.row, 0, 0⟩ :: ⟨acells fun _ => 0, 0, 0⟩ :: ⟨acells A1, 0, v1 + 1⟩ :: ⟨rcells k R, 0, v3⟩ :: (L ++ m1)) ∧ e 1 = v ∧ e 2 = .ptr (st.length + 0) 0 ∧ e 4 = .ptr (st.length + 1) 0 ∧ e 6 = .ptr (st.length + 2) 0 ∧ e 7 = .sl (st.length + 3) 0 k 1 true ∧ e 8 = iA i ∧ e 11 = w ∧ e 12 = iA q ∧
        R = (rl.take q).foldl (fun R r => incr R (bankI m.banks r)) U.R ∧ ∀ j, 0 ≤ R j ∧ R j ≤ 1000000 + q) ?_ rl.length ?_
      case refine_2 =>
        refine ⟨0, v2, U.R, by omega, by simp, ?_, ?_, ?_, ?_, ?_, ?_, ?_, ?_, rfl, fun j => by have := hub.2 j; omega⟩
        all_goals simp only [k1, k2, k4, k6, k7, k8, kB, kZ, kD, fillA, partsEv, zeroes, Nat.reduceSub, Int.reduceToNat, Nat.reduceMul, asInt?, asNat?, Int.reduceAdd, Int.reduceLE, Int.reduceLT, Int.reduceNeg, Nat.reduceLeDiff, VOpd.ev, Nat.reduceEqDiff, Nat.reduceAdd, reduceIte, reduceCtorEq, resOf, tupOf, cellsV, AV.toV, AV.cell?, cellVal]
        all_goals rfl
      intro n2 e2 s2 ⟨q, v3, R, hqn, hs2, q1, q2, q4, q6, q7, q8, q11, q12, hR, hRb⟩
      subst hs2
      simp only [q1, q2, q4, q6, q7, q8, q11, q12, lw, kB, kZ, kD, fillA, partsEv, zeroes, Nat.reduceSub, Int.reduceToNat, Nat.reduceMul, asInt?, asNat?, Int.reduceAdd, Int.reduceLE, Int.reduceLT, Int.reduceNeg, Nat.reduceLeDiff, VOpd.ev, Nat.reduceEqDiff, Nat.reduceAdd, reduceIte, reduceCtorEq, resOf, tupOf, cellsV, AV.toV, AV.cell?, cellVal]
      refine condO_intro ?_ ?_ <;> intro hc2
      · have hql : q < rl.length := by have := of_decide_eq_true hc2; omega
        obtain ⟨b2, o2, he2, _, ha2, _⟩ := (hw2 R v3).get q (by simpa using hql)
        have p2 := ha2 [] 0 (by omega)
        simp only [List.append_nil, List.getElem_map, Nat.add_zero, List.getElem?_cons_zero] at p2
        have hwr : IntKind.wrap .i64 ((q : Int) + 1) = ((q + 1 : Nat) : Int) := by rw [wrap_small (by omega) (by omega)]; omega
        obtain ⟨hj8, hjm⟩ := bankI_lt hbk (hregs rl[q] (List.getElem_mem hql))
        obtain ⟨j, hj⟩ : ∃ j, bankI m.banks rl[q] = j := ⟨_, rfl⟩
        rw [hj] at hj8 hjm
        have hjk : j < k := by
          rw [Int.tmod_eq_emod_of_nonneg (hregs rl[q] (List.getElem_mem hql))] at hjm
          have := Int.emod_lt_of_pos rl[q] (show 0 < m.banks by omega)
          omega
        have hj5 : (0 : Int) ≤ (j : Int) ∧ (j : Int) < (k : Int) := by omega
        have hle2 : j + 1 ≤ (rcells k R).length := by rw [rcells_len]; omega
        have hwR : IntKind.wrap .i64 (R j + 1) = R j + 1 := by have := hRb j; exact wrap_small (by omega) (by omega)
        simp only [q1, q2, q4, q6, q7, q8, q11, q12, he2, p2, hrow9, c_rem _ _ _ m.banks (show m.banks ≠ 0 by omega), hjm, if_pos hj5, rcells_get hjk, hle2, hwR, rcells_splice hjk, hwr, kB, kZ, kD, fillA, partsEv, zeroes, Nat.reduceSub, Int.reduceToNat, Nat.reduceMul, asInt?, asNat?, Int.reduceAdd, Int.reduceLE, Int.reduceLT, Int.reduceNeg, Nat.reduceLeDiff, VOpd.ev, Nat.reduceEqDiff, Nat.reduceAdd, reduceIte, reduceCtorEq, resOf, tupOf, cellsV, AV.toV, AV.cell?, cellVal]
        refine ⟨n2 - 1, by omega, q + 1, v3 + 1, incr R j, by omega, rfl, rfl, ?_, fun j2 => by have := incr_bnd hRb j j2; omega⟩
        rw [hR, ← List.take_append_getElem hql, List.foldl_append]
        simp only [List.foldl_cons, List.foldl_nil, hj]
      · have hq : q = rl.length := by have := of_decide_eq_false hc2; omega
        subst hq
        rw [List.take_length] at hR
        simp only [q1, q2, q4, q6, q7, q8, q11, q12, lw, kB, kZ, kD, fillA, partsEv, zeroes, Nat.reduceSub, Int.reduceToNat, Nat.reduceMul, asInt?, asNat?, Int.reduceAdd, Int.reduceLE, Int.reduceLT, Int.reduceNeg, Nat.reduceLeDiff, VOpd.ev, Nat.reduceEqDiff, Nat.reduceAdd, reduceIte, reduceCtorEq, resOf, tupOf, cellsV, AV.toV, AV.cell?, cellVal]
        exact ⟨v3, by rw [hR]⟩
    intro e2 s2 ⟨v3, hs2, q1, q2, q4, q6, q7, q8⟩
    subst hs2
    have hwr : IntKind.wrap .i64 ((i : Int) + 1) = ((i + 1 : Nat) : Int) := by rw [wrap_small (by omega) (by omega)]; omega
    simp only [q1, q2, q4, q6, q7, q8, hwr, kB, kZ, kD, fillA, partsEv, zeroes, Nat.reduceSub, Int.reduceToNat, Nat.reduceMul, asInt?, asNat?, Int.reduceAdd, Int.reduceLE, Int.reduceLT, Int.reduceNeg, Nat.reduceLeDiff, VOpd.ev, Nat.reduceEqDiff, Nat.reduceAdd, reduceIte, reduceCtorEq, resOf, tupOf, cellsV, AV.toV, AV.cell?, cellVal]
    exact ⟨n - 1, by omega, i + 1, v1 + 1, v3, L ++ m1, by omega, by rw [hnext, hnA, hnR], rfl⟩
  · have hi : i = l.length := by have := of_decide_eq_false hcc; omega
    subst hi
    rw [List.take_length]
    simp only [k1, k2, k4, k6, k7, k8, acells, kB, kZ, kD, fillA, partsEv, zeroes, Nat.reduceSub, Int.reduceToNat, Nat.reduceMul, asInt?, asNat?, Int.reduceAdd, Int.reduceLE, Int.reduceLT, Int.reduceNeg, Nat.reduceLeDiff, VOpd.ev, Nat.reduceEqDiff, Nat.reduceAdd, reduceIte, reduceCtorEq, splice, resOf, tupOf, cellsV, AV.toV, AV.cell?, cellVal]
    exact ⟨_, rfl, v2, rfl⟩
end
end Go.VX.Seat
end
section
set_option linter.unusedVariables false
set_option linter.unusedSimpArgs false
set_option maxRecDepth 4000
/-! Layer 19: the reference's Home and Together; the plain law of MachineTogether. -/
namespace Go.VX.Seat
open Go.Proofs
theorem up_mono {a a' b : Int} (ha : 0 ≤ a) (h : a ≤ a') (hb : 1 ≤ b) : upI a b ≤ upI a' b := by
  refine up_le ha hb ?_
  have := le_up (show 0 ≤ a' by omega) hb
  omega
theorem up_max {a a' b : Int} (ha : 0 ≤ a) (ha' : 0 ≤ a') (hb : 1 ≤ b) : upI (max a a') b = max (upI a b) (upI a' b) := by
  rcases Int.le_total a a' with h | h
  · have := up_mono ha h hb
    rw [Int.max_eq_right h, Int.max_eq_right this]
  · have := up_mono ha' h hb
    rw [Int.max_eq_left h, Int.max_eq_left this]
theorem up_le_one_iff {a b : Int} (ha : 0 ≤ a) (hb : 1 ≤ b) : upI a b ≤ 1 ↔ a ≤ b := by
  constructor
  · intro h
    have h1 := le_up ha hb
    have h2 : upI a b * b ≤ 1 * b := Int.mul_le_mul_of_nonneg_right h (by omega)
    omega
  · intro h
    exact up_le ha hb (by omega)
theorem fits_home {u : UseV} (hok : okM u.m = true) (hA : ∀ j, 0 ≤ u.A j) (hR : ∀ j, 0 ≤ u.R j ∧ u.R j ≤ 1000000) : fitsU u = decide (homeU u ≤ 1) := by
  have hb := okM_bnd hok
  have hm := maxL_rs hR
  have h0 := up_le_one_iff (hA 0) (show 1 ≤ u.m.u0 by omega)
  have h1 := up_le_one_iff (hA 1) (show 1 ≤ u.m.u1 by omega)
  have h2 := up_le_one_iff (hA 2) (show 1 ≤ u.m.u2 by omega)
  have h3 := up_le_one_iff (hA 3) (show 1 ≤ u.m.u3 by omega)
  have h4 := up_le_one_iff hm.1 (show 1 ≤ u.m.ports by omega)
  unfold fitsU homeU
  rw [Bool.eq_iff_iff]
  simp only [Bool.and_eq_true, decide_eq_true_eq]
  omega
theorem foldl_incr_hi {b : Int} (hb : 1 ≤ b) {j : Nat} (hj : b ≤ (j : Int)) : ∀ (rl : List Int) (R : Nat → Int), (∀ r ∈ rl, 0 ≤ r) → (rl.foldl (fun R r => incr R (bankI b r)) R) j = R j
  | [], R, _ => rfl
  | r :: rl, R, h => by
    rw [List.foldl_cons, foldl_incr_hi hb hj rl _ fun x hx => h x (List.mem_cons_of_mem _ hx)]
    have hr := h r List.mem_cons_self
    unfold incr bankI
    rw [Int.tmod_eq_emod_of_nonneg hr]
    have h1 := Int.emod_nonneg r (show b ≠ 0 by omega)
    have h2 := Int.emod_lt_of_pos r (show 0 < b by omega)
    rw [if_neg (by omega)]
theorem useU_hi {m : MachV} (hb : 1 ≤ m.banks) {j : Nat} (hj : m.banks ≤ (j : Int)) : ∀ (l : List OpV) (u : UseV), u.m = m → l.all (okOp m) = true → u.R j = 0 → (l.foldl withU u).R j = 0
  | [], u, _, _, h => h
  | o :: l, u, hm, ha, h => by
    rw [List.foldl_cons]
    simp only [List.all_cons, Bool.and_eq_true] at ha
    refine useU_hi hb hj l _ hm ha.2 ?_
    show ((rdsR o).foldl (fun R r => incr R (bankI u.m.banks r)) u.R) j = 0
    rw [hm, foldl_incr_hi hb hj _ _ fun r hr => ?_, h]
    have h1 := ha.1
    unfold okOp at h1
    simp only [Bool.and_eq_true] at h1
    have := List.all_eq_true.1 h1.2 r hr
    unfold regM at this
    simp at this
    omega
def homeA (u : UseV) : Int := max (max (max (max 0 (upI (u.A 0) u.m.u0)) (upI (u.A 1) u.m.u1)) (upI (u.A 2) u.m.u2)) (upI (u.A 3) u.m.u3)
def homeF (u : UseV) (n : Nat) : Int := (List.range n).foldl (fun a j => max a (upI (u.R j) u.m.ports)) (homeA u)
theorem homeF_succ (u : UseV) (n : Nat) : homeF u (n + 1) = max (homeF u n) (upI (u.R n) u.m.ports) := by
  unfold homeF
  rw [List.range_succ, List.foldl_append]
  rfl
theorem homeF_nn {u : UseV} (hp : 1 ≤ u.m.ports) (hR : ∀ j, 0 ≤ u.R j) : ∀ n, 0 ≤ homeF u n
  | 0 => by show 0 ≤ homeA u; unfold homeA; omega
  | n + 1 => by
    rw [homeF_succ]
    have := homeF_nn hp hR n
    omega
theorem homeF_hi {u : UseV} {k : Nat} (hp : 1 ≤ u.m.ports) (hR : ∀ j, 0 ≤ u.R j) (hi : ∀ j, k ≤ j → u.R j = 0) : ∀ d, homeF u (k + d) = homeF u k
  | 0 => rfl
  | d + 1 => by
    have := homeF_nn hp hR (k + d)
    rw [← Nat.add_assoc, homeF_succ, hi _ (by omega), up_zero hp, Int.max_eq_left this, homeF_hi hp hR hi d]
theorem home_eq {u : UseV} {k : Nat} (hp : 1 ≤ u.m.ports) (hR : ∀ j, 0 ≤ u.R j) (hk : 1 ≤ k ∧ k ≤ 8) (hi : ∀ j, k ≤ j → u.R j = 0) : homeF u k = homeU u := by
  rw [← homeF_hi hp hR hi (8 - k), show k + (8 - k) = 8 by omega]
  have hu : homeU u = max (homeA u) (upI (maxL u.rs) u.m.ports) := rfl
  have h : maxL u.rs = max (max (max (max (max (max (max (u.R 0) (u.R 1)) (u.R 2)) (u.R 3)) (u.R 4)) (u.R 5)) (u.R 6)) (u.R 7) := rfl
  have r0 := hR 0
  have r1 := hR 1
  have r2 := hR 2
  have r3 := hR 3
  have r4 := hR 4
  have r5 := hR 5
  have r6 := hR 6
  rw [hu, h, up_max (by omega) (hR 7) hp, up_max (by omega) (hR 6) hp, up_max (by omega) (hR 5) hp, up_max (by omega) (hR 4) hp, up_max (by omega) (hR 3) hp, up_max (by omega) (hR 2) hp, up_max (hR 0) (hR 1) hp]
  iterate 8 rw [homeF_succ]
  simp only [Int.max_assoc]
  rfl
theorem callO_app {X : Cx} {env : Env} {st : St} {Q : Post3} {K : Env → St → Post3 → Prop} {f : FuncId} {args : List AV} {dst : Option Nat} {keep : List VOpd} {w : AV} {R : St → Prop} (hw : wpF X f args st fun r s => ∃ L, r = .ret w ∧ s = st ++ L ∧ R L)
    (h : ∀ L, R L → K (env.put dst w) (st ++ L) Q) : callO X f args dst keep K env st Q := by
  refine wpF.mono hw ?_
  rintro r s ⟨L, rfl, rfl, h1⟩
  exact ⟨kept_app _ _ _ _, h L h1⟩
section
variable {X : Cx} {st : St}
set_option maxHeartbeats 1000000 in
theorem j_r19_Home (h : On X) (m : MachV) {lo hi : Nat} {v : AV} {l : List OpV} (hok : okM m = true) (hw0 : wrongM m l = 0) (hv : OpsAt st lo hi v l) :
    J X.P X.F X.H (.call 16 [.agg m.row, v] st (.ret (iA (homeU (useU m l)))) st) := by
  refine pure_intro (by rw [h.F]; rfl) rfl ?_
  have l1 := hv.len
  simp only [List.length_map] at l1
  have hb := okM_bnd hok
  obtain ⟨_, hl400, hall⟩ := useErr_ok (m := m) (l := l) (by unfold useErr; rw [hok, hw0]; rfl)
  have hub := useU_bnds (m := m) (l := l) hl400
  obtain ⟨k, hk⟩ : ∃ k : Nat, m.banks = (k : Int) := ⟨m.banks.toNat, by omega⟩
  have hkn : m.banks.toNat = k := by omega
  have hum : (useU m l).m = m := useU_m m l _ rfl
  have hhome := home_eq (u := useU m l) (k := k) (by rw [hum]; omega) (fun j => (hub.2 j).1) (by omega) (fun j hj => useU_hi (m := m) (by omega) (by omega) l (zeroUse m) rfl hall rfl)
  have hcnt := fun hv' => w_r19_counts (st := st ++ [⟨m.row, 0, 0⟩]) h m hok hw0 (lo := lo) (hi := hi) (v := v) hv'
  rw [hkn] at hcnt
  obtain ⟨U, hU⟩ : ∃ U, useU m l = U := ⟨_, rfl⟩
  rw [hU] at hub hum hhome hcnt ⊢
  subst hum
  have w1 : IntKind.wrap .i64 (0 + 1) = 1 := rfl
  have w2 : IntKind.wrap .i64 (1 + 1) = 2 := rfl
  have w3 : IntKind.wrap .i64 (2 + 1) = 3 := rfl
  have w4 : IntKind.wrap .i64 (3 + 1) = 4 := rfl
  have q : ∀ a b : Int, 0 ≤ a ∧ a ≤ 1000000 → 1 ≤ b ∧ b ≤ 32 → IntKind.wrap .i64 (a + b) = a + b ∧ IntKind.wrap .i64 (a + b - 1) = a + b - 1 ∧ IntKind.wrap .i64 (Int.tdiv (a + b - 1) b) = upI a b := fun a b ha hb => by
    have h1 := up_bnd ha.1 hb.1
    have h2 := wrap_small (n := upI a b) (by omega) (by omega)
    exact ⟨wrap_small (by omega) (by omega), wrap_small (by omega) (by omega), h2⟩
  obtain ⟨a0, b0, c0⟩ := q _ U.m.u0 (hub.1 0) (by omega)
  obtain ⟨a1, b1, c1⟩ := q _ U.m.u1 (hub.1 1) (by omega)
  obtain ⟨a2, b2, c2⟩ := q _ U.m.u2 (hub.1 2) (by omega)
  obtain ⟨a3, b3, c3⟩ := q _ U.m.u3 (hub.1 3) (by omega)
  simp only [v_r19_Home, l1, MachV.row, kB, kZ, kD, fillA, partsEv, zeroes, Nat.reduceSub, Int.reduceToNat, Nat.reduceMul, asInt?, asNat?, Int.reduceAdd, Int.reduceLE, Int.reduceLT, Int.reduceNeg, Nat.reduceLeDiff, VOpd.ev, Nat.reduceEqDiff, Nat.reduceAdd, reduceIte, reduceCtorEq, splice, resOf, tupOf, cellsV, AV.toV, AV.cell?, cellVal]
  refine callO_app (hcnt (hv.mono _)) ?_
  intro L ⟨ver, hL⟩
  have hL3 : 3 < L.length := (List.getElem?_eq_some_iff.1 hL).1
  have hbox : ∀ (b : Box) (T : St), (st ++ (b :: (L ++ T)))[st.length + 4]? = some ⟨rcells k U.R, 0, ver⟩ := fun b T => by
    rw [List.getElem?_append_right (by omega), show st.length + 4 - st.length = 3 + 1 by omega, List.getElem?_cons_succ, List.getElem?_append_left hL3]
    exact hL
  have hIs : ∀ (b : Box) (T : St), IntsAt (st ++ (b :: (L ++ T))) (st.length + 4) (st.length + 4 + 1) (.sl (st.length + 4) 0 k 1 true) ((List.range k).map U.R) := fun b T =>
    arr_part (hbox b T) (by decide) (by simp) (fun i hi => by rw [Nat.zero_add]; simp at hi; rw [rcells_get hi]; simp) (by rw [rcells_len]; simp)
  clear hbox hL hcnt
  simp only [acells, MachV.row, List.append_assoc, List.cons_append, List.nil_append, kB, kZ, kD, fillA, partsEv, zeroes, Nat.reduceSub, Int.reduceToNat, Nat.reduceMul, asInt?, asNat?, Int.reduceAdd, Int.reduceLE, Int.reduceLT, Int.reduceNeg, Nat.reduceLeDiff, VOpd.ev, Nat.reduceEqDiff, Nat.reduceAdd, reduceIte, reduceCtorEq, splice, resOf, tupOf, cellsV, AV.toV, AV.cell?, cellVal]
  refine loop_unroll ?_
  simp only [w1, w2, w3, w4, a0, a1, a2, a3, b0, b1, b2, b3, c0, c1, c2, c3, c_quo _ _ _ U.m.u0 (show U.m.u0 ≠ 0 by omega), kB, kZ, kD, fillA, partsEv, zeroes, Nat.reduceSub, Int.reduceToNat, Nat.reduceMul, asInt?, asNat?, Int.reduceAdd, Int.reduceLE, Int.reduceLT, Int.reduceNeg, Nat.reduceLeDiff, VOpd.ev, Nat.reduceEqDiff, Nat.reduceAdd, reduceIte, reduceCtorEq, splice, resOf, tupOf, cellsV, AV.toV, AV.cell?, cellVal]
  refine loop_unroll ?_
  simp only [w1, w2, w3, w4, a0, a1, a2, a3, b0, b1, b2, b3, c0, c1, c2, c3, c_quo _ _ _ U.m.u1 (show U.m.u1 ≠ 0 by omega), kB, kZ, kD, fillA, partsEv, zeroes, Nat.reduceSub, Int.reduceToNat, Nat.reduceMul, asInt?, asNat?, Int.reduceAdd, Int.reduceLE, Int.reduceLT, Int.reduceNeg, Nat.reduceLeDiff, VOpd.ev, Nat.reduceEqDiff, Nat.reduceAdd, reduceIte, reduceCtorEq, splice, resOf, tupOf, cellsV, AV.toV, AV.cell?, cellVal]
  refine loop_unroll ?_
  simp only [w1, w2, w3, w4, a0, a1, a2, a3, b0, b1, b2, b3, c0, c1, c2, c3, c_quo _ _ _ U.m.u2 (show U.m.u2 ≠ 0 by omega), kB, kZ, kD, fillA, partsEv, zeroes, Nat.reduceSub, Int.reduceToNat, Nat.reduceMul, asInt?, asNat?, Int.reduceAdd, Int.reduceLE, Int.reduceLT, Int.reduceNeg, Nat.reduceLeDiff, VOpd.ev, Nat.reduceEqDiff, Nat.reduceAdd, reduceIte, reduceCtorEq, splice, resOf, tupOf, cellsV, AV.toV, AV.cell?, cellVal]
  refine loop_unroll ?_
  simp only [w1, w2, w3, w4, a0, a1, a2, a3, b0, b1, b2, b3, c0, c1, c2, c3, c_quo _ _ _ U.m.u3 (show U.m.u3 ≠ 0 by omega), kB, kZ, kD, fillA, partsEv, zeroes, Nat.reduceSub, Int.reduceToNat, Nat.reduceMul, asInt?, asNat?, Int.reduceAdd, Int.reduceLE, Int.reduceLT, Int.reduceNeg, Nat.reduceLeDiff, VOpd.ev, Nat.reduceEqDiff, Nat.reduceAdd, reduceIte, reduceCtorEq, splice, resOf, tupOf, cellsV, AV.toV, AV.cell?, cellVal]
  refine loop_unroll ?_
  simp only [w1, w2, w3, w4, a0, a1, a2, a3, b0, b1, b2, b3, c0, c1, c2, c3, kB, kZ, kD, fillA, partsEv, zeroes, Nat.reduceSub, Int.reduceToNat, Nat.reduceMul, asInt?, asNat?, Int.reduceAdd, Int.reduceLE, Int.reduceLT, Int.reduceNeg, Nat.reduceLeDiff, VOpd.ev, Nat.reduceEqDiff, Nat.reduceAdd, reduceIte, reduceCtorEq, splice, resOf, tupOf, cellsV, AV.toV, AV.cell?, cellVal]
  refine loop_live [2, 6] (fun mm e => ∃ i : Nat, i + mm = k ∧ e 9 = iA i ∧ e 7 = iA (homeF U i)) k ?_ ?_
  · exact ⟨0, by omega, by simp only [kB, kZ, kD, fillA, partsEv, zeroes, Nat.reduceSub, Int.reduceToNat, Nat.reduceMul, asInt?, asNat?, Int.reduceAdd, Int.reduceLE, Int.reduceLT, Int.reduceNeg, Nat.reduceLeDiff, VOpd.ev, Nat.reduceEqDiff, Nat.reduceAdd, reduceIte, reduceCtorEq, splice, resOf, tupOf, cellsV, AV.toV, AV.cell?, cellVal], by simp only [kB, kZ, kD, fillA, partsEv, zeroes, Nat.reduceSub, Int.reduceToNat, Nat.reduceMul, asInt?, asNat?, Int.reduceAdd, Int.reduceLE, Int.reduceLT, Int.reduceNeg, Nat.reduceLeDiff, VOpd.ev, Nat.reduceEqDiff, Nat.reduceAdd, reduceIte, reduceCtorEq, splice, resOf, tupOf, cellsV, AV.toV, AV.cell?, cellVal]; rfl⟩
  · intro mm e hLv ⟨i, him, q9, q7⟩
    simp only [kB, kZ, kD, fillA, partsEv, zeroes, Nat.reduceSub, Int.reduceToNat, Nat.reduceMul, asInt?, asNat?, Int.reduceAdd, Int.reduceLE, Int.reduceLT, Int.reduceNeg, Nat.reduceLeDiff, VOpd.ev, Nat.reduceEqDiff, Nat.reduceAdd, reduceIte, reduceCtorEq, splice, resOf, tupOf, cellsV, AV.toV, AV.cell?, cellVal] at hLv
    obtain ⟨q2, q6⟩ := hLv
    have q6' : e 6 = .sl (st.length + 4) 0 k 1 true := q6
    simp only [q2, q6', q7, q9, kB, kZ, kD, fillA, partsEv, zeroes, Nat.reduceSub, Int.reduceToNat, Nat.reduceMul, asInt?, asNat?, Int.reduceAdd, Int.reduceLE, Int.reduceLT, Int.reduceNeg, Nat.reduceLeDiff, VOpd.ev, Nat.reduceEqDiff, Nat.reduceAdd, reduceIte, reduceCtorEq, splice, resOf, tupOf, cellsV, AV.toV, AV.cell?, cellVal]
    refine condO_intro ?_ ?_ <;> intro hc
    · have hik : i < k := by have := of_decide_eq_true hc; omega
      obtain ⟨b1, o1, he1, _, ha1, _⟩ := (hIs ⟨[iA U.m.u0, iA U.m.u1, iA U.m.u2, iA U.m.u3, iA U.m.l0, iA U.m.l1, iA U.m.l2, iA U.m.l3, iA U.m.regs, iA U.m.banks, iA U.m.ports], 0, 0⟩ [⟨[iA (U.A 0), iA (U.A 1), iA (U.A 2), iA (U.A 3)], 0, 1⟩]).get i (by simpa using hik)
      have p1 := ha1 [] 0 (by omega)
      simp only [List.append_nil, List.getElem_map, Nat.add_zero, List.getElem?_cons_zero, List.getElem_range] at p1
      obtain ⟨aa, bb, cc⟩ := q _ U.m.ports (hub.2 i) (by omega)
      have hwr : IntKind.wrap .i64 ((i : Int) + 1) = ((i + 1 : Nat) : Int) := by rw [wrap_small (by omega) (by omega)]; omega
      simp only [q2, q6', q7, q9, he1, p1, aa, bb, cc, hwr, c_quo _ _ _ U.m.ports (show U.m.ports ≠ 0 by omega), kB, kZ, kD, fillA, partsEv, zeroes, Nat.reduceSub, Int.reduceToNat, Nat.reduceMul, asInt?, asNat?, Int.reduceAdd, Int.reduceLE, Int.reduceLT, Int.reduceNeg, Nat.reduceLeDiff, VOpd.ev, Nat.reduceEqDiff, Nat.reduceAdd, reduceIte, reduceCtorEq, splice, resOf, tupOf, cellsV, AV.toV, AV.cell?, cellVal]
      exact ⟨mm - 1, by omega, i + 1, by omega, rfl, by rw [homeF_succ]⟩
    · have hi : i = k := by have := of_decide_eq_false hc; omega
      subst hi
      rw [hhome] at q7
      simp only [q2, q6', q7, q9, kB, kZ, kD, fillA, partsEv, zeroes, Nat.reduceSub, Int.reduceToNat, Nat.reduceMul, asInt?, asNat?, Int.reduceAdd, Int.reduceLE, Int.reduceLT, Int.reduceNeg, Nat.reduceLeDiff, VOpd.ev, Nat.reduceEqDiff, Nat.reduceAdd, reduceIte, reduceCtorEq, splice, resOf, tupOf, cellsV, AV.toV, AV.cell?, cellVal]
      first | exact ⟨_, rfl⟩ | exact ⟨rfl, _, rfl⟩ | exact ⟨trivial, _, rfl⟩ | exact ⟨[], (List.append_nil _).symm⟩
theorem j_r19_Together (h : On X) (m : MachV) {lo hi : Nat} {v : AV} {l : List OpV} (hok : okM m = true) (hw0 : wrongM m l = 0) (hv : OpsAt st lo hi v l) :
    J X.P X.F X.H (.call 15 [.agg m.row, v] st (.ret (bA (fitsU (useU m l)))) st) := by
  refine pure_intro (by rw [h.F]; rfl) rfl ?_
  obtain ⟨_, hl400, hall⟩ := useErr_ok (m := m) (l := l) (by unfold useErr; rw [hok, hw0]; rfl)
  have hub := useU_bnds (m := m) (l := l) hl400
  have hum : (useU m l).m = m := useU_m m l _ rfl
  rw [fits_home (by rw [hum]; exact hok) (fun j => (hub.1 j).1) hub.2]
  simp only [v_r19_Together, MachV.row, kB, kZ, kD, fillA, partsEv, zeroes, Nat.reduceSub, Int.reduceToNat, Nat.reduceMul, asInt?, asNat?, Int.reduceAdd, Int.reduceLE, Int.reduceLT, Int.reduceNeg, Nat.reduceLeDiff, VOpd.ev, Nat.reduceEqDiff, Nat.reduceAdd, reduceIte, reduceCtorEq, splice, resOf, tupOf, cellsV, AV.toV, AV.cell?, cellVal]
  refine callO_same (j_r19_Home h m hok hw0 (hv.mono _)) ?_
  simp only [kB, kZ, kD, fillA, partsEv, zeroes, Nat.reduceSub, Int.reduceToNat, Nat.reduceMul, asInt?, asNat?, Int.reduceAdd, Int.reduceLE, Int.reduceLT, Int.reduceNeg, Nat.reduceLeDiff, VOpd.ev, Nat.reduceEqDiff, Nat.reduceAdd, reduceIte, reduceCtorEq, splice, resOf, tupOf, cellsV, AV.toV, AV.cell?, cellVal]
  first | exact ⟨_, rfl⟩ | exact ⟨rfl, _, rfl⟩ | exact ⟨trivial, _, rfl⟩ | exact ⟨[], (List.append_nil _).symm⟩
end
end Go.VX.Seat
end
section
set_option linter.unusedVariables false
set_option linter.unusedSimpArgs false
set_option maxRecDepth 4000
/-! The law MachineTogether. -/
namespace Go.VX.Seat
open Go.Proofs
theorem c_eqlb (a : Bool) (ox oy : Operand) : closed Tryd.prog (do eqGuard .eql 4 ox oy (.bool a) (.bool a); binOp .eql 4 (.bool a) (.bool a)) = some (.bool true) := by cases a <;> kernel_rfl
section
variable {X : Cx} {st : St}
set_option maxHeartbeats 4000000 in
theorem w_MachineTogether (h : OnH X) (hg : GB st) (m : MachV) {lo hi : Nat} {v : AV} {l : List OpV} (hv : OpsAt st lo hi v l) :
    wpF X 3 [.agg m.row, v] st fun r s => r = .ret (bA true) ∧ ∃ m, s = st ++ m := by
  refine wpF_go (fn := v_l19_MachineTogether) (by rw [h.F]; rfl) ?_
  simp only [v_l19_MachineTogether, MachV.row, kB, kZ, kD, fillA, partsEv, zeroes, Nat.reduceSub, Int.reduceToNat, Nat.reduceMul, asInt?, asNat?, Int.reduceAdd, Int.reduceLE, Int.reduceLT, Int.reduceNeg, Nat.reduceLeDiff, VOpd.ev, Nat.reduceEqDiff, Nat.reduceAdd, reduceIte, reduceCtorEq, splice, resOf, tupOf, cellsV, AV.toV, AV.cell?, cellVal]
  refine callO_own (w_l19_cut h.toOn (hv.mono _)) ?_
  intro w m1 hown
  simp only [List.append_assoc, List.cons_append, List.nil_append, kB, kZ, kD, fillA, partsEv, zeroes, Nat.reduceSub, Int.reduceToNat, Nat.reduceMul, asInt?, asNat?, Int.reduceAdd, Int.reduceLE, Int.reduceLT, Int.reduceNeg, Nat.reduceLeDiff, VOpd.ev, Nat.reduceEqDiff, Nat.reduceAdd, reduceIte, reduceCtorEq, splice, resOf, tupOf, cellsV, AV.toV, AV.cell?, cellVal]
  refine callO_own (w_l19_cut h.toOn (hv.mono _)) ?_
  intro w2 m2 hown2
  have hl := cutL_len l
  generalize cutL l = l2 at *
  have hlen2 : (l2.length : Int) < 4611686018427387904 := by omega
  simp only [List.append_assoc, List.cons_append, List.nil_append, kB, kZ, kD, fillA, partsEv, zeroes, Nat.reduceSub, Int.reduceToNat, Nat.reduceMul, asInt?, asNat?, Int.reduceAdd, Int.reduceLE, Int.reduceLT, Int.reduceNeg, Nat.reduceLeDiff, VOpd.ev, Nat.reduceEqDiff, Nat.reduceAdd, reduceIte, reduceCtorEq, splice, resOf, tupOf, cellsV, AV.toV, AV.cell?, cellVal]
  have hsame : st ++ (⟨[iA m.u0, iA m.u1, iA m.u2, iA m.u3, iA m.l0, iA m.l1, iA m.l2, iA m.l3, iA m.regs, iA m.banks, iA m.ports], 0, 0⟩ :: (m1 ++ m2)) = (st ++ [⟨[iA m.u0, iA m.u1, iA m.u2, iA m.u3, iA m.l0, iA m.l1, iA m.l2, iA m.l3, iA m.regs, iA m.banks, iA m.ports], 0, 0⟩] ++ m1) ++ m2 := by simp
  obtain ⟨lo1, hi1, h1⟩ : ∃ lo hi, OpsAt (st ++ (⟨[iA m.u0, iA m.u1, iA m.u2, iA m.u3, iA m.l0, iA m.l1, iA m.l2, iA m.l3, iA m.regs, iA m.banks, iA m.ports], 0, 0⟩ :: (m1 ++ m2))) lo hi w l2 := by
    rw [hsame]; exact ⟨_, _, hown.arr.mono m2⟩
  obtain ⟨lo2, hi2, h2⟩ : ∃ lo hi, OpsAt (st ++ (⟨[iA m.u0, iA m.u1, iA m.u2, iA m.u3, iA m.l0, iA m.l1, iA m.l2, iA m.l3, iA m.regs, iA m.banks, iA m.ports], 0, 0⟩ :: (m1 ++ m2))) lo hi w2 l2 := by
    rw [hsame]; exact ⟨_, _, by simpa using hown2.arr⟩
  clear hown hown2 hsame
  have lw1 := h1.len
  have lw2 := h2.len
  simp only [List.length_map] at lw1 lw2
  refine callO_same (j_Together h.toOn (hg.glob.ext (Ext.of _ _)) m h2 hlen2) ?_
  simp only [kB, kZ, kD, fillA, partsEv, zeroes, Nat.reduceSub, Int.reduceToNat, Nat.reduceMul, asInt?, asNat?, Int.reduceAdd, Int.reduceLE, Int.reduceLT, Int.reduceNeg, Nat.reduceLeDiff, VOpd.ev, Nat.reduceEqDiff, Nat.reduceAdd, reduceIte, reduceCtorEq, splice, resOf, tupOf, cellsV, AV.toV, AV.cell?, cellVal]
  refine callO_same (j_MHome h.toOn (hg.glob.ext (Ext.of _ _)) m h2 hlen2) ?_
  simp only [kB, kZ, kD, fillA, partsEv, zeroes, Nat.reduceSub, Int.reduceToNat, Nat.reduceMul, asInt?, asNat?, Int.reduceAdd, Int.reduceLE, Int.reduceLT, Int.reduceNeg, Nat.reduceLeDiff, VOpd.ev, Nat.reduceEqDiff, Nat.reduceAdd, reduceIte, reduceCtorEq, splice, resOf, tupOf, cellsV, AV.toV, AV.cell?, cellVal]
  refine cutLoop (mB m0) [2, 5, 6, 7, 8, 9, 10] (fun _ => True) ?_ ?_
  · refine loop_live [2, 5, 6, 7, 8, 9, 10] (fun mm e => ∃ i : Nat, i + mm = l2.length ∧ e 11 = iA i) l2.length ?_ ?_
    · exact ⟨0, by omega, by simp only [kB, kZ, kD, fillA, partsEv, zeroes, Nat.reduceSub, Int.reduceToNat, Nat.reduceMul, asInt?, asNat?, Int.reduceAdd, Int.reduceLE, Int.reduceLT, Int.reduceNeg, Nat.reduceLeDiff, VOpd.ev, Nat.reduceEqDiff, Nat.reduceAdd, reduceIte, reduceCtorEq, splice, resOf, tupOf, cellsV, AV.toV, AV.cell?, cellVal]⟩
    · intro mm e hLv ⟨i, him, q11⟩
      simp only [kB, kZ, kD, fillA, partsEv, zeroes, Nat.reduceSub, Int.reduceToNat, Nat.reduceMul, asInt?, asNat?, Int.reduceAdd, Int.reduceLE, Int.reduceLT, Int.reduceNeg, Nat.reduceLeDiff, VOpd.ev, Nat.reduceEqDiff, Nat.reduceAdd, reduceIte, reduceCtorEq, splice, resOf, tupOf, cellsV, AV.toV, AV.cell?, cellVal] at hLv
      obtain ⟨q2, q5, q6, q7, q8, q9, q10⟩ := hLv
      simp only [q2, q5, q6, q7, q8, q9, q10, q11, lw1, lw2, kB, kZ, kD, fillA, partsEv, zeroes, Nat.reduceSub, Int.reduceToNat, Nat.reduceMul, asInt?, asNat?, Int.reduceAdd, Int.reduceLE, Int.reduceLT, Int.reduceNeg, Nat.reduceLeDiff, VOpd.ev, Nat.reduceEqDiff, Nat.reduceAdd, reduceIte, reduceCtorEq, splice, resOf, tupOf, cellsV, AV.toV, AV.cell?, cellVal]
      refine condO_intro ?_ ?_ <;> intro hc
      · have hil : i < l2.length := by have := of_decide_eq_true hc; omega
        obtain ⟨b1, o1, he1, hn1, _⟩ := h1.get i (by simpa using hil)
        obtain ⟨b2, o2, he2, hn2, _⟩ := h2.get i (by simpa using hil)
        have p1 := hn1 []
        have p2 := hn2 []
        simp only [List.append_nil, List.getElem_map, OpV.row] at p1 p2
        have hwr : IntKind.wrap .i64 ((i : Int) + 1) = ((i + 1 : Nat) : Int) := by rw [wrap_small (by omega) (by omega)]; omega
        have hoo : opEq l2[i].k l2[i].d l2[i].a l2[i].b l2[i].c l2[i].n l2[i].g l2[i].k l2[i].d l2[i].a l2[i].b l2[i].c l2[i].n l2[i].g = true := (opEq_iff _ _ _ _ _ _ _ _ _ _ _ _ _ _).2 ⟨rfl, rfl, rfl, rfl, rfl, rfl, rfl⟩
        simp only [q2, q5, q6, q7, q8, q9, q10, q11, he1, he2, p1, p2, hwr, h.P, c_neq_op, hoo, kB, kZ, kD, fillA, partsEv, zeroes, Nat.reduceSub, Int.reduceToNat, Nat.reduceMul, asInt?, asNat?, Int.reduceAdd, Int.reduceLE, Int.reduceLT, Int.reduceNeg, Nat.reduceLeDiff, VOpd.ev, Nat.reduceEqDiff, Nat.reduceAdd, reduceIte, reduceCtorEq, splice, resOf, tupOf, cellsV, AV.toV, AV.cell?, cellVal]
        exact ⟨mm - 1, by omega, i + 1, by omega, rfl⟩
      · simp only [q2, q5, q6, q7, q8, q9, q10, q11, kB, kZ, kD, fillA, partsEv, zeroes, Nat.reduceSub, Int.reduceToNat, Nat.reduceMul, asInt?, asNat?, Int.reduceAdd, Int.reduceLE, Int.reduceLT, Int.reduceNeg, Nat.reduceLeDiff, VOpd.ev, Nat.reduceEqDiff, Nat.reduceAdd, reduceIte, reduceCtorEq, splice, resOf, tupOf, cellsV, AV.toV, AV.cell?, cellVal]
  intro e hLv _
  simp only [kB, kZ, kD, fillA, partsEv, zeroes, Nat.reduceSub, Int.reduceToNat, Nat.reduceMul, asInt?, asNat?, Int.reduceAdd, Int.reduceLE, Int.reduceLT, Int.reduceNeg, Nat.reduceLeDiff, VOpd.ev, Nat.reduceEqDiff, Nat.reduceAdd, reduceIte, reduceCtorEq, splice, resOf, tupOf, cellsV, AV.toV, AV.cell?, cellVal] at hLv
  obtain ⟨q2, q5, q6, q7, q8, q9, q10⟩ := hLv
  simp only [q2, q5, q6, q7, q8, q9, q10, kB, kZ, kD, fillA, partsEv, zeroes, Nat.reduceSub, Int.reduceToNat, Nat.reduceMul, asInt?, asNat?, Int.reduceAdd, Int.reduceLE, Int.reduceLT, Int.reduceNeg, Nat.reduceLeDiff, VOpd.ev, Nat.reduceEqDiff, Nat.reduceAdd, reduceIte, reduceCtorEq, splice, resOf, tupOf, cellsV, AV.toV, AV.cell?, cellVal]
  refine callO_same (j_r19_Check h.toOn m) ?_
  cases hok : okM m
  · have e1 : chkM m = 2 := by unfold chkM; rw [hok]; rfl
    have e2 : useErr m l2 = 2 := by unfold useErr; rw [hok]; rfl
    simp only [e2, Int.reduceEq, decide_false, Bool.false_and, Bool.false_eq_true, if_false] at q7 q8 q9 q10
    simp only [q2, q5, q6, q7, q8, q9, q10, e1, Int.reduceEq, Int.reduceNe, eq_self, kB, kZ, kD, fillA, partsEv, zeroes, Nat.reduceSub, Int.reduceToNat, Nat.reduceMul, asInt?, asNat?, Int.reduceAdd, Int.reduceLE, Int.reduceLT, Int.reduceNeg, Nat.reduceLeDiff, VOpd.ev, Nat.reduceEqDiff, Nat.reduceAdd, reduceIte, reduceCtorEq, splice, resOf, tupOf, cellsV, AV.toV, AV.cell?, cellVal]
    refine callO_same (.hook (h.alive _ (hg.app _))) ?_
    simp only [kB, kZ, kD, fillA, partsEv, zeroes, Nat.reduceSub, Int.reduceToNat, Nat.reduceMul, asInt?, asNat?, Int.reduceAdd, Int.reduceLE, Int.reduceLT, Int.reduceNeg, Nat.reduceLeDiff, VOpd.ev, Nat.reduceEqDiff, Nat.reduceAdd, reduceIte, reduceCtorEq, splice, resOf, tupOf, cellsV, AV.toV, AV.cell?, cellVal]
    exact ⟨_, rfl⟩
  have e1 : chkM m = 0 := by unfold chkM; rw [hok]; rfl
  have e2 : useErr m l2 = wrongM m l2 := by unfold useErr; rw [hok]; rfl
  rw [e2] at q7 q8 q9 q10
  simp only [q2, q5, q6, q7, q8, q9, q10, e1, Int.reduceEq, Int.reduceNe, eq_self, kB, kZ, kD, fillA, partsEv, zeroes, Nat.reduceSub, Int.reduceToNat, Nat.reduceMul, asInt?, asNat?, Int.reduceAdd, Int.reduceLE, Int.reduceLT, Int.reduceNeg, Nat.reduceLeDiff, VOpd.ev, Nat.reduceEqDiff, Nat.reduceAdd, reduceIte, reduceCtorEq, splice, resOf, tupOf, cellsV, AV.toV, AV.cell?, cellVal]
  refine callO_same (j_r19_Wrong h.toOn m h1 hlen2) ?_
  by_cases hw0 : wrongM m l2 = 0
  case neg =>
    have hd : decide (wrongM m l2 ≠ 0) = true := decide_eq_true hw0
    have hd2 : decide (wrongM m l2 = 0) = false := decide_eq_false hw0
    simp only [hd2, decide_false, Bool.false_and, Bool.false_eq_true, if_false] at q7 q8 q9 q10
    simp only [q2, q5, q6, q7, q8, q9, q10, hd, Int.reduceEq, Int.reduceNe, eq_self, kB, kZ, kD, fillA, partsEv, zeroes, Nat.reduceSub, Int.reduceToNat, Nat.reduceMul, asInt?, asNat?, Int.reduceAdd, Int.reduceLE, Int.reduceLT, Int.reduceNeg, Nat.reduceLeDiff, VOpd.ev, Nat.reduceEqDiff, Nat.reduceAdd, reduceIte, reduceCtorEq, splice, resOf, tupOf, cellsV, AV.toV, AV.cell?, cellVal]
    refine callO_same (.hook (h.alive _ (hg.app _))) ?_
    simp only [kB, kZ, kD, fillA, partsEv, zeroes, Nat.reduceSub, Int.reduceToNat, Nat.reduceMul, asInt?, asNat?, Int.reduceAdd, Int.reduceLE, Int.reduceLT, Int.reduceNeg, Nat.reduceLeDiff, VOpd.ev, Nat.reduceEqDiff, Nat.reduceAdd, reduceIte, reduceCtorEq, splice, resOf, tupOf, cellsV, AV.toV, AV.cell?, cellVal]
    exact ⟨_, rfl⟩
  simp only [hw0, eq_self, decide_true, Bool.true_and, if_true] at q7 q8 q9 q10
  simp only [q2, q5, q6, q7, q8, q9, q10, hw0, Int.reduceEq, Int.reduceNe, eq_self, kB, kZ, kD, fillA, partsEv, zeroes, Nat.reduceSub, Int.reduceToNat, Nat.reduceMul, asInt?, asNat?, Int.reduceAdd, Int.reduceLE, Int.reduceLT, Int.reduceNeg, Nat.reduceLeDiff, VOpd.ev, Nat.reduceEqDiff, Nat.reduceAdd, reduceIte, reduceCtorEq, splice, resOf, tupOf, cellsV, AV.toV, AV.cell?, cellVal]
  refine callO_same (j_r19_Together h.toOn m hok hw0 h1) ?_
  simp only [q2, q5, q6, q7, q8, q9, q10, h.P, c_eqlb, Int.reduceEq, Int.reduceNe, eq_self, kB, kZ, kD, fillA, partsEv, zeroes, Nat.reduceSub, Int.reduceToNat, Nat.reduceMul, asInt?, asNat?, Int.reduceAdd, Int.reduceLE, Int.reduceLT, Int.reduceNeg, Nat.reduceLeDiff, VOpd.ev, Nat.reduceEqDiff, Nat.reduceAdd, reduceIte, reduceCtorEq, splice, resOf, tupOf, cellsV, AV.toV, AV.cell?, cellVal]
  refine callO_same (j_r19_Home h.toOn m hok hw0 h1) ?_
  simp only [q2, q5, q6, q7, q8, q9, q10, Int.reduceEq, Int.reduceNe, eq_self, kB, kZ, kD, fillA, partsEv, zeroes, Nat.reduceSub, Int.reduceToNat, Nat.reduceMul, asInt?, asNat?, Int.reduceAdd, Int.reduceLE, Int.reduceLT, Int.reduceNeg, Nat.reduceLeDiff, VOpd.ev, Nat.reduceEqDiff, Nat.reduceAdd, reduceIte, reduceCtorEq, splice, resOf, tupOf, cellsV, AV.toV, AV.cell?, cellVal]
  refine callO_same (.hook (h.alive _ (hg.app _))) ?_
  simp only [kB, kZ, kD, fillA, partsEv, zeroes, Nat.reduceSub, Int.reduceToNat, Nat.reduceMul, asInt?, asNat?, Int.reduceAdd, Int.reduceLE, Int.reduceLT, Int.reduceNeg, Nat.reduceLeDiff, VOpd.ev, Nat.reduceEqDiff, Nat.reduceAdd, reduceIte, reduceCtorEq, splice, resOf, tupOf, cellsV, AV.toV, AV.cell?, cellVal]
  exact ⟨_, rfl⟩
end
end Go.VX.Seat
end
