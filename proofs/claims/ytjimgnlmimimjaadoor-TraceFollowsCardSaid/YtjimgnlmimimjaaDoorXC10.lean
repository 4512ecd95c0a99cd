/- A part of the proofs of the statements of layer 17: S40, S41, S42, S43, S44, S48, S49, S50. No condition is added here. -/
import Derived.Test.YtjimgnlmimimjaaDoorXC9
section
set_option linter.unusedVariables false
set_option linter.unusedSimpArgs false
set_option maxRecDepth 4000
/-! Profiles; likely ways. -/
namespace Go.VX.Seat
open Go.Proofs
structure CntV where
  n : Int
  t : Int
  e : Int
  deriving DecidableEq
def CntV.row (c : CntV) : List AV := [iA c.n, iA c.t, iA c.e]
abbrev CntsAt (st : St) (lo hi : Nat) (v : AV) (l : List CntV) : Prop := ArrAt st lo hi v 3 (l.map CntV.row)
/-- The likely way by an End and its count; -1: there is none. -/
def likN (e : EndV) (c : CntV) : Int := if e.k = 1 then (if 0 < c.t then 0 else -1) else if e.k = 2 then (if c.e ≤ c.t ∧ 0 < c.t then 1 else if c.t < c.e ∧ 0 < c.e then 2 else -1) else -1
def likI (e : EndV) (c : CntV) : Int := if e.k = 1 then 0 else if e.k = 2 then (if c.e ≤ c.t then 1 else 2) else 0
def likB (e : EndV) (c : CntV) : Bool := if e.k = 1 then decide (0 < c.t) else if e.k = 2 then (if c.e ≤ c.t then decide (0 < c.t) else decide (0 < c.e)) else false
theorem likB_eq (e : EndV) (c : CntV) : likB e c = decide (0 ≤ likN e c) := by
  unfold likB likN
  by_cases h1 : e.k = 1
  · rw [if_pos h1, if_pos h1]
    by_cases h : 0 < c.t <;> simp [h]
  · rw [if_neg h1, if_neg h1]
    by_cases h2 : e.k = 2
    · rw [if_pos h2, if_pos h2]
      by_cases h3 : c.e ≤ c.t
      · by_cases h : 0 < c.t
        · simp [h3, h]
        · have h4 : ¬ c.t < c.e := by omega
          simp [h3, h, h4]
      · have h4 : c.t < c.e := by omega
        by_cases h : 0 < c.e <;> simp [h3, h, h4]
    · rw [if_neg h2, if_neg h2]; simp
theorem likI_eq (e : EndV) (c : CntV) (h : 0 ≤ likN e c) : likI e c = likN e c := by
  unfold likI likN at *
  by_cases h1 : e.k = 1
  · rw [if_pos h1] at h ⊢
    rw [if_pos h1]
    split at h
    · rename_i h2; rw [if_pos h2]
    · omega
  · rw [if_neg h1] at h ⊢
    rw [if_neg h1]
    by_cases h2 : e.k = 2
    · rw [if_pos h2] at h ⊢
      rw [if_pos h2]
      split at h
      · rename_i h3
        rw [if_pos h3, if_pos h3.1]
      · rename_i h3
        rw [if_neg h3]
        split at h
        · rename_i h4
          rw [if_pos h4, if_neg (by omega)]
        · omega
    · rw [if_neg h2] at h
      omega
theorem likN_way (e : EndV) (c : CntV) : isWay e (likN e c) = decide (0 ≤ likN e c) := by
  unfold likN isWay wayTo wayElse
  by_cases h1 : e.k = 1
  · rw [if_pos h1]
    by_cases h : 0 < c.t <;> simp [h, h1]
  · rw [if_neg h1]
    by_cases h2 : e.k = 2
    · rw [if_pos h2]
      by_cases h3 : c.e ≤ c.t ∧ 0 < c.t
      · rw [if_pos h3]; simp [h2]
      · rw [if_neg h3]
        by_cases h4 : c.t < c.e ∧ 0 < c.e
        · rw [if_pos h4]; simp [h2]
        · rw [if_neg h4]; simp
    · rw [if_neg h2]; simp
theorem likN_range (e : EndV) (c : CntV) (h : 0 ≤ likN e c) : likN e c = 0 ∨ likN e c = 1 ∨ likN e c = 2 := by
  unfold likN at *
  split at h <;> (repeat' split at h) <;> simp_all
theorem cntRow_cells (l : List CntV) : (l.map CntV.row).flatten.all AV.isCell = true := by
  induction l with
  | nil => rfl
  | cons o l ih =>
    simp only [List.map_cons, List.flatten_cons, List.all_append, ih, Bool.and_true]
    rfl
theorem atN_lt {s : St} {b o n : Nat} {cs : List AV} (h : St.atN s b o n = some cs) : b < s.length := by
  unfold St.atN at h
  cases hb : s[b]? with
  | none => rw [hb] at h; cases h
  | some x => exact (List.getElem?_eq_some_iff.1 hb).1
section
variable {X : Cx} {st : St}
theorem w_profile (h : On X) {lo hi : Nat} {v : AV} {P : List CntV} (hv : CntsAt st lo hi v P) :
    wpF X 18 [v] st fun r s => ∃ w, r = .ret w ∧ (∃ m, s = st ++ m) ∧ OwnS s st.length w 3 ((P.take 20).map CntV.row) := by
  refine wpF_go (fn := v_l17_profile) (by rw [h.F]; rfl) ?_
  have l1 := hv.len
  simp only [List.length_map] at l1
  simp only [v_l17_profile, l1, kB, kZ, kD, fillA, partsEv, zeroes, Nat.reduceSub, Int.reduceToNat, Nat.reduceMul, asInt?, asNat?, Int.reduceAdd, Int.reduceLE, Int.reduceLT, Int.reduceNeg, Nat.reduceLeDiff, VOpd.ev, Nat.reduceEqDiff, Nat.reduceAdd, reduceIte, reduceCtorEq, splice, resOf, tupOf, cellsV, AV.toV, AV.cell?, cellVal]
  have hmin : (min (P.length : Int) 20) = ((min P.length 20 : Nat) : Int) := by omega
  refine opR_pre (vx := v) (n := min P.length 20) (lo := lo) (hi := hi) (rows := P.map CntV.row) (by simp only [kB, kZ, kD, fillA, partsEv, zeroes, Nat.reduceSub, Int.reduceToNat, Nat.reduceMul, asInt?, asNat?, Int.reduceAdd, Int.reduceLE, Int.reduceLT, Int.reduceNeg, Nat.reduceLeDiff, VOpd.ev, Nat.reduceEqDiff, Nat.reduceAdd, reduceIte, reduceCtorEq, splice, resOf, tupOf, cellsV, AV.toV, AV.cell?, cellVal]) (by rw [hmin]; simp only [kB, kZ, kD, fillA, partsEv, zeroes, Nat.reduceSub, Int.reduceToNat, Nat.reduceMul, asInt?, asNat?, Int.reduceAdd, Int.reduceLE, Int.reduceLT, Int.reduceNeg, Nat.reduceLeDiff, VOpd.ev, Nat.reduceEqDiff, Nat.reduceAdd, reduceIte, reduceCtorEq, splice, resOf, tupOf, cellsV, AV.toV, AV.cell?, cellVal]; rw [if_pos (by omega)]) (hv.mono _) (by simp; omega) ?_
  intro sz1 hsz1
  simp only [kB, kZ, kD, fillA, partsEv, zeroes, Nat.reduceSub, Int.reduceToNat, Nat.reduceMul, asInt?, asNat?, Int.reduceAdd, Int.reduceLE, Int.reduceLT, Int.reduceNeg, Nat.reduceLeDiff, VOpd.ev, Nat.reduceEqDiff, Nat.reduceAdd, reduceIte, reduceCtorEq, splice, resOf, tupOf, cellsV, AV.toV, AV.cell?, cellVal]
  refine opR_append (vx := .sl (st.length + 0) 0 0 3 true) (vy := sz1) (lo := st.length) (rows := []) (by simp only [kB, kZ, kD, fillA, partsEv, zeroes, Nat.reduceSub, Int.reduceToNat, Nat.reduceMul, asInt?, asNat?, Int.reduceAdd, Int.reduceLE, Int.reduceLT, Int.reduceNeg, Nat.reduceLeDiff, VOpd.ev, Nat.reduceEqDiff, Nat.reduceAdd, reduceIte, reduceCtorEq, splice, resOf, tupOf, cellsV, AV.toV, AV.cell?, cellVal]) (by simp only [kB, kZ, kD, fillA, partsEv, zeroes, Nat.reduceSub, Int.reduceToNat, Nat.reduceMul, asInt?, asNat?, Int.reduceAdd, Int.reduceLE, Int.reduceLT, Int.reduceNeg, Nat.reduceLeDiff, VOpd.ev, Nat.reduceEqDiff, Nat.reduceAdd, reduceIte, reduceCtorEq, splice, resOf, tupOf, cellsV, AV.toV, AV.cell?, cellVal]) (own_empty (by rw [Nat.add_zero, List.getElem?_append_right (by omega), Nat.sub_self]; rfl) (by decide) (by omega)) (by simp) hsz1 (by simp; omega) ?_ ?_
  · rw [← List.map_take]; exact cntRow_cells _
  intro sz s1 hag hown hsz
  obtain ⟨L, rfl⟩ := hag.ext (a := st) ⟨_, rfl⟩ (fun b hb hx => by have := hx.2; cases this; omega)
  have ht : P.take (min P.length 20) = P.take 20 := by
    rcases Nat.le_total P.length 20 with h | h
    · rw [Nat.min_eq_left h, List.take_length, List.take_of_length_le h]
    · rw [Nat.min_eq_right h]
  simp only [List.nil_append, ← List.map_take, ht] at hown
  simp only [kB, kZ, kD, fillA, partsEv, zeroes, Nat.reduceSub, Int.reduceToNat, Nat.reduceMul, asInt?, asNat?, Int.reduceAdd, Int.reduceLE, Int.reduceLT, Int.reduceNeg, Nat.reduceLeDiff, VOpd.ev, Nat.reduceEqDiff, Nat.reduceAdd, reduceIte, reduceCtorEq, splice, resOf, tupOf, cellsV, AV.toV, AV.cell?, cellVal]
  exact ⟨⟨L, rfl⟩, hown⟩
theorem j_trace_likely (h : On X) {lo hi lo' hi' : Nat} {v pv : AV} {U : UnitV} {P : List CntV} (hv : UnitAt st lo hi v U) (hp : CntsAt st lo' hi' pv P) (x : Nat) (hx : x < U.blocks.length) (hxp : x < P.length) :
    J X.P X.F X.H (.call 56 [v, pv, iA x] st (.ret (.tup [iA (likI U.blocks[x].e P[x]), bA (likB U.blocks[x].e P[x])])) st) := by
  refine pure_intro (by rw [h.F]; rfl) rfl ?_
  obtain ⟨s, bl, rfl, hs, hb⟩ := hv
  obtain ⟨f, hb, hbo⟩ := hb
  obtain ⟨b1, o1, he1, hn1, ha1, hm1⟩ := hb.get x (by simpa using hx)
  obtain ⟨b2, o2, he2, hn2, ha2, hm2⟩ := hp.get x (by simpa using hxp)
  simp only [List.getElem_mapIdx, List.getElem_map, BlkV.row, CntV.row] at hn1 hn2 ha1 ha2 hm1 hm2
  have r1 := fun L => hm1 L 1 4 (by omega)
  simp only [kB, kZ, kD, fillA, partsEv, zeroes, Nat.reduceSub, Int.reduceToNat, Nat.reduceMul, asInt?, asNat?, Int.reduceAdd, Int.reduceLE, Int.reduceLT, Int.reduceNeg, Nat.reduceLeDiff, VOpd.ev, Nat.reduceEqDiff, Nat.reduceAdd, reduceIte, reduceCtorEq, splice, resOf, tupOf, cellsV, AV.toV, AV.cell?, cellVal] at r1
  generalize U.blocks[x] = B at *
  generalize P[x] = C at *
  unfold likI likB
  simp only [v_trace_likely, he1, r1, he2, hn2, kB, kZ, kD, fillA, partsEv, zeroes, Nat.reduceSub, Int.reduceToNat, Nat.reduceMul, asInt?, asNat?, Int.reduceAdd, Int.reduceLE, Int.reduceLT, Int.reduceNeg, Nat.reduceLeDiff, VOpd.ev, Nat.reduceEqDiff, Nat.reduceAdd, reduceIte, reduceCtorEq, splice, resOf, tupOf, cellsV, AV.toV, AV.cell?, cellVal]
  have hb2 := atN_lt (hn2 [])
  rw [List.append_nil] at hb2
  refine ⟨kept_one (b := b2) (o := o2) (by simp only [kB, kZ, kD, fillA, partsEv, zeroes, Nat.reduceSub, Int.reduceToNat, Nat.reduceMul, asInt?, asNat?, Int.reduceAdd, Int.reduceLE, Int.reduceLT, Int.reduceNeg, Nat.reduceLeDiff, VOpd.ev, Nat.reduceEqDiff, Nat.reduceAdd, reduceIte, reduceCtorEq, splice, resOf, tupOf, cellsV, AV.toV, AV.cell?, cellVal]) (by rw [List.getElem?_append_left hb2, List.getElem?_append_left hb2]), ?_⟩
  refine condO_intro ?_ ?_ <;> intro hc
  · have hk : B.e.k = 1 := of_decide_eq_true hc
    simp only [hk, if_true, kB, kZ, kD, fillA, partsEv, zeroes, Nat.reduceSub, Int.reduceToNat, Nat.reduceMul, asInt?, asNat?, Int.reduceAdd, Int.reduceLE, Int.reduceLT, Int.reduceNeg, Nat.reduceLeDiff, VOpd.ev, Nat.reduceEqDiff, Nat.reduceAdd, reduceIte, reduceCtorEq, splice, resOf, tupOf, cellsV, AV.toV, AV.cell?, cellVal]
    first | exact ⟨_, rfl⟩ | exact ⟨rfl, _, rfl⟩ | exact ⟨trivial, _, rfl⟩ | exact ⟨[], (List.append_nil _).symm⟩
  · have hk : ¬ B.e.k = 1 := of_decide_eq_false hc
    simp only [hk, if_false, kB, kZ, kD, fillA, partsEv, zeroes, Nat.reduceSub, Int.reduceToNat, Nat.reduceMul, asInt?, asNat?, Int.reduceAdd, Int.reduceLE, Int.reduceLT, Int.reduceNeg, Nat.reduceLeDiff, VOpd.ev, Nat.reduceEqDiff, Nat.reduceAdd, reduceIte, reduceCtorEq, splice, resOf, tupOf, cellsV, AV.toV, AV.cell?, cellVal]
    refine condO_intro ?_ ?_ <;> intro hc2
    · have hk2 : ¬ B.e.k = 2 := of_decide_eq_true hc2
      simp only [hk2, if_false, kB, kZ, kD, fillA, partsEv, zeroes, Nat.reduceSub, Int.reduceToNat, Nat.reduceMul, asInt?, asNat?, Int.reduceAdd, Int.reduceLE, Int.reduceLT, Int.reduceNeg, Nat.reduceLeDiff, VOpd.ev, Nat.reduceEqDiff, Nat.reduceAdd, reduceIte, reduceCtorEq, splice, resOf, tupOf, cellsV, AV.toV, AV.cell?, cellVal]
      first | exact ⟨_, rfl⟩ | exact ⟨rfl, _, rfl⟩ | exact ⟨trivial, _, rfl⟩ | exact ⟨[], (List.append_nil _).symm⟩
    · have hk2 : B.e.k = 2 := Decidable.not_not.1 (of_decide_eq_false hc2)
      simp only [hk2, if_true, kB, kZ, kD, fillA, partsEv, zeroes, Nat.reduceSub, Int.reduceToNat, Nat.reduceMul, asInt?, asNat?, Int.reduceAdd, Int.reduceLE, Int.reduceLT, Int.reduceNeg, Nat.reduceLeDiff, VOpd.ev, Nat.reduceEqDiff, Nat.reduceAdd, reduceIte, reduceCtorEq, splice, resOf, tupOf, cellsV, AV.toV, AV.cell?, cellVal]
      refine condO_intro ?_ ?_ <;> intro hc3
      · have h3 : C.e ≤ C.t := of_decide_eq_true hc3
        simp only [h3, if_true, kB, kZ, kD, fillA, partsEv, zeroes, Nat.reduceSub, Int.reduceToNat, Nat.reduceMul, asInt?, asNat?, Int.reduceAdd, Int.reduceLE, Int.reduceLT, Int.reduceNeg, Nat.reduceLeDiff, VOpd.ev, Nat.reduceEqDiff, Nat.reduceAdd, reduceIte, reduceCtorEq, splice, resOf, tupOf, cellsV, AV.toV, AV.cell?, cellVal]
        first | exact ⟨_, rfl⟩ | exact ⟨rfl, _, rfl⟩ | exact ⟨trivial, _, rfl⟩ | exact ⟨[], (List.append_nil _).symm⟩
      · have h3 : ¬ C.e ≤ C.t := of_decide_eq_false hc3
        simp only [h3, if_false, kB, kZ, kD, fillA, partsEv, zeroes, Nat.reduceSub, Int.reduceToNat, Nat.reduceMul, asInt?, asNat?, Int.reduceAdd, Int.reduceLE, Int.reduceLT, Int.reduceNeg, Nat.reduceLeDiff, VOpd.ev, Nat.reduceEqDiff, Nat.reduceAdd, reduceIte, reduceCtorEq, splice, resOf, tupOf, cellsV, AV.toV, AV.cell?, cellVal]
        first | exact ⟨_, rfl⟩ | exact ⟨rfl, _, rfl⟩ | exact ⟨trivial, _, rfl⟩ | exact ⟨[], (List.append_nil _).symm⟩
end
end Go.VX.Seat
end
section
set_option linter.unusedVariables false
set_option linter.unusedSimpArgs false
set_option maxRecDepth 4000
/-! Numbers in lists; the reference's likely way; with. -/
namespace Go.VX.Seat
open Go.Proofs
section
variable {X : Cx} {st : St}
theorem not_mem_take {l : List Int} {n : Int} (h : ∀ j (hj : j < l.length), l[j] ≠ n) : n ∉ l := fun hm => by
  obtain ⟨i, hi, e⟩ := List.getElem_of_mem hm
  exact h i hi e
theorem j_slices_Index_int (h : On X) {lo hi : Nat} {v : AV} {l : List Int} (hv : IntsAt st lo hi v l) (n : Int) (hlen : (l.length : Int) < 4611686018427387904) :
    wpF X 93 [v, iA n] st fun r s => s = st ∧ ∃ i : Int, r = .ret (iA i) ∧ decide (0 ≤ i) = decide (n ∈ l) := by
  suffices hs : ∃ i : Int, (decide (0 ≤ i) = decide (n ∈ l)) ∧ J X.P X.F X.H (.call 93 [v, iA n] st (.ret (iA i)) st) by
    obtain ⟨i, h1, h2⟩ := hs
    exact ⟨_, _, h2, rfl, i, rfl, h1⟩
  by_cases hm : n ∈ l
  · obtain ⟨k, hk, hkn, hkb⟩ : ∃ k, ∃ hk : k < l.length, l[k] = n ∧ ∀ j (hj : j < l.length), j < k → l[j] ≠ n := by
      clear hv hlen
      induction l with
      | nil => cases hm
      | cons a r ih =>
        by_cases ha : a = n
        · exact ⟨0, by simp, by simpa using ha, fun j _ hj => absurd hj (by omega)⟩
        · have hm' : n ∈ r := by
            rcases List.mem_cons.1 hm with h | h
            · exact absurd h.symm ha
            · exact h
          obtain ⟨k, hk, h1, h2⟩ := ih hm'
          refine ⟨k + 1, by simpa using hk, by simpa using h1, fun j hj hjk => ?_⟩
          cases j with
          | zero => simpa using ha
          | succ j => simpa using h2 j (by simpa using hj) (by omega)
    refine ⟨k, by rw [decide_eq_true hm]; exact decide_eq_true (by omega), ?_⟩
    refine pure_intro (by rw [h.F]; rfl) rfl ?_
    have l1 := hv.len
    simp only [List.length_map] at l1
    simp only [v_slices_Index_int, l1, kB, kZ, kD, fillA, partsEv, zeroes, Nat.reduceSub, Int.reduceToNat, Nat.reduceMul, asInt?, asNat?, Int.reduceAdd, Int.reduceLE, Int.reduceLT, Int.reduceNeg, Nat.reduceLeDiff, VOpd.ev, Nat.reduceEqDiff, Nat.reduceAdd, reduceIte, reduceCtorEq, splice, resOf, tupOf, cellsV, AV.toV, AV.cell?, cellVal]
    refine loop_live [0, 1, 7] (fun m e => ∃ i : Nat, i + m = l.length ∧ e 8 = iA i ∧ i ≤ k) l.length ?_ ?_
    · exact ⟨0, by omega, by simp only [kB, kZ, kD, fillA, partsEv, zeroes, Nat.reduceSub, Int.reduceToNat, Nat.reduceMul, asInt?, asNat?, Int.reduceAdd, Int.reduceLE, Int.reduceLT, Int.reduceNeg, Nat.reduceLeDiff, VOpd.ev, Nat.reduceEqDiff, Nat.reduceAdd, reduceIte, reduceCtorEq, splice, resOf, tupOf, cellsV, AV.toV, AV.cell?, cellVal], by omega⟩
    · intro m e hL ⟨i, him, h5, hik⟩
      simp only [kB, kZ, kD, fillA, partsEv, zeroes, Nat.reduceSub, Int.reduceToNat, Nat.reduceMul, asInt?, asNat?, Int.reduceAdd, Int.reduceLE, Int.reduceLT, Int.reduceNeg, Nat.reduceLeDiff, VOpd.ev, Nat.reduceEqDiff, Nat.reduceAdd, reduceIte, reduceCtorEq, splice, resOf, tupOf, cellsV, AV.toV, AV.cell?, cellVal] at hL
      obtain ⟨h0, h1, h7⟩ := hL
      simp only [h0, h1, h7, h5, kB, kZ, kD, fillA, partsEv, zeroes, Nat.reduceSub, Int.reduceToNat, Nat.reduceMul, asInt?, asNat?, Int.reduceAdd, Int.reduceLE, Int.reduceLT, Int.reduceNeg, Nat.reduceLeDiff, VOpd.ev, Nat.reduceEqDiff, Nat.reduceAdd, reduceIte, reduceCtorEq, splice, resOf, tupOf, cellsV, AV.toV, AV.cell?, cellVal]
      have hc : decide ((i : Int) < (l.length : Int)) = true := decide_eq_true (by omega)
      obtain ⟨b1, o1, he1, _, ha1, _⟩ := hv.get i (by simp; omega)
      have a1 := ha1 [] 0 (by omega)
      simp only [List.getElem_map, Nat.add_zero, List.getElem?_cons_zero] at a1
      simp only [hc, h0, h1, h7, h5, he1, a1, kB, kZ, kD, fillA, partsEv, zeroes, Nat.reduceSub, Int.reduceToNat, Nat.reduceMul, asInt?, asNat?, Int.reduceAdd, Int.reduceLE, Int.reduceLT, Int.reduceNeg, Nat.reduceLeDiff, VOpd.ev, Nat.reduceEqDiff, Nat.reduceAdd, reduceIte, reduceCtorEq, splice, resOf, tupOf, cellsV, AV.toV, AV.cell?, cellVal]
      refine condO_intro ?_ ?_ <;> intro hq
      · have hq := of_decide_eq_true hq
        have : i = k := by
          rcases Nat.lt_or_ge i k with h | h
          · exact absurd hq.symm (hkb i (by omega) h)
          · omega
        subst this
        simp only [h5, kB, kZ, kD, fillA, partsEv, zeroes, Nat.reduceSub, Int.reduceToNat, Nat.reduceMul, asInt?, asNat?, Int.reduceAdd, Int.reduceLE, Int.reduceLT, Int.reduceNeg, Nat.reduceLeDiff, VOpd.ev, Nat.reduceEqDiff, Nat.reduceAdd, reduceIte, reduceCtorEq, splice, resOf, tupOf, cellsV, AV.toV, AV.cell?, cellVal]
        first | exact ⟨_, rfl⟩ | exact ⟨rfl, _, rfl⟩ | exact ⟨trivial, _, rfl⟩ | exact ⟨[], (List.append_nil _).symm⟩
      · have hq := of_decide_eq_false hq
        have hne : i ≠ k := fun e => hq (by subst e; exact hkn.symm)
        simp only [h0, h1, h7, h5, kB, kZ, kD, fillA, partsEv, zeroes, Nat.reduceSub, Int.reduceToNat, Nat.reduceMul, asInt?, asNat?, Int.reduceAdd, Int.reduceLE, Int.reduceLT, Int.reduceNeg, Nat.reduceLeDiff, VOpd.ev, Nat.reduceEqDiff, Nat.reduceAdd, reduceIte, reduceCtorEq, splice, resOf, tupOf, cellsV, AV.toV, AV.cell?, cellVal]
        rw [wrap_small (by omega) (by omega)]
        exact ⟨m - 1, by omega, i + 1, by omega, by simp, by omega⟩
  · refine ⟨-1, by rw [decide_eq_false hm]; rfl, ?_⟩
    refine pure_intro (by rw [h.F]; rfl) rfl ?_
    have l1 := hv.len
    simp only [List.length_map] at l1
    simp only [v_slices_Index_int, l1, kB, kZ, kD, fillA, partsEv, zeroes, Nat.reduceSub, Int.reduceToNat, Nat.reduceMul, asInt?, asNat?, Int.reduceAdd, Int.reduceLE, Int.reduceLT, Int.reduceNeg, Nat.reduceLeDiff, VOpd.ev, Nat.reduceEqDiff, Nat.reduceAdd, reduceIte, reduceCtorEq, splice, resOf, tupOf, cellsV, AV.toV, AV.cell?, cellVal]
    refine loop_live [0, 1, 7] (fun m e => ∃ i : Nat, i + m = l.length ∧ e 8 = iA i) l.length ?_ ?_
    · exact ⟨0, by omega, by simp only [kB, kZ, kD, fillA, partsEv, zeroes, Nat.reduceSub, Int.reduceToNat, Nat.reduceMul, asInt?, asNat?, Int.reduceAdd, Int.reduceLE, Int.reduceLT, Int.reduceNeg, Nat.reduceLeDiff, VOpd.ev, Nat.reduceEqDiff, Nat.reduceAdd, reduceIte, reduceCtorEq, splice, resOf, tupOf, cellsV, AV.toV, AV.cell?, cellVal]⟩
    · intro m e hL ⟨i, him, h5⟩
      simp only [kB, kZ, kD, fillA, partsEv, zeroes, Nat.reduceSub, Int.reduceToNat, Nat.reduceMul, asInt?, asNat?, Int.reduceAdd, Int.reduceLE, Int.reduceLT, Int.reduceNeg, Nat.reduceLeDiff, VOpd.ev, Nat.reduceEqDiff, Nat.reduceAdd, reduceIte, reduceCtorEq, splice, resOf, tupOf, cellsV, AV.toV, AV.cell?, cellVal] at hL
      obtain ⟨h0, h1, h7⟩ := hL
      simp only [h0, h1, h7, h5, kB, kZ, kD, fillA, partsEv, zeroes, Nat.reduceSub, Int.reduceToNat, Nat.reduceMul, asInt?, asNat?, Int.reduceAdd, Int.reduceLE, Int.reduceLT, Int.reduceNeg, Nat.reduceLeDiff, VOpd.ev, Nat.reduceEqDiff, Nat.reduceAdd, reduceIte, reduceCtorEq, splice, resOf, tupOf, cellsV, AV.toV, AV.cell?, cellVal]
      refine condO_intro ?_ ?_ <;> intro hc <;> simp only [kB, kZ, kD, fillA, partsEv, zeroes, Nat.reduceSub, Int.reduceToNat, Nat.reduceMul, asInt?, asNat?, Int.reduceAdd, Int.reduceLE, Int.reduceLT, Int.reduceNeg, Nat.reduceLeDiff, VOpd.ev, Nat.reduceEqDiff, Nat.reduceAdd, reduceIte, reduceCtorEq, splice, resOf, tupOf, cellsV, AV.toV, AV.cell?, cellVal]
      · have hi : i < l.length := by have := of_decide_eq_true hc; omega
        obtain ⟨b1, o1, he1, _, ha1, _⟩ := hv.get i (by simpa using hi)
        have a1 := ha1 [] 0 (by omega)
        simp only [List.getElem_map, Nat.add_zero, List.getElem?_cons_zero] at a1
        have hq : decide (n = l[i]) = false := decide_eq_false fun e => hm (by rw [e]; exact List.getElem_mem hi)
        simp only [h0, h1, h7, h5, he1, a1, hq, kB, kZ, kD, fillA, partsEv, zeroes, Nat.reduceSub, Int.reduceToNat, Nat.reduceMul, asInt?, asNat?, Int.reduceAdd, Int.reduceLE, Int.reduceLT, Int.reduceNeg, Nat.reduceLeDiff, VOpd.ev, Nat.reduceEqDiff, Nat.reduceAdd, reduceIte, reduceCtorEq, splice, resOf, tupOf, cellsV, AV.toV, AV.cell?, cellVal]
        rw [wrap_small (by omega) (by omega)]
        exact ⟨m - 1, by omega, i + 1, by omega, by simp⟩
      · first | exact ⟨_, rfl⟩ | exact ⟨rfl, _, rfl⟩ | exact ⟨trivial, _, rfl⟩ | exact ⟨[], (List.append_nil _).symm⟩
theorem j_Contains (h : On X) {lo hi : Nat} {v : AV} {l : List Int} (hv : IntsAt st lo hi v l) (n : Int) (hlen : (l.length : Int) < 4611686018427387904) :
    J X.P X.F X.H (.call 74 [v, iA n] st (.ret (bA (decide (n ∈ l)))) st) := by
  refine pure_intro (by rw [h.F]; rfl) rfl ?_
  have hm := fun L => ArrAt.mono hv L
  simp only [v_slices_Contains_int, kB, kZ, kD, fillA, partsEv, zeroes, Nat.reduceSub, Int.reduceToNat, Nat.reduceMul, asInt?, asNat?, Int.reduceAdd, Int.reduceLE, Int.reduceLT, Int.reduceNeg, Nat.reduceLeDiff, VOpd.ev, Nat.reduceEqDiff, Nat.reduceAdd, reduceIte, reduceCtorEq, splice, resOf, tupOf, cellsV, AV.toV, AV.cell?, cellVal]
  refine wpF.mono (j_slices_Index_int h (hm []) n hlen) ?_
  rintro r s ⟨rfl, i, rfl, hd⟩
  refine ⟨keptA_nil _ _ _, ?_⟩
  simp only [hd, kB, kZ, kD, fillA, partsEv, zeroes, Nat.reduceSub, Int.reduceToNat, Nat.reduceMul, asInt?, asNat?, Int.reduceAdd, Int.reduceLE, Int.reduceLT, Int.reduceNeg, Nat.reduceLeDiff, VOpd.ev, Nat.reduceEqDiff, Nat.reduceAdd, reduceIte, reduceCtorEq, splice, resOf, tupOf, cellsV, AV.toV, AV.cell?, cellVal]
  first | exact ⟨_, rfl⟩ | exact ⟨rfl, _, rfl⟩ | exact ⟨trivial, _, rfl⟩ | exact ⟨[], (List.append_nil _).symm⟩
theorem j_r17_in (h : On X) {lo hi : Nat} {v : AV} {l : List Int} (hv : IntsAt st lo hi v l) (n : Int) (hlen : (l.length : Int) < 4611686018427387904) :
    J X.P X.F X.H (.call 58 [v, iA n] st (.ret (bA (decide (n ∈ l)))) st) := by
  refine pure_intro (by rw [h.F]; rfl) rfl ?_
  have l1 := hv.len
  simp only [List.length_map] at l1
  simp only [v_r17_in, kB, kZ, kD, fillA, partsEv, zeroes, Nat.reduceSub, Int.reduceToNat, Nat.reduceMul, asInt?, asNat?, Int.reduceAdd, Int.reduceLE, Int.reduceLT, Int.reduceNeg, Nat.reduceLeDiff, VOpd.ev, Nat.reduceEqDiff, Nat.reduceAdd, reduceIte, reduceCtorEq, splice, resOf, tupOf, cellsV, AV.toV, AV.cell?, cellVal]
  refine loop_live [0, 1] (fun m e => ∃ i : Nat, i + m = l.length ∧ e 5 = iA i ∧ ∀ j (hj : j < l.length), j < i → l[j] ≠ n) l.length ?_ ?_
  · exact ⟨0, by omega, by simp only [kB, kZ, kD, fillA, partsEv, zeroes, Nat.reduceSub, Int.reduceToNat, Nat.reduceMul, asInt?, asNat?, Int.reduceAdd, Int.reduceLE, Int.reduceLT, Int.reduceNeg, Nat.reduceLeDiff, VOpd.ev, Nat.reduceEqDiff, Nat.reduceAdd, reduceIte, reduceCtorEq, splice, resOf, tupOf, cellsV, AV.toV, AV.cell?, cellVal], fun j _ hj => absurd hj (by omega)⟩
  · intro m e hL ⟨i, him, h5, hpre⟩
    simp only [kB, kZ, kD, fillA, partsEv, zeroes, Nat.reduceSub, Int.reduceToNat, Nat.reduceMul, asInt?, asNat?, Int.reduceAdd, Int.reduceLE, Int.reduceLT, Int.reduceNeg, Nat.reduceLeDiff, VOpd.ev, Nat.reduceEqDiff, Nat.reduceAdd, reduceIte, reduceCtorEq, splice, resOf, tupOf, cellsV, AV.toV, AV.cell?, cellVal] at hL
    obtain ⟨h0, h1⟩ := hL
    simp only [h0, h1, h5, l1, kB, kZ, kD, fillA, partsEv, zeroes, Nat.reduceSub, Int.reduceToNat, Nat.reduceMul, asInt?, asNat?, Int.reduceAdd, Int.reduceLE, Int.reduceLT, Int.reduceNeg, Nat.reduceLeDiff, VOpd.ev, Nat.reduceEqDiff, Nat.reduceAdd, reduceIte, reduceCtorEq, splice, resOf, tupOf, cellsV, AV.toV, AV.cell?, cellVal]
    refine condO_intro ?_ ?_ <;> intro hc <;> simp only [kB, kZ, kD, fillA, partsEv, zeroes, Nat.reduceSub, Int.reduceToNat, Nat.reduceMul, asInt?, asNat?, Int.reduceAdd, Int.reduceLE, Int.reduceLT, Int.reduceNeg, Nat.reduceLeDiff, VOpd.ev, Nat.reduceEqDiff, Nat.reduceAdd, reduceIte, reduceCtorEq, splice, resOf, tupOf, cellsV, AV.toV, AV.cell?, cellVal]
    · have hi : i < l.length := by have := of_decide_eq_true hc; omega
      obtain ⟨b1, o1, he1, _, ha1, _⟩ := hv.get i (by simpa using hi)
      have a1 := ha1 [] 0 (by omega)
      simp only [List.getElem_map, Nat.add_zero, List.getElem?_cons_zero] at a1
      simp only [h0, h1, h5, he1, a1, kB, kZ, kD, fillA, partsEv, zeroes, Nat.reduceSub, Int.reduceToNat, Nat.reduceMul, asInt?, asNat?, Int.reduceAdd, Int.reduceLE, Int.reduceLT, Int.reduceNeg, Nat.reduceLeDiff, VOpd.ev, Nat.reduceEqDiff, Nat.reduceAdd, reduceIte, reduceCtorEq, splice, resOf, tupOf, cellsV, AV.toV, AV.cell?, cellVal]
      refine condO_intro ?_ ?_ <;> intro hq
      · have hq := of_decide_eq_true hq
        have hmem : decide (n ∈ l) = true := decide_eq_true (by rw [← hq]; exact List.getElem_mem hi)
        simp only [hmem, kB, kZ, kD, fillA, partsEv, zeroes, Nat.reduceSub, Int.reduceToNat, Nat.reduceMul, asInt?, asNat?, Int.reduceAdd, Int.reduceLE, Int.reduceLT, Int.reduceNeg, Nat.reduceLeDiff, VOpd.ev, Nat.reduceEqDiff, Nat.reduceAdd, reduceIte, reduceCtorEq, splice, resOf, tupOf, cellsV, AV.toV, AV.cell?, cellVal]
        first | exact ⟨_, rfl⟩ | exact ⟨rfl, _, rfl⟩ | exact ⟨trivial, _, rfl⟩ | exact ⟨[], (List.append_nil _).symm⟩
      · have hq := of_decide_eq_false hq
        simp only [h0, h1, h5, kB, kZ, kD, fillA, partsEv, zeroes, Nat.reduceSub, Int.reduceToNat, Nat.reduceMul, asInt?, asNat?, Int.reduceAdd, Int.reduceLE, Int.reduceLT, Int.reduceNeg, Nat.reduceLeDiff, VOpd.ev, Nat.reduceEqDiff, Nat.reduceAdd, reduceIte, reduceCtorEq, splice, resOf, tupOf, cellsV, AV.toV, AV.cell?, cellVal]
        rw [wrap_small (by omega) (by omega)]
        refine ⟨m - 1, by omega, i + 1, by omega, by simp, fun j hj hji => ?_⟩
        by_cases he : j = i
        · subst he; exact hq
        · exact hpre j hj (by omega)
    · have hi : i = l.length := by have := of_decide_eq_false hc; omega
      have hmem : decide (n ∈ l) = false := decide_eq_false (not_mem_take fun j hj => hpre j hj (by omega))
      simp only [hmem, kB, kZ, kD, fillA, partsEv, zeroes, Nat.reduceSub, Int.reduceToNat, Nat.reduceMul, asInt?, asNat?, Int.reduceAdd, Int.reduceLE, Int.reduceLT, Int.reduceNeg, Nat.reduceLeDiff, VOpd.ev, Nat.reduceEqDiff, Nat.reduceAdd, reduceIte, reduceCtorEq, splice, resOf, tupOf, cellsV, AV.toV, AV.cell?, cellVal]
      first | exact ⟨_, rfl⟩ | exact ⟨rfl, _, rfl⟩ | exact ⟨trivial, _, rfl⟩ | exact ⟨[], (List.append_nil _).symm⟩
theorem j_r17_Likely (h : On X) {lo hi lo' hi' : Nat} {v pv : AV} {U : UnitV} {P : List CntV} (hv : UnitAt st lo hi v U) (hp : CntsAt st lo' hi' pv P) (x : Nat) (hx : x < U.blocks.length) (hxp : x < P.length) :
    J X.P X.F X.H (.call 29 [v, pv, iA x] st (.ret (iA (likN U.blocks[x].e P[x]))) st) := by
  refine pure_intro (by rw [h.F]; rfl) rfl ?_
  obtain ⟨s, bl, rfl, hs, hb⟩ := hv
  obtain ⟨f, hb, hbo⟩ := hb
  obtain ⟨b1, o1, he1, hn1, ha1, hm1⟩ := hb.get x (by simpa using hx)
  obtain ⟨b2, o2, he2, hn2, ha2, hm2⟩ := hp.get x (by simpa using hxp)
  simp only [List.getElem_mapIdx, List.getElem_map, BlkV.row, CntV.row] at hn1 hn2 ha1 ha2 hm1 hm2
  have r1 := fun L => ha1 L 1 (by omega)
  simp only [kB, kZ, kD, fillA, partsEv, zeroes, Nat.reduceSub, Int.reduceToNat, Nat.reduceMul, asInt?, asNat?, Int.reduceAdd, Int.reduceLE, Int.reduceLT, Int.reduceNeg, Nat.reduceLeDiff, VOpd.ev, Nat.reduceEqDiff, Nat.reduceAdd, reduceIte, reduceCtorEq, splice, resOf, tupOf, cellsV, AV.toV, AV.cell?, cellVal] at r1
  generalize U.blocks[x] = B at *
  generalize P[x] = C at *
  unfold likN
  simp only [v_r17_Likely, he1, r1, he2, hn2, kB, kZ, kD, fillA, partsEv, zeroes, Nat.reduceSub, Int.reduceToNat, Nat.reduceMul, asInt?, asNat?, Int.reduceAdd, Int.reduceLE, Int.reduceLT, Int.reduceNeg, Nat.reduceLeDiff, VOpd.ev, Nat.reduceEqDiff, Nat.reduceAdd, reduceIte, reduceCtorEq, splice, resOf, tupOf, cellsV, AV.toV, AV.cell?, cellVal]
  refine condO_intro ?_ ?_ <;> intro hc
  · have hk : B.e.k = 1 := of_decide_eq_true hc
    simp only [hk, if_true, kB, kZ, kD, fillA, partsEv, zeroes, Nat.reduceSub, Int.reduceToNat, Nat.reduceMul, asInt?, asNat?, Int.reduceAdd, Int.reduceLE, Int.reduceLT, Int.reduceNeg, Nat.reduceLeDiff, VOpd.ev, Nat.reduceEqDiff, Nat.reduceAdd, reduceIte, reduceCtorEq, splice, resOf, tupOf, cellsV, AV.toV, AV.cell?, cellVal]
    refine condO_intro ?_ ?_ <;> intro hc2
    · have h2 : 0 < C.t := of_decide_eq_true hc2
      simp only [h2, if_true, kB, kZ, kD, fillA, partsEv, zeroes, Nat.reduceSub, Int.reduceToNat, Nat.reduceMul, asInt?, asNat?, Int.reduceAdd, Int.reduceLE, Int.reduceLT, Int.reduceNeg, Nat.reduceLeDiff, VOpd.ev, Nat.reduceEqDiff, Nat.reduceAdd, reduceIte, reduceCtorEq, splice, resOf, tupOf, cellsV, AV.toV, AV.cell?, cellVal]
      first | exact ⟨_, rfl⟩ | exact ⟨rfl, _, rfl⟩ | exact ⟨trivial, _, rfl⟩ | exact ⟨[], (List.append_nil _).symm⟩
    · have h2 : ¬ 0 < C.t := of_decide_eq_false hc2
      simp only [h2, if_false, kB, kZ, kD, fillA, partsEv, zeroes, Nat.reduceSub, Int.reduceToNat, Nat.reduceMul, asInt?, asNat?, Int.reduceAdd, Int.reduceLE, Int.reduceLT, Int.reduceNeg, Nat.reduceLeDiff, VOpd.ev, Nat.reduceEqDiff, Nat.reduceAdd, reduceIte, reduceCtorEq, splice, resOf, tupOf, cellsV, AV.toV, AV.cell?, cellVal]
      first | exact ⟨_, rfl⟩ | exact ⟨rfl, _, rfl⟩ | exact ⟨trivial, _, rfl⟩ | exact ⟨[], (List.append_nil _).symm⟩
  · have hk : ¬ B.e.k = 1 := of_decide_eq_false hc
    simp only [hk, if_false, kB, kZ, kD, fillA, partsEv, zeroes, Nat.reduceSub, Int.reduceToNat, Nat.reduceMul, asInt?, asNat?, Int.reduceAdd, Int.reduceLE, Int.reduceLT, Int.reduceNeg, Nat.reduceLeDiff, VOpd.ev, Nat.reduceEqDiff, Nat.reduceAdd, reduceIte, reduceCtorEq, splice, resOf, tupOf, cellsV, AV.toV, AV.cell?, cellVal]
    refine condO_intro ?_ ?_ <;> intro hc2
    · have hk2 : B.e.k = 2 := of_decide_eq_true hc2
      simp only [hk2, if_true, kB, kZ, kD, fillA, partsEv, zeroes, Nat.reduceSub, Int.reduceToNat, Nat.reduceMul, asInt?, asNat?, Int.reduceAdd, Int.reduceLE, Int.reduceLT, Int.reduceNeg, Nat.reduceLeDiff, VOpd.ev, Nat.reduceEqDiff, Nat.reduceAdd, reduceIte, reduceCtorEq, splice, resOf, tupOf, cellsV, AV.toV, AV.cell?, cellVal]
      by_cases h3 : C.e ≤ C.t
      · have h3' : ¬ C.t < C.e := by omega
        by_cases h4 : 0 < C.t
        · simp only [h3, h4, decide_true, and_self, if_true, kB, kZ, kD, fillA, partsEv, zeroes, Nat.reduceSub, Int.reduceToNat, Nat.reduceMul, asInt?, asNat?, Int.reduceAdd, Int.reduceLE, Int.reduceLT, Int.reduceNeg, Nat.reduceLeDiff, VOpd.ev, Nat.reduceEqDiff, Nat.reduceAdd, reduceIte, reduceCtorEq, splice, resOf, tupOf, cellsV, AV.toV, AV.cell?, cellVal]
          first | exact ⟨_, rfl⟩ | exact ⟨rfl, _, rfl⟩ | exact ⟨trivial, _, rfl⟩ | exact ⟨[], (List.append_nil _).symm⟩
        · simp only [h3, h3', h4, decide_true, decide_false, and_false, false_and, if_false, kB, kZ, kD, fillA, partsEv, zeroes, Nat.reduceSub, Int.reduceToNat, Nat.reduceMul, asInt?, asNat?, Int.reduceAdd, Int.reduceLE, Int.reduceLT, Int.reduceNeg, Nat.reduceLeDiff, VOpd.ev, Nat.reduceEqDiff, Nat.reduceAdd, reduceIte, reduceCtorEq, splice, resOf, tupOf, cellsV, AV.toV, AV.cell?, cellVal]
          first | exact ⟨_, rfl⟩ | exact ⟨rfl, _, rfl⟩ | exact ⟨trivial, _, rfl⟩ | exact ⟨[], (List.append_nil _).symm⟩
      · have h3' : C.t < C.e := by omega
        by_cases h4 : 0 < C.e
        · simp only [h3, h3', h4, decide_true, decide_false, and_self, false_and, if_true, if_false, kB, kZ, kD, fillA, partsEv, zeroes, Nat.reduceSub, Int.reduceToNat, Nat.reduceMul, asInt?, asNat?, Int.reduceAdd, Int.reduceLE, Int.reduceLT, Int.reduceNeg, Nat.reduceLeDiff, VOpd.ev, Nat.reduceEqDiff, Nat.reduceAdd, reduceIte, reduceCtorEq, splice, resOf, tupOf, cellsV, AV.toV, AV.cell?, cellVal]
          first | exact ⟨_, rfl⟩ | exact ⟨rfl, _, rfl⟩ | exact ⟨trivial, _, rfl⟩ | exact ⟨[], (List.append_nil _).symm⟩
        · simp only [h3, h3', h4, decide_true, decide_false, and_false, false_and, if_false, kB, kZ, kD, fillA, partsEv, zeroes, Nat.reduceSub, Int.reduceToNat, Nat.reduceMul, asInt?, asNat?, Int.reduceAdd, Int.reduceLE, Int.reduceLT, Int.reduceNeg, Nat.reduceLeDiff, VOpd.ev, Nat.reduceEqDiff, Nat.reduceAdd, reduceIte, reduceCtorEq, splice, resOf, tupOf, cellsV, AV.toV, AV.cell?, cellVal]
          first | exact ⟨_, rfl⟩ | exact ⟨rfl, _, rfl⟩ | exact ⟨trivial, _, rfl⟩ | exact ⟨[], (List.append_nil _).symm⟩
    · have hk2 : ¬ B.e.k = 2 := of_decide_eq_false hc2
      simp only [hk2, if_false, kB, kZ, kD, fillA, partsEv, zeroes, Nat.reduceSub, Int.reduceToNat, Nat.reduceMul, asInt?, asNat?, Int.reduceAdd, Int.reduceLE, Int.reduceLT, Int.reduceNeg, Nat.reduceLeDiff, VOpd.ev, Nat.reduceEqDiff, Nat.reduceAdd, reduceIte, reduceCtorEq, splice, resOf, tupOf, cellsV, AV.toV, AV.cell?, cellVal]
      first | exact ⟨_, rfl⟩ | exact ⟨rfl, _, rfl⟩ | exact ⟨trivial, _, rfl⟩ | exact ⟨[], (List.append_nil _).symm⟩
theorem j_trace_with (h : OnH X) (hg : GB st) {lo hi lo' hi' : Nat} {v pv : AV} {U : UnitV} {P : List CntV} (hv : UnitAt st lo hi v U) (hp : CntsAt st lo' hi' pv P) (b : Int) :
    J X.P X.F X.H (.call 49 [v, pv, iA b] st (.ret (iA (thereU U (decide ((P.length : Int) = U.blocks.length)) b))) st) := by
  refine pure_intro (by rw [h.F]; rfl) rfl ?_
  have hm := fun L => hv.mono L
  obtain ⟨s, bl, rfl, hs, hb⟩ := hv
  have l2 : lenA bl = some U.blocks.length := by
    obtain ⟨f, hb, _⟩ := hb
    have := hb.len
    simpa using this
  have l1 := hp.len
  simp only [List.length_map] at l1
  simp only [v_trace_with, l1, l2, kB, kZ, kD, fillA, partsEv, zeroes, Nat.reduceSub, Int.reduceToNat, Nat.reduceMul, asInt?, asNat?, Int.reduceAdd, Int.reduceLE, Int.reduceLT, Int.reduceNeg, Nat.reduceLeDiff, VOpd.ev, Nat.reduceEqDiff, Nat.reduceAdd, reduceIte, reduceCtorEq, splice, resOf, tupOf, cellsV, AV.toV, AV.cell?, cellVal]
  refine callO_same (j_code_Check h (hg.app _) (hm _)) ?_
  simp only [kB, kZ, kD, fillA, partsEv, zeroes, Nat.reduceSub, Int.reduceToNat, Nat.reduceMul, asInt?, asNat?, Int.reduceAdd, Int.reduceLE, Int.reduceLT, Int.reduceNeg, Nat.reduceLeDiff, VOpd.ev, Nat.reduceEqDiff, Nat.reduceAdd, reduceIte, reduceCtorEq, splice, resOf, tupOf, cellsV, AV.toV, AV.cell?, cellVal]
  refine condO_intro ?_ ?_ <;> intro hc
  · have hE : thereU U (decide ((P.length : Int) = U.blocks.length)) b = chkU U := by unfold thereU; rw [if_pos hc]
    simp only [hE, kB, kZ, kD, fillA, partsEv, zeroes, Nat.reduceSub, Int.reduceToNat, Nat.reduceMul, asInt?, asNat?, Int.reduceAdd, Int.reduceLE, Int.reduceLT, Int.reduceNeg, Nat.reduceLeDiff, VOpd.ev, Nat.reduceEqDiff, Nat.reduceAdd, reduceIte, reduceCtorEq, splice, resOf, tupOf, cellsV, AV.toV, AV.cell?, cellVal]
    first | exact ⟨_, rfl⟩ | exact ⟨rfl, _, rfl⟩ | exact ⟨trivial, _, rfl⟩ | exact ⟨[], (List.append_nil _).symm⟩
  · simp only [l1, l2, kB, kZ, kD, fillA, partsEv, zeroes, Nat.reduceSub, Int.reduceToNat, Nat.reduceMul, asInt?, asNat?, Int.reduceAdd, Int.reduceLE, Int.reduceLT, Int.reduceNeg, Nat.reduceLeDiff, VOpd.ev, Nat.reduceEqDiff, Nat.reduceAdd, reduceIte, reduceCtorEq, splice, resOf, tupOf, cellsV, AV.toV, AV.cell?, cellVal]
    refine condO_intro ?_ ?_ <;> intro hc2
    · have hne : decide ((P.length : Int) = U.blocks.length) = false := decide_eq_false (of_decide_eq_true hc2)
      have hE : thereU U (decide ((P.length : Int) = U.blocks.length)) b = 2 := by unfold thereU; rw [hne, if_neg (by rw [hc]; decide)]; rfl
      simp only [hE, kB, kZ, kD, fillA, partsEv, zeroes, Nat.reduceSub, Int.reduceToNat, Nat.reduceMul, asInt?, asNat?, Int.reduceAdd, Int.reduceLE, Int.reduceLT, Int.reduceNeg, Nat.reduceLeDiff, VOpd.ev, Nat.reduceEqDiff, Nat.reduceAdd, reduceIte, reduceCtorEq, splice, resOf, tupOf, cellsV, AV.toV, AV.cell?, cellVal]
      first | exact ⟨_, rfl⟩ | exact ⟨rfl, _, rfl⟩ | exact ⟨trivial, _, rfl⟩ | exact ⟨[], (List.append_nil _).symm⟩
    · have hne : decide ((P.length : Int) = U.blocks.length) = true := decide_eq_true (Decidable.not_not.1 (of_decide_eq_false hc2))
      rw [hne]
      simp only [kB, kZ, kD, fillA, partsEv, zeroes, Nat.reduceSub, Int.reduceToNat, Nat.reduceMul, asInt?, asNat?, Int.reduceAdd, Int.reduceLE, Int.reduceLT, Int.reduceNeg, Nat.reduceLeDiff, VOpd.ev, Nat.reduceEqDiff, Nat.reduceAdd, reduceIte, reduceCtorEq, splice, resOf, tupOf, cellsV, AV.toV, AV.cell?, cellVal]
      refine callO_same (j_trace_look h (hg.app _) (hm _) b) ?_
      simp only [kB, kZ, kD, fillA, partsEv, zeroes, Nat.reduceSub, Int.reduceToNat, Nat.reduceMul, asInt?, asNat?, Int.reduceAdd, Int.reduceLE, Int.reduceLT, Int.reduceNeg, Nat.reduceLeDiff, VOpd.ev, Nat.reduceEqDiff, Nat.reduceAdd, reduceIte, reduceCtorEq, splice, resOf, tupOf, cellsV, AV.toV, AV.cell?, cellVal]
      first | exact ⟨_, rfl⟩ | exact ⟨rfl, _, rfl⟩ | exact ⟨trivial, _, rfl⟩ | exact ⟨[], (List.append_nil _).symm⟩
end
end Go.VX.Seat
end
section
set_option linter.unusedVariables false
set_option linter.unusedSimpArgs false
set_option maxRecDepth 4000
/-! Traces. -/
namespace Go.VX.Seat
open Go.Proofs
/-- The block behind the last one of a trace. -/
def stepT (U : UnitV) (P : List CntV) (cx : Int) (out : List Int) (last : Nat) : Option Nat :=
  match U.blocks[last]?, P[last]? with
  | some B, some c => if 0 ≤ likN B.e c then
      match U.blocks[(toOf B.e (likN B.e c)).toNat]? with
      | some C => if C.catch_ = cx ∧ toOf B.e (likN B.e c) ∉ out then some (toOf B.e (likN B.e c)).toNat else none
      | none => none
    else none
  | _, _ => none
def traceK (U : UnitV) (P : List CntV) (cx : Int) : Nat → List Int → Nat → List Int
  | 0, out, _ => out
  | m + 1, out, last => match stepT U P cx out last with
    | none => out
    | some n => traceK U P cx m (out ++ [(n : Int)]) n
/-- How many numbers below N are not in a list. -/
def freeN (out : List Int) : Nat → Nat
  | 0 => 0
  | k + 1 => freeN out k + (if (k : Int) ∈ out then 0 else 1)
theorem freeN_le (out : List Int) : ∀ N, freeN out N ≤ N
  | 0 => Nat.le_refl _
  | k + 1 => by
    have := freeN_le out k
    unfold freeN
    split <;> omega
theorem freeN_mono (out : List Int) (n : Int) : ∀ N, freeN (out ++ [n]) N ≤ freeN out N
  | 0 => Nat.le_refl _
  | k + 1 => by
    have := freeN_mono out n k
    unfold freeN
    by_cases h : (k : Int) ∈ out
    · rw [if_pos h, if_pos (List.mem_append_left _ h)]; omega
    · rw [if_neg h]
      split <;> omega
theorem freeN_snoc (out : List Int) (n : Nat) (hn : (n : Int) ∉ out) : ∀ N, n < N → freeN (out ++ [(n : Int)]) N + 1 ≤ freeN out N
  | 0, h => absurd h (by omega)
  | k + 1, h => by
    unfold freeN
    by_cases hk : n = k
    · subst hk
      have := freeN_mono out n n
      rw [if_neg hn, if_pos (List.mem_append_right _ (by simp))]
      omega
    · have ih := freeN_snoc out n hn k (by omega)
      by_cases hm : (k : Int) ∈ out
      · rw [if_pos hm, if_pos (List.mem_append_left _ hm)]; omega
      · have hm2 : (k : Int) ∉ out ++ [(n : Int)] := fun h => by
          rcases List.mem_append.1 h with h | h
          · exact hm h
          · simp at h; omega
        rw [if_neg hm, if_neg hm2]; omega
theorem traceK_none {U : UnitV} {P : List CntV} {cx : Int} {m : Nat} {out : List Int} {last : Nat} (h : stepT U P cx out last = none) : traceK U P cx m out last = out := by
  cases m with
  | zero => rfl
  | succ m => unfold traceK; rw [h]
theorem traceK_some {U : UnitV} {P : List CntV} {cx : Int} {m : Nat} {out : List Int} {last n : Nat} (h : stepT U P cx out last = some n) (hm : 0 < m) : traceK U P cx m out last = traceK U P cx (m - 1) (out ++ [(n : Int)]) n := by
  cases m with
  | zero => omega
  | succ m => rw [traceK, h]; rfl
theorem stepT_no {U : UnitV} {P : List CntV} {cx : Int} {out : List Int} {last : Nat} (hx : last < U.blocks.length) (hxp : last < P.length) (h : ¬ 0 ≤ likN U.blocks[last].e P[last]) : stepT U P cx out last = none := by
  unfold stepT
  rw [List.getElem?_eq_getElem hx, List.getElem?_eq_getElem hxp]
  simp only
  rw [if_neg h]
theorem stepT_eq {U : UnitV} {P : List CntV} {cx : Int} {out : List Int} {last n : Nat} (hx : last < U.blocks.length) (hxp : last < P.length) (h : 0 ≤ likN U.blocks[last].e P[last]) (hn : n < U.blocks.length) (hto : toOf U.blocks[last].e (likN U.blocks[last].e P[last]) = n) :
    stepT U P cx out last = if U.blocks[n].catch_ = cx ∧ (n : Int) ∉ out then some n else none := by
  unfold stepT
  rw [List.getElem?_eq_getElem hx, List.getElem?_eq_getElem hxp]
  simp only
  rw [if_pos h, hto, Int.toNat_natCast, List.getElem?_eq_getElem hn]
theorem own_lit {S : St} {b lo esz ver : Nat} {rows : List (List AV)} (h : S[b]? = some ⟨rows.flatten, 0, ver⟩) (hr : ∀ r ∈ rows, r.length = esz) (hl : lo ≤ b) : OwnS S lo (.sl b 0 rows.length esz true) esz rows where
  arr := (ArrAt.ofBox h (by decide) hr rfl).wide' hl (by have := (List.getElem?_eq_some_iff.1 h).1; omega)
  bnd := fun b' hb => by cases hb; exact ⟨hl, (List.getElem?_eq_some_iff.1 h).1⟩
  app := fun b o n e full h => (by cases h; exact .inl rfl)
section
variable {X : Cx} {st : St}
theorem w_trace_trace (h : On X) {lo hi lo' hi' : Nat} {v pv : AV} {U : UnitV} {P : List CntV} (hv : UnitAt st lo hi v U) (hp : CntsAt st lo' hi' pv P) (wf : Wf U) (hPN : P.length = U.blocks.length) (x : Nat) (hx : x < U.blocks.length) :
    wpF X 57 [v, pv, iA x] st fun r s => ∃ w, r = .ret w ∧ NewInts st s w (traceK U P U.blocks[x].catch_ U.blocks.length [(x : Int)] x) := by
  refine wpF_go (fn := v_trace_trace) (by rw [h.F]; rfl) ?_
  have hm := fun L => hv.mono L
  have hmp := fun L => ArrAt.mono hp L
  have hnb := wf.nb
  obtain ⟨s, bl, rfl, hs, hb⟩ := hv
  simp only [v_trace_trace, kB, kZ, kD, fillA, partsEv, zeroes, Nat.reduceSub, Int.reduceToNat, Nat.reduceMul, asInt?, asNat?, Int.reduceAdd, Int.reduceLE, Int.reduceLT, Int.reduceNeg, Nat.reduceLeDiff, VOpd.ev, Nat.reduceEqDiff, Nat.reduceAdd, reduceIte, reduceCtorEq, splice, resOf, tupOf, cellsV, AV.toV, AV.cell?, cellVal]
  refine loop_inv (fun m e S => ∃ (out : List Int) (last : Nat), e 1 = pv ∧ e 2 = iA last ∧ e 3 = .ptr (st.length + 0) 0 ∧ (∃ L, S = st ++ (⟨[s, iA U.params, iA U.regs, iA U.code, iA U.spill, bl], 0, 0⟩ :: L : St)) ∧
    OwnS S (st.length + 1) (e 7) 1 (out.map fun n => [iA n]) ∧ (∃ hl : last < U.blocks.length, U.blocks[last].catch_ = U.blocks[x].catch_) ∧ freeN out U.blocks.length ≤ m ∧ out.length + m ≤ U.blocks.length + 1 ∧
    traceK U P U.blocks[x].catch_ m out last = traceK U P U.blocks[x].catch_ U.blocks.length [(x : Int)] x) ?_ U.blocks.length ?_
  case refine_2 =>
    refine ⟨[(x : Int)], x, by simp only [kB, kZ, kD, fillA, partsEv, zeroes, Nat.reduceSub, Int.reduceToNat, Nat.reduceMul, asInt?, asNat?, Int.reduceAdd, Int.reduceLE, Int.reduceLT, Int.reduceNeg, Nat.reduceLeDiff, VOpd.ev, Nat.reduceEqDiff, Nat.reduceAdd, reduceIte, reduceCtorEq, splice, resOf, tupOf, cellsV, AV.toV, AV.cell?, cellVal], by simp only [kB, kZ, kD, fillA, partsEv, zeroes, Nat.reduceSub, Int.reduceToNat, Nat.reduceMul, asInt?, asNat?, Int.reduceAdd, Int.reduceLE, Int.reduceLT, Int.reduceNeg, Nat.reduceLeDiff, VOpd.ev, Nat.reduceEqDiff, Nat.reduceAdd, reduceIte, reduceCtorEq, splice, resOf, tupOf, cellsV, AV.toV, AV.cell?, cellVal], by simp only [kB, kZ, kD, fillA, partsEv, zeroes, Nat.reduceSub, Int.reduceToNat, Nat.reduceMul, asInt?, asNat?, Int.reduceAdd, Int.reduceLE, Int.reduceLT, Int.reduceNeg, Nat.reduceLeDiff, VOpd.ev, Nat.reduceEqDiff, Nat.reduceAdd, reduceIte, reduceCtorEq, splice, resOf, tupOf, cellsV, AV.toV, AV.cell?, cellVal], ⟨[⟨[iA x], 0, 0⟩], rfl⟩, ?_, ⟨hx, rfl⟩, freeN_le _ _, by simp; omega, rfl⟩
    simp only [kB, kZ, kD, fillA, partsEv, zeroes, Nat.reduceSub, Int.reduceToNat, Nat.reduceMul, asInt?, asNat?, Int.reduceAdd, Int.reduceLE, Int.reduceLT, Int.reduceNeg, Nat.reduceLeDiff, VOpd.ev, Nat.reduceEqDiff, Nat.reduceAdd, reduceIte, reduceCtorEq, splice, resOf, tupOf, cellsV, AV.toV, AV.cell?, cellVal]
    exact own_lit (rows := [[iA x]]) (b := st.length + 1) (ver := 0) (by rw [List.getElem?_append_right (by omega), Nat.add_sub_cancel_left]; rfl) (by simp) (Nat.le_refl _)
  rintro m e S ⟨out, last, e1, e2, e3, ⟨L, rfl⟩, hw, ⟨hl, hcat⟩, hfr, hlen, hT⟩
  have hlp : last < P.length := by omega
  have hvS := hm (⟨[s, iA U.params, iA U.regs, iA U.code, iA U.spill, bl], 0, 0⟩ :: L)
  have hpS := hmp (⟨[s, iA U.params, iA U.regs, iA U.code, iA U.spill, bl], 0, 0⟩ :: L)
  generalize e7 : e 7 = w at hw
  have hend := (wf.blk _ (List.getElem_mem hl)).end_
  simp only [e1, e2, e3, e7, kB, kZ, kD, fillA, partsEv, zeroes, Nat.reduceSub, Int.reduceToNat, Nat.reduceMul, asInt?, asNat?, Int.reduceAdd, Int.reduceLE, Int.reduceLT, Int.reduceNeg, Nat.reduceLeDiff, VOpd.ev, Nat.reduceEqDiff, Nat.reduceAdd, reduceIte, reduceCtorEq, splice, resOf, tupOf, cellsV, AV.toV, AV.cell?, cellVal]
  refine callO_same (j_trace_likely h hvS hpS last hl hlp) ?_
  simp only [kB, kZ, kD, fillA, partsEv, zeroes, Nat.reduceSub, Int.reduceToNat, Nat.reduceMul, asInt?, asNat?, Int.reduceAdd, Int.reduceLE, Int.reduceLT, Int.reduceNeg, Nat.reduceLeDiff, VOpd.ev, Nat.reduceEqDiff, Nat.reduceAdd, reduceIte, reduceCtorEq, splice, resOf, tupOf, cellsV, AV.toV, AV.cell?, cellVal]
  have hB := likB_eq U.blocks[last].e P[last]
  by_cases hlik : 0 ≤ likN U.blocks[last].e P[last]
  case neg =>
    rw [decide_eq_false hlik] at hB
    have hst := stepT_no (cx := U.blocks[x].catch_) (out := out) hl hlp hlik
    rw [traceK_none hst] at hT
    simp only [hB, e7, kB, kZ, kD, fillA, partsEv, zeroes, Nat.reduceSub, Int.reduceToNat, Nat.reduceMul, asInt?, asNat?, Int.reduceAdd, Int.reduceLE, Int.reduceLT, Int.reduceNeg, Nat.reduceLeDiff, VOpd.ev, Nat.reduceEqDiff, Nat.reduceAdd, reduceIte, reduceCtorEq, splice, resOf, tupOf, cellsV, AV.toV, AV.cell?, cellVal]
    rw [← hT]
    exact ⟨⟨_, rfl⟩, hw.low (by omega)⟩
  rw [decide_eq_true hlik] at hB
  have hW := likN_way U.blocks[last].e P[last]
  rw [decide_eq_true hlik] at hW
  have hI := likI_eq _ _ hlik
  obtain ⟨n, hn, hto⟩ := isWay_to hend hW
  have hst := stepT_eq (cx := U.blocks[x].catch_) (out := out) hl hlp hlik hn hto
  simp only [hB, hI, e1, e2, e3, e7, kB, kZ, kD, fillA, partsEv, zeroes, Nat.reduceSub, Int.reduceToNat, Nat.reduceMul, asInt?, asNat?, Int.reduceAdd, Int.reduceLE, Int.reduceLT, Int.reduceNeg, Nat.reduceLeDiff, VOpd.ev, Nat.reduceEqDiff, Nat.reduceAdd, reduceIte, reduceCtorEq, splice, resOf, tupOf, cellsV, AV.toV, AV.cell?, cellVal]
  refine callO_same (j_trace_next h hvS last hl _ (likN_range _ _ hlik) n hn (fun _ => hto)) ?_
  rw [hcat, hW]
  by_cases hc : U.blocks[n].catch_ = U.blocks[x].catch_
  case neg =>
    rw [if_neg (fun h => hc h.1)] at hst
    rw [traceK_none hst] at hT
    have hd : decide (U.blocks[n].catch_ = U.blocks[x].catch_) = false := decide_eq_false hc
    simp only [hd, e7, kB, kZ, kD, fillA, partsEv, zeroes, Nat.reduceSub, Int.reduceToNat, Nat.reduceMul, asInt?, asNat?, Int.reduceAdd, Int.reduceLE, Int.reduceLT, Int.reduceNeg, Nat.reduceLeDiff, VOpd.ev, Nat.reduceEqDiff, Nat.reduceAdd, reduceIte, reduceCtorEq, splice, resOf, tupOf, cellsV, AV.toV, AV.cell?, cellVal]
    rw [← hT]
    exact ⟨⟨_, rfl⟩, hw.low (by omega)⟩
  have hd : decide (U.blocks[n].catch_ = U.blocks[x].catch_) = true := decide_eq_true hc
  simp only [hd, e7, kB, kZ, kD, fillA, partsEv, zeroes, Nat.reduceSub, Int.reduceToNat, Nat.reduceMul, asInt?, asNat?, Int.reduceAdd, Int.reduceLE, Int.reduceLT, Int.reduceNeg, Nat.reduceLeDiff, VOpd.ev, Nat.reduceEqDiff, Nat.reduceAdd, reduceIte, reduceCtorEq, splice, resOf, tupOf, cellsV, AV.toV, AV.cell?, cellVal]
  refine callO_same (j_Contains h hw.arr (n : Int) (by omega)) ?_
  by_cases hmem : (n : Int) ∈ out
  · rw [if_neg (fun h => h.2 hmem)] at hst
    rw [traceK_none hst] at hT
    have hdm : decide ((n : Int) ∈ out) = true := decide_eq_true hmem
    simp only [hdm, e7, kB, kZ, kD, fillA, partsEv, zeroes, Nat.reduceSub, Int.reduceToNat, Nat.reduceMul, asInt?, asNat?, Int.reduceAdd, Int.reduceLE, Int.reduceLT, Int.reduceNeg, Nat.reduceLeDiff, VOpd.ev, Nat.reduceEqDiff, Nat.reduceAdd, reduceIte, reduceCtorEq, splice, resOf, tupOf, cellsV, AV.toV, AV.cell?, cellVal]
    rw [← hT]
    exact ⟨⟨_, rfl⟩, hw.low (by omega)⟩
  have hdm : decide ((n : Int) ∈ out) = false := decide_eq_false hmem
  rw [if_pos ⟨hc, hmem⟩] at hst
  have hsn := freeN_snoc out n hmem _ hn
  have hm1 : 0 < m := by omega
  rw [traceK_some hst hm1] at hT
  simp only [hdm, e7, kB, kZ, kD, fillA, partsEv, zeroes, Nat.reduceSub, Int.reduceToNat, Nat.reduceMul, asInt?, asNat?, Int.reduceAdd, Int.reduceLE, Int.reduceLT, Int.reduceNeg, Nat.reduceLeDiff, VOpd.ev, Nat.reduceEqDiff, Nat.reduceAdd, reduceIte, reduceCtorEq, splice, resOf, tupOf, cellsV, AV.toV, AV.cell?, cellVal]
  refine opR_push (S := st ++ (⟨[s, iA U.params, iA U.regs, iA U.code, iA U.spill, bl], 0, 0⟩ :: L : St)) (lo := st.length + 1) (l := out) (vx := w) (b := st.length + (L.length + 1)) (n : Int) ?_ ?_ ?_ ?_ hw ?_ (by omega) ?_
  · simp
  · simp
  · simp only [e7, kB, kZ, kD, fillA, partsEv, zeroes, Nat.reduceSub, Int.reduceToNat, Nat.reduceMul, asInt?, asNat?, Int.reduceAdd, Int.reduceLE, Int.reduceLT, Int.reduceNeg, Nat.reduceLeDiff, VOpd.ev, Nat.reduceEqDiff, Nat.reduceAdd, reduceIte, reduceCtorEq, splice, resOf, tupOf, cellsV, AV.toV, AV.cell?, cellVal]
  · simp only [kB, kZ, kD, fillA, partsEv, zeroes, Nat.reduceSub, Int.reduceToNat, Nat.reduceMul, asInt?, asNat?, Int.reduceAdd, Int.reduceLE, Int.reduceLT, Int.reduceNeg, Nat.reduceLeDiff, VOpd.ev, Nat.reduceEqDiff, Nat.reduceAdd, reduceIte, reduceCtorEq, splice, resOf, tupOf, cellsV, AV.toV, AV.cell?, cellVal]
  · simp only [List.length_append, List.length_cons]; omega
  intro w2 S2 hag hw2
  have hsh := (hag.mono (Y := fun b => st.length + 1 ≤ b) (fun b _ hb => (hw.bnd b hb).1)).shape (st := st) (M := [⟨[s, iA U.params, iA U.regs, iA U.code, iA U.spill, bl], 0, 0⟩]) (N := L) (fun b hb => hb)
  simp only [e1, e3, kB, kZ, kD, fillA, partsEv, zeroes, Nat.reduceSub, Int.reduceToNat, Nat.reduceMul, asInt?, asNat?, Int.reduceAdd, Int.reduceLE, Int.reduceLT, Int.reduceNeg, Nat.reduceLeDiff, VOpd.ev, Nat.reduceEqDiff, Nat.reduceAdd, reduceIte, reduceCtorEq, splice, resOf, tupOf, cellsV, AV.toV, AV.cell?, cellVal]
  exact ⟨m - 1, by omega, out ++ [(n : Int)], n, rfl, hsh, hw2, ⟨hn, hc⟩, by omega, by simp; omega, hT⟩
end
end Go.VX.Seat
end
section
set_option linter.unusedVariables false
set_option linter.unusedSimpArgs false
set_option maxRecDepth 4000
/-! biremeref17.Trace. -/
namespace Go.VX.Seat
open Go.Proofs
section
variable {X : Cx} {st : St}
theorem w_r17_Trace (h : On X) {lo hi lo' hi' : Nat} {v pv : AV} {U : UnitV} {P : List CntV} (hv : UnitAt st lo hi v U) (hp : CntsAt st lo' hi' pv P) (wf : Wf U) (hPN : P.length = U.blocks.length) (x : Nat) (hx : x < U.blocks.length) :
    wpF X 30 [v, pv, iA x] st fun r s => ∃ w, r = .ret w ∧ NewInts st s w (traceK U P U.blocks[x].catch_ U.blocks.length [(x : Int)] x) := by
  refine wpF_go (fn := v_r17_Trace) (by rw [h.F]; rfl) ?_
  have hm := fun L => hv.mono L
  have hmp := fun L => ArrAt.mono hp L
  have hnb := wf.nb
  obtain ⟨s, bl, rfl, hs, hb⟩ := hv
  obtain ⟨f, hb1, hbo⟩ := hb
  obtain ⟨bx, ox, hex, _, hax, _⟩ := hb1.get x (by simpa using hx)
  have qx := fun L => hax L 5 (by omega)
  simp only [List.getElem_mapIdx, BlkV.row, kB, kZ, kD, fillA, partsEv, zeroes, Nat.reduceSub, Int.reduceToNat, Nat.reduceMul, asInt?, asNat?, Int.reduceAdd, Int.reduceLE, Int.reduceLT, Int.reduceNeg, Nat.reduceLeDiff, VOpd.ev, Nat.reduceEqDiff, Nat.reduceAdd, reduceIte, reduceCtorEq, splice, resOf, tupOf, cellsV, AV.toV, AV.cell?, cellVal] at qx
  simp only [v_r17_Trace, kB, kZ, kD, fillA, partsEv, zeroes, Nat.reduceSub, Int.reduceToNat, Nat.reduceMul, asInt?, asNat?, Int.reduceAdd, Int.reduceLE, Int.reduceLT, Int.reduceNeg, Nat.reduceLeDiff, VOpd.ev, Nat.reduceEqDiff, Nat.reduceAdd, reduceIte, reduceCtorEq, splice, resOf, tupOf, cellsV, AV.toV, AV.cell?, cellVal]
  refine loop_inv (fun m e S => ∃ (out : List Int) (last k : Nat), e 1 = pv ∧ e 2 = iA x ∧ e 3 = .ptr (st.length + 0) 0 ∧ (∃ L, S = st ++ (⟨[s, iA U.params, iA U.regs, iA U.code, iA U.spill, bl], 0, 0⟩ :: L : St)) ∧
    OwnS S (st.length + 1) (e 7) 1 (out.map fun n => [iA n]) ∧ (out.length = k + 1 ∧ out[k]? = some (last : Int)) ∧ last < U.blocks.length ∧ freeN out U.blocks.length ≤ m ∧ out.length + m ≤ U.blocks.length + 1 ∧
    traceK U P U.blocks[x].catch_ m out last = traceK U P U.blocks[x].catch_ U.blocks.length [(x : Int)] x) ?_ U.blocks.length ?_
  case refine_2 =>
    refine ⟨[(x : Int)], x, 0, by simp only [kB, kZ, kD, fillA, partsEv, zeroes, Nat.reduceSub, Int.reduceToNat, Nat.reduceMul, asInt?, asNat?, Int.reduceAdd, Int.reduceLE, Int.reduceLT, Int.reduceNeg, Nat.reduceLeDiff, VOpd.ev, Nat.reduceEqDiff, Nat.reduceAdd, reduceIte, reduceCtorEq, splice, resOf, tupOf, cellsV, AV.toV, AV.cell?, cellVal], by simp only [kB, kZ, kD, fillA, partsEv, zeroes, Nat.reduceSub, Int.reduceToNat, Nat.reduceMul, asInt?, asNat?, Int.reduceAdd, Int.reduceLE, Int.reduceLT, Int.reduceNeg, Nat.reduceLeDiff, VOpd.ev, Nat.reduceEqDiff, Nat.reduceAdd, reduceIte, reduceCtorEq, splice, resOf, tupOf, cellsV, AV.toV, AV.cell?, cellVal], by simp only [kB, kZ, kD, fillA, partsEv, zeroes, Nat.reduceSub, Int.reduceToNat, Nat.reduceMul, asInt?, asNat?, Int.reduceAdd, Int.reduceLE, Int.reduceLT, Int.reduceNeg, Nat.reduceLeDiff, VOpd.ev, Nat.reduceEqDiff, Nat.reduceAdd, reduceIte, reduceCtorEq, splice, resOf, tupOf, cellsV, AV.toV, AV.cell?, cellVal], ⟨[⟨[iA x], 0, 0⟩], rfl⟩, ?_, ⟨rfl, rfl⟩, hx, freeN_le _ _, by simp; omega, rfl⟩
    simp only [kB, kZ, kD, fillA, partsEv, zeroes, Nat.reduceSub, Int.reduceToNat, Nat.reduceMul, asInt?, asNat?, Int.reduceAdd, Int.reduceLE, Int.reduceLT, Int.reduceNeg, Nat.reduceLeDiff, VOpd.ev, Nat.reduceEqDiff, Nat.reduceAdd, reduceIte, reduceCtorEq, splice, resOf, tupOf, cellsV, AV.toV, AV.cell?, cellVal]
    exact own_lit (rows := [[iA x]]) (b := st.length + 1) (ver := 0) (by rw [List.getElem?_append_right (by omega), Nat.add_sub_cancel_left]; rfl) (by simp) (Nat.le_refl _)
  rintro m e S ⟨out, last, k, e1, e2, e3, ⟨L, rfl⟩, hw, ⟨hk, hlast⟩, hl, hfr, hlen, hT⟩
  have hlp : last < P.length := by omega
  have hvS := hm (⟨[s, iA U.params, iA U.regs, iA U.code, iA U.spill, bl], 0, 0⟩ :: L)
  have hpS := hmp (⟨[s, iA U.params, iA U.regs, iA U.code, iA U.spill, bl], 0, 0⟩ :: L)
  generalize e7 : e 7 = w at hw
  have hend := (wf.blk _ (List.getElem_mem hl)).end_
  obtain ⟨b1, o1, he1, _, _, hm1⟩ := hb1.get last (by simpa using hl)
  have r1 := fun L => hm1 L 1 4 (by omega)
  simp only [List.getElem_mapIdx, BlkV.row, kB, kZ, kD, fillA, partsEv, zeroes, Nat.reduceSub, Int.reduceToNat, Nat.reduceMul, asInt?, asNat?, Int.reduceAdd, Int.reduceLE, Int.reduceLT, Int.reduceNeg, Nat.reduceLeDiff, VOpd.ev, Nat.reduceEqDiff, Nat.reduceAdd, reduceIte, reduceCtorEq, splice, resOf, tupOf, cellsV, AV.toV, AV.cell?, cellVal] at r1
  have hwl := hw.arr.len
  simp only [List.length_map] at hwl
  have hsub : IntKind.wrap .i64 ((out.length : Int) - 1) = (k : Int) := by
    rw [wrap_small (by omega) (by omega)]; omega
  obtain ⟨bk, ok, hek, hnk, hak, _⟩ := hw.arr.get k (by simp; omega)
  have ak := hak [] 0 (by omega)
  have hgk : out[k]'(by omega) = (last : Int) := by
    rw [List.getElem?_eq_getElem (by omega)] at hlast
    exact Option.some.inj hlast
  simp only [List.getElem_map, Nat.add_zero, List.getElem?_cons_zero, List.append_nil, hgk] at ak
  simp only [e1, e2, e3, e7, hwl, hsub, hek, ak, he1, r1, kB, kZ, kD, fillA, partsEv, zeroes, Nat.reduceSub, Int.reduceToNat, Nat.reduceMul, asInt?, asNat?, Int.reduceAdd, Int.reduceLE, Int.reduceLT, Int.reduceNeg, Nat.reduceLeDiff, VOpd.ev, Nat.reduceEqDiff, Nat.reduceAdd, reduceIte, reduceCtorEq, splice, resOf, tupOf, cellsV, AV.toV, AV.cell?, cellVal]
  refine callO_same (j_r17_Likely h hvS hpS last hl hlp) ?_
  simp only [kB, kZ, kD, fillA, partsEv, zeroes, Nat.reduceSub, Int.reduceToNat, Nat.reduceMul, asInt?, asNat?, Int.reduceAdd, Int.reduceLE, Int.reduceLT, Int.reduceNeg, Nat.reduceLeDiff, VOpd.ev, Nat.reduceEqDiff, Nat.reduceAdd, reduceIte, reduceCtorEq, splice, resOf, tupOf, cellsV, AV.toV, AV.cell?, cellVal]
  refine callO_same (j_r17_Next h _ _ _ _ _) ?_
  have hw0 : (wayTo U.blocks[last].e.k (likN U.blocks[last].e P[last]) || wayElse U.blocks[last].e.k (likN U.blocks[last].e P[last])) = decide (0 ≤ likN U.blocks[last].e P[last]) := likN_way _ _
  have ht0 : (if wayTo U.blocks[last].e.k (likN U.blocks[last].e P[last]) then U.blocks[last].e.t else if wayElse U.blocks[last].e.k (likN U.blocks[last].e P[last]) then U.blocks[last].e.e else 0) = toOf U.blocks[last].e (likN U.blocks[last].e P[last]) := rfl
  rw [hw0, ht0]
  by_cases hlik : 0 ≤ likN U.blocks[last].e P[last]
  case neg =>
    have hst := stepT_no (cx := U.blocks[x].catch_) (out := out) hl hlp hlik
    rw [traceK_none hst] at hT
    have hd := decide_eq_false hlik
    simp only [hd, e7, kB, kZ, kD, fillA, partsEv, zeroes, Nat.reduceSub, Int.reduceToNat, Nat.reduceMul, asInt?, asNat?, Int.reduceAdd, Int.reduceLE, Int.reduceLT, Int.reduceNeg, Nat.reduceLeDiff, VOpd.ev, Nat.reduceEqDiff, Nat.reduceAdd, reduceIte, reduceCtorEq, splice, resOf, tupOf, cellsV, AV.toV, AV.cell?, cellVal]
    rw [← hT]
    exact ⟨⟨_, rfl⟩, hw.low (by omega)⟩
  have hW := likN_way U.blocks[last].e P[last]
  have hdl := decide_eq_true hlik
  rw [hdl] at hW
  obtain ⟨n, hn, hto⟩ := isWay_to hend hW
  have hst := stepT_eq (cx := U.blocks[x].catch_) (out := out) hl hlp hlik hn hto
  obtain ⟨bn, on, hen, _, han, _⟩ := hb1.get n (by simpa using hn)
  have qn := fun L => han L 5 (by omega)
  simp only [List.getElem_mapIdx, BlkV.row, kB, kZ, kD, fillA, partsEv, zeroes, Nat.reduceSub, Int.reduceToNat, Nat.reduceMul, asInt?, asNat?, Int.reduceAdd, Int.reduceLE, Int.reduceLT, Int.reduceNeg, Nat.reduceLeDiff, VOpd.ev, Nat.reduceEqDiff, Nat.reduceAdd, reduceIte, reduceCtorEq, splice, resOf, tupOf, cellsV, AV.toV, AV.cell?, cellVal] at qn
  by_cases hc : U.blocks[n].catch_ = U.blocks[x].catch_
  case neg =>
    rw [if_neg (fun h => hc h.1)] at hst
    rw [traceK_none hst] at hT
    have hd : decide (U.blocks[n].catch_ ≠ U.blocks[x].catch_) = true := decide_eq_true hc
    simp only [hdl, hto, hen, hex, qn, qx, hd, e2, e3, e7, kB, kZ, kD, fillA, partsEv, zeroes, Nat.reduceSub, Int.reduceToNat, Nat.reduceMul, asInt?, asNat?, Int.reduceAdd, Int.reduceLE, Int.reduceLT, Int.reduceNeg, Nat.reduceLeDiff, VOpd.ev, Nat.reduceEqDiff, Nat.reduceAdd, reduceIte, reduceCtorEq, splice, resOf, tupOf, cellsV, AV.toV, AV.cell?, cellVal]
    rw [← hT]
    exact ⟨⟨_, rfl⟩, hw.low (by omega)⟩
  have hd : decide (U.blocks[n].catch_ ≠ U.blocks[x].catch_) = false := decide_eq_false fun h => h hc
  simp only [hdl, hto, hen, hex, qn, qx, hd, e2, e3, e7, kB, kZ, kD, fillA, partsEv, zeroes, Nat.reduceSub, Int.reduceToNat, Nat.reduceMul, asInt?, asNat?, Int.reduceAdd, Int.reduceLE, Int.reduceLT, Int.reduceNeg, Nat.reduceLeDiff, VOpd.ev, Nat.reduceEqDiff, Nat.reduceAdd, reduceIte, reduceCtorEq, splice, resOf, tupOf, cellsV, AV.toV, AV.cell?, cellVal]
  refine callO_same (j_r17_in h hw.arr (n : Int) (by omega)) ?_
  by_cases hmem : (n : Int) ∈ out
  · rw [if_neg (fun h => h.2 hmem)] at hst
    rw [traceK_none hst] at hT
    have hdm : decide ((n : Int) ∈ out) = true := decide_eq_true hmem
    simp only [hdm, e7, kB, kZ, kD, fillA, partsEv, zeroes, Nat.reduceSub, Int.reduceToNat, Nat.reduceMul, asInt?, asNat?, Int.reduceAdd, Int.reduceLE, Int.reduceLT, Int.reduceNeg, Nat.reduceLeDiff, VOpd.ev, Nat.reduceEqDiff, Nat.reduceAdd, reduceIte, reduceCtorEq, splice, resOf, tupOf, cellsV, AV.toV, AV.cell?, cellVal]
    rw [← hT]
    exact ⟨⟨_, rfl⟩, hw.low (by omega)⟩
  have hdm : decide ((n : Int) ∈ out) = false := decide_eq_false hmem
  rw [if_pos ⟨hc, hmem⟩] at hst
  have hsn := freeN_snoc out n hmem _ hn
  have hm1 : 0 < m := by omega
  rw [traceK_some hst hm1] at hT
  simp only [hdm, e7, kB, kZ, kD, fillA, partsEv, zeroes, Nat.reduceSub, Int.reduceToNat, Nat.reduceMul, asInt?, asNat?, Int.reduceAdd, Int.reduceLE, Int.reduceLT, Int.reduceNeg, Nat.reduceLeDiff, VOpd.ev, Nat.reduceEqDiff, Nat.reduceAdd, reduceIte, reduceCtorEq, splice, resOf, tupOf, cellsV, AV.toV, AV.cell?, cellVal]
  refine opR_push (S := st ++ (⟨[s, iA U.params, iA U.regs, iA U.code, iA U.spill, bl], 0, 0⟩ :: L : St)) (lo := st.length + 1) (l := out) (vx := w) (b := st.length + (L.length + 1)) (n : Int) ?_ ?_ ?_ ?_ hw ?_ (by omega) ?_
  · simp
  · simp
  · simp only [e7, kB, kZ, kD, fillA, partsEv, zeroes, Nat.reduceSub, Int.reduceToNat, Nat.reduceMul, asInt?, asNat?, Int.reduceAdd, Int.reduceLE, Int.reduceLT, Int.reduceNeg, Nat.reduceLeDiff, VOpd.ev, Nat.reduceEqDiff, Nat.reduceAdd, reduceIte, reduceCtorEq, splice, resOf, tupOf, cellsV, AV.toV, AV.cell?, cellVal]
  · simp only [kB, kZ, kD, fillA, partsEv, zeroes, Nat.reduceSub, Int.reduceToNat, Nat.reduceMul, asInt?, asNat?, Int.reduceAdd, Int.reduceLE, Int.reduceLT, Int.reduceNeg, Nat.reduceLeDiff, VOpd.ev, Nat.reduceEqDiff, Nat.reduceAdd, reduceIte, reduceCtorEq, splice, resOf, tupOf, cellsV, AV.toV, AV.cell?, cellVal]
  · simp only [List.length_append, List.length_cons]; omega
  intro w2 S2 hag hw2
  have hsh := (hag.mono (Y := fun b => st.length + 1 ≤ b) (fun b _ hb => (hw.bnd b hb).1)).shape (st := st) (M := [⟨[s, iA U.params, iA U.regs, iA U.code, iA U.spill, bl], 0, 0⟩]) (N := L) (fun b hb => hb)
  simp only [e1, e2, e3, kB, kZ, kD, fillA, partsEv, zeroes, Nat.reduceSub, Int.reduceToNat, Nat.reduceMul, asInt?, asNat?, Int.reduceAdd, Int.reduceLE, Int.reduceLT, Int.reduceNeg, Nat.reduceLeDiff, VOpd.ev, Nat.reduceEqDiff, Nat.reduceAdd, reduceIte, reduceCtorEq, splice, resOf, tupOf, cellsV, AV.toV, AV.cell?, cellVal]
  exact ⟨m - 1, by omega, out ++ [(n : Int)], n, k + 1, hsh, hw2, ⟨by simp; omega, by rw [List.getElem?_append_right (by omega), hk, Nat.sub_self]; rfl⟩, hn, by omega, by simp; omega, hT⟩
end
end Go.VX.Seat
end
section
set_option linter.unusedVariables false
set_option linter.unusedSimpArgs false
set_option maxRecDepth 4000
/-! trace.Likely, trace.Trace; the law TraceLikely. -/
namespace Go.VX.Seat
open Go.Proofs
def CAt (S : St) (v : AV) (l : List CntV) : Prop := ∃ lo hi, CntsAt S lo hi v l
theorem UAt.mono {S : St} {v : AV} {U : UnitV} (h : UAt S v U) (L : St) : UAt (S ++ L) v U := let ⟨lo, hi, h⟩ := h; ⟨lo, hi, h.mono L⟩
theorem CAt.mono {S : St} {v : AV} {l : List CntV} (h : CAt S v l) (L : St) : CAt (S ++ L) v l := let ⟨lo, hi, h⟩ := h; ⟨lo, hi, ArrAt.mono h L⟩
theorem IAt.mono {S : St} {v : AV} {l : List Int} (h : IAt S v l) (L : St) : IAt (S ++ L) v l := let ⟨lo, hi, h⟩ := h; ⟨lo, hi, ArrAt.mono h L⟩
theorem OwnS.cat {S : St} {lo : Nat} {v : AV} {l : List CntV} (h : OwnS S lo v 3 (l.map CntV.row)) : CAt S v l := ⟨_, _, h.arr⟩
def withU (U : UnitV) (P : List CntV) (b : Int) : Int := thereU U (decide ((P.length : Int) = U.blocks.length)) b
def likelyU (U : UnitV) (P : List CntV) (b : Int) : Int × Int := match U.blocks[b.toNat]?, P[b.toNat]? with
  | some B, some c => if 0 ≤ likN B.e c then (likN B.e c, 0) else (0, 5)
  | _, _ => (0, 5)
def traceU (U : UnitV) (P : List CntV) (b : Int) : List Int := match U.blocks[b.toNat]? with
  | some B => traceK U P B.catch_ U.blocks.length [(b.toNat : Int)] b.toNat
  | none => []
theorem with_zero {U : UnitV} {P : List CntV} {b : Int} (h : withU U P b = 0) : Wf U ∧ P.length = U.blocks.length ∧ ∃ x : Nat, x < U.blocks.length ∧ b = x := by
  obtain ⟨h1, h2, h3⟩ := there_zero h
  exact ⟨chk_wf h1, by have := of_decide_eq_true h2; omega, h3⟩
theorem traceK_len (U : UnitV) (P : List CntV) (cx : Int) : ∀ (m : Nat) (out : List Int) (last : Nat), (traceK U P cx m out last).length ≤ out.length + m
  | 0, out, last => by simp [traceK]
  | m + 1, out, last => by
    unfold traceK
    split
    · omega
    · have := traceK_len U P cx m (out ++ [(‹Nat› : Int)]) ‹Nat›
      simp at this ⊢
      omega
theorem callO_prof {X : Cx} {env : Env} {st : St} {Q : Post3} {K : Env → St → Post3 → Prop} {f : FuncId} {args : List AV} {dst : Option Nat} {keep : List VOpd} {rows : List (List AV)} (hw : wpF X f args st fun r s => ∃ w, r = .ret w ∧ (∃ m, s = st ++ m) ∧ OwnS s st.length w 3 rows)
    (h : ∀ w m, OwnS (st ++ m) st.length w 3 rows → K (env.put dst w) (st ++ m) Q) : callO X f args dst keep K env st Q := by
  refine wpF.mono hw ?_
  rintro r s ⟨w, rfl, ⟨m, rfl⟩, h1⟩
  exact ⟨kept_app _ _ _ _, h w m h1⟩
section
variable {X : Cx} {st : St}
end
end Go.VX.Seat
end
section
set_option linter.unusedVariables false
set_option linter.unusedSimpArgs false
set_option maxRecDepth 4000
/-! A block that follows a trace: the plain law. -/
namespace Go.VX.Seat
open Go.Proofs
theorem selfN_nonneg {e : EndV} {x w : Int} (hw : w = 0 ∨ w = 1 ∨ w = 2) (h : selfG e x w = true) : 0 ≤ selfN e x := by
  unfold selfN
  by_cases h0 : selfG e x 0 = true
  · rw [if_pos h0]; omega
  · rw [if_neg h0]
    by_cases h1 : selfG e x 1 = true
    · rw [if_pos h1]; omega
    · rw [if_neg h1]
      rcases hw with rfl | rfl | rfl
      · exact absurd h h0
      · exact absurd h h1
      · rw [if_pos h]; omega
theorem selfN_range {e : EndV} {x : Int} (h : 0 ≤ selfN e x) : selfN e x = 0 ∨ selfN e x = 1 ∨ selfN e x = 2 := by
  unfold selfN at *
  split at h
  · exact .inl (by rw [if_pos (by assumption)])
  · split at h
    · exact .inr (.inl (by rw [if_neg (by assumption), if_pos (by assumption)]))
    · split at h
      · exact .inr (.inr (by rw [if_neg (by assumption), if_neg (by assumption), if_pos (by assumption)]))
      · omega
/-- Two blocks, one behind the other in a trace. -/
def Lk (U : UnitV) (cx : Int) (a b : Int) : Prop := ∃ (x y : Nat) (hx : x < U.blocks.length) (hy : y < U.blocks.length), a = x ∧ b = y ∧ U.blocks[x].catch_ = cx ∧ U.blocks[y].catch_ = cx ∧ 0 ≤ selfN U.blocks[x].e y
def Links (U : UnitV) (cx : Int) (l : List Int) : Prop := ∀ (i : Nat) (a b : Int), l[i]? = some a → l[i + 1]? = some b → Lk U cx a b
theorem stepT_some {U : UnitV} (wf : Wf U) {P : List CntV} {cx : Int} {out : List Int} {last n : Nat} (h : stepT U P cx out last = some n) : ∃ (hx : last < U.blocks.length) (hn : n < U.blocks.length), U.blocks[n].catch_ = cx ∧ 0 ≤ selfN U.blocks[last].e n := by
  by_cases hx : last < U.blocks.length
  case neg =>
    unfold stepT at h
    rw [List.getElem?_eq_none (by omega)] at h
    simp at h
  by_cases hp : last < P.length
  case neg =>
    unfold stepT at h
    rw [List.getElem?_eq_getElem hx, List.getElem?_eq_none (l := P) (by omega)] at h
    simp at h
  by_cases hl : 0 ≤ likN U.blocks[last].e P[last]
  case neg =>
    rw [stepT_no hx hp hl] at h
    cases h
  have hW := likN_way U.blocks[last].e P[last]
  rw [decide_eq_true hl] at hW
  obtain ⟨k, hk, hto⟩ := isWay_to (wf.blk _ (List.getElem_mem hx)).end_ hW
  rw [stepT_eq hx hp hl hk hto] at h
  split at h
  · rename_i hc
    have : k = n := Option.some.inj h
    subst this
    refine ⟨hx, hk, hc.1, selfN_nonneg (likN_range _ _ hl) ?_⟩
    unfold selfG
    rw [hW, hto]
    simp
  · cases h
theorem traceK_links {U : UnitV} (wf : Wf U) {P : List CntV} {cx : Int} : ∀ (m : Nat) (out : List Int) (last : Nat), Links U cx out → out ≠ [] → out[out.length - 1]? = some (last : Int) → (∃ hx : last < U.blocks.length, U.blocks[last].catch_ = cx) → Links U cx (traceK U P cx m out last) ∧ ∃ r, traceK U P cx m out last = out ++ r
  | 0, out, last, h1, _, _, _ => ⟨h1, [], by simp [traceK]⟩
  | m + 1, out, last, h1, h2, h3, ⟨hx, hcx⟩ => by
    unfold traceK
    cases hs : stepT U P cx out last with
    | none => exact ⟨h1, [], by simp⟩
    | some n =>
      obtain ⟨_, hn, hcn, hself⟩ := stepT_some wf hs
      have hlen : 0 < out.length := by
        cases out with
        | nil => exact absurd rfl h2
        | cons a r => simp
      have hL : Links U cx (out ++ [(n : Int)]) := fun i a b ha hb => by
        by_cases hi : i + 1 < out.length
        · rw [List.getElem?_append_left (by omega)] at ha
          rw [List.getElem?_append_left hi] at hb
          exact h1 i a b ha hb
        · have hi2 := (List.getElem?_eq_some_iff.1 hb).1
          simp at hi2
          have hi3 : i = out.length - 1 := by omega
          subst hi3
          rw [List.getElem?_append_left (by omega), h3] at ha
          rw [List.getElem?_append_right (by omega), show out.length - 1 + 1 - out.length = 0 by omega] at hb
          cases ha
          cases hb
          exact ⟨last, n, hx, hn, rfl, rfl, hcx, hcn, hself⟩
      obtain ⟨q1, r, q2⟩ := traceK_links wf m (out ++ [(n : Int)]) n hL (by simp) (by rw [List.length_append, List.length_singleton, Nat.add_sub_cancel, List.getElem?_append_right (Nat.le_refl _), Nat.sub_self]; rfl) ⟨hn, hcn⟩
      exact ⟨q1, (n : Int) :: r, by simpa using q2⟩
/-- A block that follows a trace, while it is not too long. -/
def followK (U : UnitV) (x : Nat) (size : Int) : List Int → UnitV → Nat → Nat → UnitV × Nat
  | [], V, _, i => (V, i)
  | n :: r, V, from_, i => match U.blocks[from_]?, U.blocks[n.toNat]? with
    | some F, some B => match (extAt V x (selfN F.e n) B).blocks[x]? with
      | some Q => if size < (Q.ops.length : Int) then (V, i) else followK U x size r (extAt V x (selfN F.e n) B) n.toNat (i + 1)
      | none => (V, i)
    | _, _ => (V, i)
def followR (U : UnitV) (P : List CntV) (x : Nat) (size : Int) : UnitV × Nat := match traceU U P x with
  | [] => (U, 0)
  | _ :: r => followK U x size r U x 0
def extLen (way : Int) : Int := if way = 1 then 3 else if way = 2 then 1 else 0
section
variable {X : Cx} {st : St}
theorem j_trace_longer (h : On X) {lo hi : Nat} {bw : AV} {B : BlkV} (hb : OpsAt st lo hi bw B.ops) (way : Int) (hway : way = 0 ∨ way = 1 ∨ way = 2) (hl : B.ops.length ≤ 100000) :
    J X.P X.F X.H (.call 70 [iA way, .agg (B.row bw)] st (.ret (iA (extLen way + B.ops.length))) st) := by
  refine pure_intro (by rw [h.F]; rfl) rfl ?_
  have l1 := hb.len
  have hbc := isCell_len l1
  simp only [List.length_map] at l1
  have w0 : IntKind.wrap .i64 ((0 : Int) + (B.ops.length : Int)) = 0 + (B.ops.length : Int) := wrap_small (by omega) (by omega)
  have w1 : IntKind.wrap .i64 ((1 : Int) + (B.ops.length : Int)) = 1 + (B.ops.length : Int) := wrap_small (by omega) (by omega)
  have w3 : IntKind.wrap .i64 ((3 : Int) + (B.ops.length : Int)) = 3 + (B.ops.length : Int) := wrap_small (by omega) (by omega)
  have x0 : extLen 0 = 0 := rfl
  have x1 : extLen 1 = 3 := rfl
  have x2 : extLen 2 = 1 := rfl
  rcases hway with rfl | rfl | rfl
  · simp only [v_trace_longer, BlkV.row, hbc, l1, w0, x0, kB, kZ, kD, fillA, partsEv, zeroes, Nat.reduceSub, Int.reduceToNat, Nat.reduceMul, asInt?, asNat?, Int.reduceAdd, Int.reduceLE, Int.reduceLT, Int.reduceNeg, Nat.reduceLeDiff, VOpd.ev, Nat.reduceEqDiff, Nat.reduceAdd, reduceIte, reduceCtorEq, splice, resOf, tupOf, cellsV, AV.toV, AV.cell?, cellVal]
    first | exact ⟨_, rfl⟩ | exact ⟨rfl, _, rfl⟩ | exact ⟨trivial, _, rfl⟩ | exact ⟨[], (List.append_nil _).symm⟩
  · simp only [v_trace_longer, BlkV.row, hbc, l1, w3, x1, kB, kZ, kD, fillA, partsEv, zeroes, Nat.reduceSub, Int.reduceToNat, Nat.reduceMul, asInt?, asNat?, Int.reduceAdd, Int.reduceLE, Int.reduceLT, Int.reduceNeg, Nat.reduceLeDiff, VOpd.ev, Nat.reduceEqDiff, Nat.reduceAdd, reduceIte, reduceCtorEq, splice, resOf, tupOf, cellsV, AV.toV, AV.cell?, cellVal]
    first | exact ⟨_, rfl⟩ | exact ⟨rfl, _, rfl⟩ | exact ⟨trivial, _, rfl⟩ | exact ⟨[], (List.append_nil _).symm⟩
  · simp only [v_trace_longer, BlkV.row, hbc, l1, w1, x2, kB, kZ, kD, fillA, partsEv, zeroes, Nat.reduceSub, Int.reduceToNat, Nat.reduceMul, asInt?, asNat?, Int.reduceAdd, Int.reduceLE, Int.reduceLT, Int.reduceNeg, Nat.reduceLeDiff, VOpd.ev, Nat.reduceEqDiff, Nat.reduceAdd, reduceIte, reduceCtorEq, splice, resOf, tupOf, cellsV, AV.toV, AV.cell?, cellVal]
    first | exact ⟨_, rfl⟩ | exact ⟨rfl, _, rfl⟩ | exact ⟨trivial, _, rfl⟩ | exact ⟨[], (List.append_nil _).symm⟩
end
end Go.VX.Seat
end
section
set_option linter.unusedVariables false
set_option linter.unusedSimpArgs false
set_option maxRecDepth 4000
/-! trace.follow. -/
namespace Go.VX.Seat
open Go.Proofs
theorem preA_box {v w : AV} {esz n : Nat} (h : preA v esz n = some w) : boxOf w = boxOf v := by
  unfold preA at h
  split at h
  · split at h
    · cases h; rfl
    · cases h
  · split at h
    · cases h; rfl
    · cases h
  · cases h
theorem opR_preB {X : Cx} {K : Env → St → Post3 → Prop} {Q : Post3} {d : Option Nat} {k : List VOpd} {env : Env} {s : St} {lo hi esz n : Nat} {x y : VOpd} {rows : List (List AV)} {vx : AV} (ex : x.ev env = vx) (ey : asNat? (y.ev env) = some n) (hx : ArrAt s lo hi vx esz rows) (hn : n ≤ rows.length)
    (h : ∀ w, ArrAt s lo hi w esz (rows.take n) → boxOf w = boxOf vx → keptA env s s k = true ∧ K (env.put d w) s Q) : opR X K d k env s Q (vop X.P (.slice none esz x none (some y) none) env s) := by
  subst ex
  obtain ⟨w, hw, ha⟩ := hx.pre n hn
  rw [v_slice_pre X.P env s esz x y n ey, hw]
  exact h w ha (preA_box hw)
/-- What holds of the unit that grows. -/
structure Flw (U V : UnitV) (x i : Nat) : Prop where
  len : V.blocks.length = U.blocks.length
  regs : U.regs ≤ V.regs ∧ V.regs ≤ U.regs + 2 * i
  ops : ∀ b ∈ V.blocks, b.ops.length ≤ 400 + i * 403
  sizes : V.sizes = U.sizes
theorem flw_step {U V : UnitV} {x i : Nat} (wf : Wf U) (h : Flw U V x i) (hx : x < U.blocks.length) (way : Int) {B : BlkV} (hB : B ∈ U.blocks) : Flw U (extAt V x way B) x (i + 1) := by
  have hx' : x < V.blocks.length := by rw [h.len]; exact hx
  have hB4 := (wf.blk B hB).ops
  rw [extAt_eq hx']
  refine ⟨by simp only [extBy, List.length_set]; exact h.len, ?_, fun b hb => ?_, h.sizes⟩
  · have := h.regs
    simp only [extBy, extRegs]
    split <;> omega
  · simp only [extBy] at hb
    rcases List.mem_or_eq_of_mem_set hb with hb | rfl
    · have := h.ops b hb
      omega
    · have := h.ops _ (List.getElem_mem hx')
      have h3 := extOps_len V V.blocks[x] way
      simp only [List.length_append]
      omega
theorem extBy_ops_len {V : UnitV} {x : Nat} (hx : x < V.blocks.length) {way : Int} (hway : way = 0 ∨ way = 1 ∨ way = 2) (B : BlkV) : ∃ h : x < (extAt V x way B).blocks.length, (((extAt V x way B).blocks[x]'h).ops.length : Int) = V.blocks[x].ops.length + (extLen way + B.ops.length) := by
  rw [extAt_eq hx]
  refine ⟨by simp [extBy]; exact hx, ?_⟩
  simp only [extBy, List.getElem_set_self, List.length_append]
  have : ((extOps V V.blocks[x] way).length : Int) = extLen way := by rcases hway with rfl | rfl | rfl <;> rfl
  omega
section
variable {X : Cx} {st : St}
set_option maxHeartbeats 4000000 in
theorem w_trace_follow (h : On X) {stp S0 : St} {ub lo lo' hi' lo2 hi2 : Nat} {sz bl v pv : AV} {f : Nat → AV} {U : UnitV} {P : List CntV} (hst : ∃ m, S0 = stp ++ m) (hub : stp.length ≤ ub) (hsl : stp.length ≤ lo) (hlo : lo ≤ S0.length) (hU : UPtr S0 ub lo sz bl f U)
    (hv : UnitAt stp lo' hi' v U) (hp : CntsAt stp lo2 hi2 pv P) (wf : Wf U) (hPN : P.length = U.blocks.length) (x : Nat) (hx : x < U.blocks.length) (size : Int) :
    wpF X 50 [.ptr ub 0, v, pv, iA x, iA size] S0 fun r s => r = .ret (iA ((followR U P x size).2 : Int)) ∧ Agree (fun n => n = ub ∨ lo ≤ n) S0 s ∧ ∃ f', UPtr s ub lo sz bl f' (followR U P x size).1 := by
  refine wpF_go (fn := v_trace_follow) (by rw [h.F]; rfl) ?_
  have hvS : ∀ S : St, (∃ m, S = stp ++ m) → UnitAt S lo' hi' v U := fun S ⟨m, e⟩ => by rw [e]; exact hv.mono m
  have hpS : ∀ S : St, (∃ m, S = stp ++ m) → CntsAt S lo2 hi2 pv P := fun S ⟨m, e⟩ => by rw [e]; exact ArrAt.mono hp m
  obtain ⟨s, ba, rfl, hs, fa, hba, hbo⟩ := hv
  have hnb := wf.nb
  obtain ⟨mst, hmst⟩ := hst
  have hext1 : ∀ L : St, ∃ m, S0 ++ L = stp ++ m := fun L => ⟨mst ++ L, by rw [hmst, List.append_assoc]⟩
  simp only [v_trace_follow, kB, kZ, kD, fillA, partsEv, zeroes, Nat.reduceSub, Int.reduceToNat, Nat.reduceMul, asInt?, asNat?, Int.reduceAdd, Int.reduceLE, Int.reduceLT, Int.reduceNeg, Nat.reduceLeDiff, VOpd.ev, Nat.reduceEqDiff, Nat.reduceAdd, reduceIte, reduceCtorEq, splice, resOf, tupOf, cellsV, AV.toV, AV.cell?, cellVal]
  refine wpF.mono (w_trace_trace h (hvS _ (hext1 _)) (hpS _ (hext1 _)) wf hPN x hx) ?_
  rintro r s' ⟨w, rfl, ⟨m1, rfl⟩, hw⟩
  refine ⟨kept_app _ _ _ _, ?_⟩
  obtain ⟨hlk, rT, hT⟩ := traceK_links wf (P := P) (cx := U.blocks[x].catch_) U.blocks.length [(x : Int)] x (fun i a b ha hb => by simp at hb) (by simp) rfl ⟨hx, rfl⟩
  have hTl := traceK_len U P U.blocks[x].catch_ U.blocks.length [(x : Int)] x
  have hFR : followR U P x size = followK U x size rT U x 0 := by
    unfold followR traceU
    rw [Int.toNat_natCast, List.getElem?_eq_getElem hx]
    simp only [hT]
    rfl
  generalize traceK U P U.blocks[x].catch_ U.blocks.length [(x : Int)] x = T at *
  subst hT
  have hublt := hU.lt
  have hbnd := fun b (hb : UBox sz bl f U.blocks.length b) => ubox_lt hU.z hU.b hb
  have hbox6 : (S0 ++ [⟨[s, iA U.params, iA U.regs, iA U.code, iA U.spill, ba], 0, 0⟩] ++ m1 : St)[S0.length + 0]? = some ⟨[s, iA U.params, iA U.regs, iA U.code, iA U.spill, ba], 0, 0⟩ := by
    rw [Nat.add_zero, List.append_assoc, List.getElem?_append_right (Nat.le_refl _), Nat.sub_self]; rfl
  have hwb : ∀ b, boxOf w = some b → S0.length + 1 ≤ b ∧ b < (S0 ++ [⟨[s, iA U.params, iA U.regs, iA U.code, iA U.spill, ba], 0, 0⟩] ++ m1 : St).length := fun b hb => by
    have := hw.bnd b hb
    simp only [List.length_append, List.length_cons, List.length_nil] at this ⊢
    omega
  have hag1 : Agree (fun _ => False) S0 (S0 ++ [⟨[s, iA U.params, iA U.regs, iA U.code, iA U.spill, ba], 0, 0⟩] ++ m1) := by rw [List.append_assoc]; exact Agree.app _ _ _
  have hU1 := hU.agree hag1 (fun h => h) (fun _ _ _ h => h)
  have hx1 : ∃ m, (S0 ++ [⟨[s, iA U.params, iA U.regs, iA U.code, iA U.spill, ba], 0, 0⟩] ++ m1 : St) = stp ++ m := by rw [List.append_assoc]; exact hext1 _
  have hwA := hw.arr
  have l1 := hwA.len
  have hlen1 : S0.length + 1 ≤ (S0 ++ [⟨[s, iA U.params, iA U.regs, iA U.code, iA U.spill, ba], 0, 0⟩] ++ m1 : St).length := by simp
  simp only [List.length_map, List.cons_append, List.nil_append, List.length_cons, List.length_nil] at l1 hTl
  simp only [List.cons_append, List.nil_append] at hwA hlk
  have hsub : IntKind.wrap .i64 (((rT.length + 1 : Nat) : Int) - 1) = (rT.length : Int) := by rw [wrap_small (by omega) (by omega)]; omega
  generalize (S0 ++ [⟨[s, iA U.params, iA U.regs, iA U.code, iA U.spill, ba], 0, 0⟩] ++ m1 : St) = S1 at *
  simp only [l1, hsub, kB, kZ, kD, fillA, partsEv, zeroes, Nat.reduceSub, Int.reduceToNat, Nat.reduceMul, asInt?, asNat?, Int.reduceAdd, Int.reduceLE, Int.reduceLT, Int.reduceNeg, Nat.reduceLeDiff, VOpd.ev, Nat.reduceEqDiff, Nat.reduceAdd, reduceIte, reduceCtorEq, splice, resOf, tupOf, cellsV, AV.toV, AV.cell?, cellVal]
  refine opR_preB (vx := w) (n := rT.length) (rows := ((x : Int) :: rT).map fun n => [iA n]) (by simp only [kB, kZ, kD, fillA, partsEv, zeroes, Nat.reduceSub, Int.reduceToNat, Nat.reduceMul, asInt?, asNat?, Int.reduceAdd, Int.reduceLE, Int.reduceLT, Int.reduceNeg, Nat.reduceLeDiff, VOpd.ev, Nat.reduceEqDiff, Nat.reduceAdd, reduceIte, reduceCtorEq, splice, resOf, tupOf, cellsV, AV.toV, AV.cell?, cellVal]) (by simp only [kB, kZ, kD, fillA, partsEv, zeroes, Nat.reduceSub, Int.reduceToNat, Nat.reduceMul, asInt?, asNat?, Int.reduceAdd, Int.reduceLE, Int.reduceLT, Int.reduceNeg, Nat.reduceLeDiff, VOpd.ev, Nat.reduceEqDiff, Nat.reduceAdd, reduceIte, reduceCtorEq, splice, resOf, tupOf, cellsV, AV.toV, AV.cell?, cellVal]; rw [if_pos (by omega)]) hwA (by simp) ?_
  intro w26 hw26 hb26
  have l26 : lenA w26 = some rT.length := by simpa using hw26.len
  refine ⟨kept_stay _, ?_⟩
  simp only [l26, kB, kZ, kD, fillA, partsEv, zeroes, Nat.reduceSub, Int.reduceToNat, Nat.reduceMul, asInt?, asNat?, Int.reduceAdd, Int.reduceLE, Int.reduceLT, Int.reduceNeg, Nat.reduceLeDiff, VOpd.ev, Nat.reduceEqDiff, Nat.reduceAdd, reduceIte, reduceCtorEq, splice, resOf, tupOf, cellsV, AV.toV, AV.cell?, cellVal]
  refine loop_inv (fun m e S => ∃ (i k : Nat) (f' : Nat → AV) (V : UnitV), m + i = rT.length ∧ e 0 = .ptr ub 0 ∧ e 3 = iA x ∧ e 4 = iA size ∧ e 6 = .ptr (S0.length + 0) 0 ∧ e 11 = w ∧ e 26 = w26 ∧ e 27 = iA rT.length ∧ e 28 = iA i ∧
    (k < U.blocks.length ∧ ((x : Int) :: rT)[i]? = some (k : Int)) ∧ (∃ m, S = stp ++ m) ∧ S[S0.length + 0]? = some ⟨[s, iA U.params, iA U.regs, iA U.code, iA U.spill, ba], 0, 0⟩ ∧ (∃ a b, ArrAt S a b w 1 (((x : Int) :: rT).map fun n => [iA n])) ∧ (∃ a b, ArrAt S a b w26 1 ((((x : Int) :: rT).map fun n => [iA n]).take rT.length)) ∧
    Agree (fun n => n = ub ∨ lo ≤ n) S0 S ∧ S1.length ≤ S.length ∧ UPtr S ub lo sz bl f' V ∧ (∀ b, UBox sz bl f' U.blocks.length b → b ≠ S0.length + 0 ∧ boxOf w ≠ some b) ∧ Flw U V x i ∧ followK U x size (rT.drop i) V k i = followR U P x size) ?_ rT.length ?_
  case refine_2 =>
    exact ⟨0, x, f, U, by omega, by simp only [kB, kZ, kD, fillA, partsEv, zeroes, Nat.reduceSub, Int.reduceToNat, Nat.reduceMul, asInt?, asNat?, Int.reduceAdd, Int.reduceLE, Int.reduceLT, Int.reduceNeg, Nat.reduceLeDiff, VOpd.ev, Nat.reduceEqDiff, Nat.reduceAdd, reduceIte, reduceCtorEq, splice, resOf, tupOf, cellsV, AV.toV, AV.cell?, cellVal], by simp only [kB, kZ, kD, fillA, partsEv, zeroes, Nat.reduceSub, Int.reduceToNat, Nat.reduceMul, asInt?, asNat?, Int.reduceAdd, Int.reduceLE, Int.reduceLT, Int.reduceNeg, Nat.reduceLeDiff, VOpd.ev, Nat.reduceEqDiff, Nat.reduceAdd, reduceIte, reduceCtorEq, splice, resOf, tupOf, cellsV, AV.toV, AV.cell?, cellVal], by simp only [kB, kZ, kD, fillA, partsEv, zeroes, Nat.reduceSub, Int.reduceToNat, Nat.reduceMul, asInt?, asNat?, Int.reduceAdd, Int.reduceLE, Int.reduceLT, Int.reduceNeg, Nat.reduceLeDiff, VOpd.ev, Nat.reduceEqDiff, Nat.reduceAdd, reduceIte, reduceCtorEq, splice, resOf, tupOf, cellsV, AV.toV, AV.cell?, cellVal], by simp only [kB, kZ, kD, fillA, partsEv, zeroes, Nat.reduceSub, Int.reduceToNat, Nat.reduceMul, asInt?, asNat?, Int.reduceAdd, Int.reduceLE, Int.reduceLT, Int.reduceNeg, Nat.reduceLeDiff, VOpd.ev, Nat.reduceEqDiff, Nat.reduceAdd, reduceIte, reduceCtorEq, splice, resOf, tupOf, cellsV, AV.toV, AV.cell?, cellVal], by simp only [kB, kZ, kD, fillA, partsEv, zeroes, Nat.reduceSub, Int.reduceToNat, Nat.reduceMul, asInt?, asNat?, Int.reduceAdd, Int.reduceLE, Int.reduceLT, Int.reduceNeg, Nat.reduceLeDiff, VOpd.ev, Nat.reduceEqDiff, Nat.reduceAdd, reduceIte, reduceCtorEq, splice, resOf, tupOf, cellsV, AV.toV, AV.cell?, cellVal], by simp only [kB, kZ, kD, fillA, partsEv, zeroes, Nat.reduceSub, Int.reduceToNat, Nat.reduceMul, asInt?, asNat?, Int.reduceAdd, Int.reduceLE, Int.reduceLT, Int.reduceNeg, Nat.reduceLeDiff, VOpd.ev, Nat.reduceEqDiff, Nat.reduceAdd, reduceIte, reduceCtorEq, splice, resOf, tupOf, cellsV, AV.toV, AV.cell?, cellVal], by simp only [kB, kZ, kD, fillA, partsEv, zeroes, Nat.reduceSub, Int.reduceToNat, Nat.reduceMul, asInt?, asNat?, Int.reduceAdd, Int.reduceLE, Int.reduceLT, Int.reduceNeg, Nat.reduceLeDiff, VOpd.ev, Nat.reduceEqDiff, Nat.reduceAdd, reduceIte, reduceCtorEq, splice, resOf, tupOf, cellsV, AV.toV, AV.cell?, cellVal], by simp only [kB, kZ, kD, fillA, partsEv, zeroes, Nat.reduceSub, Int.reduceToNat, Nat.reduceMul, asInt?, asNat?, Int.reduceAdd, Int.reduceLE, Int.reduceLT, Int.reduceNeg, Nat.reduceLeDiff, VOpd.ev, Nat.reduceEqDiff, Nat.reduceAdd, reduceIte, reduceCtorEq, splice, resOf, tupOf, cellsV, AV.toV, AV.cell?, cellVal], ⟨hx, rfl⟩, hx1, hbox6, ⟨_, _, hwA⟩, ⟨_, _, hw26⟩, hag1.mono (fun _ _ h => h.elim), Nat.le_refl _, hU1, fun b hb => ⟨by have := (hbnd b hb).2; omega, fun h => by have := (hbnd b hb).2; have := (hwb b h).1; omega⟩,
      ⟨rfl, by omega, fun b hb => by have := (wf.blk b hb).ops; omega, rfl⟩, by rw [List.drop_zero]; exact hFR.symm⟩
  clear hU1 hx1 hbox6 hwA hw26 hw hag1
  rintro m e S ⟨i, k, f', V, him, e0, e3, e4, e6, e11, e26, e27, e28, ⟨hk, hTi⟩, hxS, hbox6, ⟨_, _, hwA⟩, ⟨_, _, hw26⟩, hag, hlS, hUV, hsepU, hF, hfk⟩
  simp only [e27, e28, kB, kZ, kD, fillA, partsEv, zeroes, Nat.reduceSub, Int.reduceToNat, Nat.reduceMul, asInt?, asNat?, Int.reduceAdd, Int.reduceLE, Int.reduceLT, Int.reduceNeg, Nat.reduceLeDiff, VOpd.ev, Nat.reduceEqDiff, Nat.reduceAdd, reduceIte, reduceCtorEq, splice, resOf, tupOf, cellsV, AV.toV, AV.cell?, cellVal]
  refine condO_intro ?_ ?_ <;> intro hc <;> simp only [kB, kZ, kD, fillA, partsEv, zeroes, Nat.reduceSub, Int.reduceToNat, Nat.reduceMul, asInt?, asNat?, Int.reduceAdd, Int.reduceLE, Int.reduceLT, Int.reduceNeg, Nat.reduceLeDiff, VOpd.ev, Nat.reduceEqDiff, Nat.reduceAdd, reduceIte, reduceCtorEq, splice, resOf, tupOf, cellsV, AV.toV, AV.cell?, cellVal]
  · have hi : i < rT.length := by have := of_decide_eq_true hc; omega
    have hTn : ((x : Int) :: rT)[i + 1]? = some rT[i] := by rw [List.getElem?_cons_succ, List.getElem?_eq_getElem hi]
    obtain ⟨k', y, hk', hy, ek, ey, hck, hcy, hself⟩ := hlk i _ _ hTi hTn
    have hkk : k = k' := by omega
    subst hkk
    have hreg := wf.regs
    obtain ⟨ba1, oa1, hea1, _, haa1, _⟩ := hw26.get i (by simp; omega)
    have a1 := haa1 [] 0 (by omega)
    have hTi' : ((x : Int) :: rT)[i]'(by simp; omega) = (k : Int) := by
      rw [List.getElem?_eq_getElem (by simp; omega)] at hTi
      exact Option.some.inj hTi
    simp only [List.getElem_take, List.getElem_map, hTi', Nat.add_zero, List.getElem?_cons_zero, List.append_nil] at a1
    obtain ⟨ba2, oa2, hea2, _, haa2, _⟩ := hwA.get (i + 1) (by simp; omega)
    have a2 := fun L => haa2 L 0 (by omega)
    simp only [List.getElem_map, List.getElem_cons_succ, ey, Nat.add_zero, List.getElem?_cons_zero] at a2
    have a20 := a2 []
    rw [List.append_nil] at a20
    have hi1 : IntKind.wrap .i64 ((i : Int) + 1) = ((i + 1 : Nat) : Int) := by rw [wrap_small (by omega) (by omega)]; omega
    have d6 := atN_box hbox6 (by decide) 0 6 (by simp)
    simp only [kB, kZ, kD, fillA, partsEv, zeroes, Nat.reduceSub, Int.reduceToNat, Nat.reduceMul, asInt?, asNat?, Int.reduceAdd, Int.reduceLE, Int.reduceLT, Int.reduceNeg, Nat.reduceLeDiff, VOpd.ev, Nat.reduceEqDiff, Nat.reduceAdd, reduceIte, reduceCtorEq, splice, resOf, tupOf, cellsV, AV.toV, AV.cell?, cellVal] at d6
    simp only [e26, e28, hea1, a1, kB, kZ, kD, fillA, partsEv, zeroes, Nat.reduceSub, Int.reduceToNat, Nat.reduceMul, asInt?, asNat?, Int.reduceAdd, Int.reduceLE, Int.reduceLT, Int.reduceNeg, Nat.reduceLeDiff, VOpd.ev, Nat.reduceEqDiff, Nat.reduceAdd, reduceIte, reduceCtorEq, splice, resOf, tupOf, cellsV, AV.toV, AV.cell?, cellVal]
    have hvSS := hvS S hxS
    have d65 := at1_box hbox6 (by decide) 5
    simp only [kB, kZ, kD, fillA, partsEv, zeroes, Nat.reduceSub, Int.reduceToNat, Nat.reduceMul, asInt?, asNat?, Int.reduceAdd, Int.reduceLE, Int.reduceLT, Int.reduceNeg, Nat.reduceLeDiff, VOpd.ev, Nat.reduceEqDiff, Nat.reduceAdd, reduceIte, reduceCtorEq, splice, resOf, tupOf, cellsV, AV.toV, AV.cell?, cellVal] at d65
    have hxV : x < V.blocks.length := by rw [hF.len]; exact hx
    refine loop_live [0, 3, 4, 6, 11, 12, 13, 26, 27, 28] (fun m e => ∃ j : Nat, j + m = 3 ∧ e 14 = iA j ∧ ∀ j' : Nat, j' < j → selfG U.blocks[k].e y j' = false) 3 ?_ ?_
    · exact ⟨0, rfl, by simp only [kB, kZ, kD, fillA, partsEv, zeroes, Nat.reduceSub, Int.reduceToNat, Nat.reduceMul, asInt?, asNat?, Int.reduceAdd, Int.reduceLE, Int.reduceLT, Int.reduceNeg, Nat.reduceLeDiff, VOpd.ev, Nat.reduceEqDiff, Nat.reduceAdd, reduceIte, reduceCtorEq, splice, resOf, tupOf, cellsV, AV.toV, AV.cell?, cellVal], fun _ h => absurd h (by omega)⟩
    intro m2 e2 hL ⟨j, hjm, g14, hpre⟩
    simp only [e0, e3, e4, e6, e11, e26, e27, e28, kB, kZ, kD, fillA, partsEv, zeroes, Nat.reduceSub, Int.reduceToNat, Nat.reduceMul, asInt?, asNat?, Int.reduceAdd, Int.reduceLE, Int.reduceLT, Int.reduceNeg, Nat.reduceLeDiff, VOpd.ev, Nat.reduceEqDiff, Nat.reduceAdd, reduceIte, reduceCtorEq, splice, resOf, tupOf, cellsV, AV.toV, AV.cell?, cellVal] at hL
    obtain ⟨g0, g3, g4, g6, g11, g12, g13, g26, g27, g28⟩ := hL
    have hj3 : j < 3 := by
      rcases Nat.lt_or_ge j 3 with h | h
      · exact h
      · have : j = 3 := by omega
        subst this
        rw [selfN_none hpre] at hself
        omega
    have hway : (j : Int) = 0 ∨ (j : Int) = 1 ∨ (j : Int) = 2 := by omega
    have hdj : decide ((j : Int) < 3) = true := decide_eq_true (by omega)
    have hstep : selfG U.blocks[k].e y j = false → ∀ j' : Nat, j' < j + 1 → selfG U.blocks[k].e y j' = false := fun hq j' hj' => by
      by_cases he : j' = j
      · subst he; exact hq
      · exact hpre j' (by omega)
    simp only [g14, hdj, g6, g13, d6, kB, kZ, kD, fillA, partsEv, zeroes, Nat.reduceSub, Int.reduceToNat, Nat.reduceMul, asInt?, asNat?, Int.reduceAdd, Int.reduceLE, Int.reduceLT, Int.reduceNeg, Nat.reduceLeDiff, VOpd.ev, Nat.reduceEqDiff, Nat.reduceAdd, reduceIte, reduceCtorEq, splice, resOf, tupOf, cellsV, AV.toV, AV.cell?, cellVal]
    by_cases hw : isWay U.blocks[k].e j = true
    case neg =>
      have hw : isWay U.blocks[k].e j = false := by simpa using hw
      refine callO_same (j_trace_next h hvSS k hk j hway k hk (fun hw2 => by rw [hw] at hw2; cases hw2)) ?_
      simp only [hw, g14, kB, kZ, kD, fillA, partsEv, zeroes, Nat.reduceSub, Int.reduceToNat, Nat.reduceMul, asInt?, asNat?, Int.reduceAdd, Int.reduceLE, Int.reduceLT, Int.reduceNeg, Nat.reduceLeDiff, VOpd.ev, Nat.reduceEqDiff, Nat.reduceAdd, reduceIte, reduceCtorEq, splice, resOf, tupOf, cellsV, AV.toV, AV.cell?, cellVal]
      rw [wrap_small (by omega) (by omega)]
      exact ⟨m2 - 1, by omega, by simp [g0, g3, g4, g6, g11, g12, g13, g26, g27, g28, e0, e3, e4, e6, e11, e26, e27, e28], j + 1, by omega, by simp, hstep (by unfold selfG; rw [hw]; rfl)⟩
    obtain ⟨n', hn', hto⟩ := isWay_to (wf.blk _ (List.getElem_mem hk)).end_ hw
    refine callO_same (j_trace_next h hvSS k hk j hway n' hn' (fun _ => hto)) ?_
    by_cases hny : n' = y
    case neg =>
      have hG : selfG U.blocks[k].e y j = false := by
        unfold selfG
        rw [hw, hto, Bool.true_and, decide_eq_false_iff_not]
        omega
      have hne : decide ((n' : Int) = (y : Int)) = false := decide_eq_false (by omega)
      cases hcat : decide (U.blocks[n'].catch_ = U.blocks[k].catch_)
      · simp only [hw, hcat, g14, kB, kZ, kD, fillA, partsEv, zeroes, Nat.reduceSub, Int.reduceToNat, Nat.reduceMul, asInt?, asNat?, Int.reduceAdd, Int.reduceLE, Int.reduceLT, Int.reduceNeg, Nat.reduceLeDiff, VOpd.ev, Nat.reduceEqDiff, Nat.reduceAdd, reduceIte, reduceCtorEq, splice, resOf, tupOf, cellsV, AV.toV, AV.cell?, cellVal]
        rw [wrap_small (by omega) (by omega)]
        exact ⟨m2 - 1, by omega, by simp [g0, g3, g4, g6, g11, g12, g13, g26, g27, g28, e0, e3, e4, e6, e11, e26, e27, e28], j + 1, by omega, by simp, hstep hG⟩
      · simp only [hw, hcat, hne, hi1, hea2, a20, g11, g12, g14, kB, kZ, kD, fillA, partsEv, zeroes, Nat.reduceSub, Int.reduceToNat, Nat.reduceMul, asInt?, asNat?, Int.reduceAdd, Int.reduceLE, Int.reduceLT, Int.reduceNeg, Nat.reduceLeDiff, VOpd.ev, Nat.reduceEqDiff, Nat.reduceAdd, reduceIte, reduceCtorEq, splice, resOf, tupOf, cellsV, AV.toV, AV.cell?, cellVal]
        rw [wrap_small (by omega) (by omega)]
        exact ⟨m2 - 1, by omega, by simp [g0, g3, g4, g6, g11, g12, g13, g26, g27, g28, e0, e3, e4, e6, e11, e26, e27, e28], j + 1, by omega, by simp, hstep hG⟩
    subst hny
    have hcat : decide (U.blocks[n'].catch_ = U.blocks[k].catch_) = true := decide_eq_true (by rw [hcy, hck])
    have heq : decide ((n' : Int) = (n' : Int)) = true := decide_eq_true rfl
    have hG : selfG U.blocks[k].e n' j = true := by
      unfold selfG
      rw [hw, hto, heq]
      rfl
    have hsj := selfN_hit hj3 hG hpre
    obtain ⟨bY, oY, heY, hnY, _, _⟩ := hba.get n' (by simpa using hy)
    obtain ⟨mS, emS⟩ := hxS
    have nY := hnY mS
    rw [← emS] at nY
    simp only [List.getElem_mapIdx, BlkV.row] at nY
    have hcY := isCell_len (hbo n' hy).len
    simp only [hw, hcat, heq, hi1, hea2, a20, d65, heY, nY, hcY, g6, g11, g12, g14, kB, kZ, kD, fillA, partsEv, zeroes, Nat.reduceSub, Int.reduceToNat, Nat.reduceMul, asInt?, asNat?, Int.reduceAdd, Int.reduceLE, Int.reduceLT, Int.reduceNeg, Nat.reduceLeDiff, VOpd.ev, Nat.reduceEqDiff, Nat.reduceAdd, reduceIte, reduceCtorEq, splice, resOf, tupOf, cellsV, AV.toV, AV.cell?, cellVal]
    have hbb0 := hUV.bbx x hxV
    obtain ⟨bb, hbb⟩ := hbb0
    have hagB := Agree.app (fun _ => False) S [⟨[fa n', iA U.blocks[n'].e.k, iA U.blocks[n'].e.a, iA U.blocks[n'].e.t, iA U.blocks[n'].e.e, iA U.blocks[n'].catch_], 0, 1⟩]
    have hUV2 := hUV.agree hagB (fun h => h) (fun _ _ _ h => h)
    have hx2 : ∃ m, (S ++ [⟨[fa n', iA U.blocks[n'].e.k, iA U.blocks[n'].e.a, iA U.blocks[n'].e.t, iA U.blocks[n'].e.e, iA U.blocks[n'].catch_], 0, 1⟩] : St) = stp ++ m := ⟨mS ++ [⟨[fa n', iA U.blocks[n'].e.k, iA U.blocks[n'].e.a, iA U.blocks[n'].e.t, iA U.blocks[n'].e.e, iA U.blocks[n'].catch_], 0, 1⟩], by rw [emS, List.append_assoc]⟩
    have d17 : St.atN (S ++ [⟨[fa n', iA U.blocks[n'].e.k, iA U.blocks[n'].e.a, iA U.blocks[n'].e.t, iA U.blocks[n'].e.e, iA U.blocks[n'].catch_], 0, 1⟩]) S.length 0 6 = some [fa n', iA U.blocks[n'].e.k, iA U.blocks[n'].e.a, iA U.blocks[n'].e.t, iA U.blocks[n'].e.e, iA U.blocks[n'].catch_] := by simp only [kB, kZ, kD, fillA, partsEv, zeroes, Nat.reduceSub, Int.reduceToNat, Nat.reduceMul, asInt?, asNat?, Int.reduceAdd, Int.reduceLE, Int.reduceLT, Int.reduceNeg, Nat.reduceLeDiff, VOpd.ev, Nat.reduceEqDiff, Nat.reduceAdd, reduceIte, reduceCtorEq, splice, resOf, tupOf, cellsV, AV.toV, AV.cell?, cellVal]
    have hbox62 := hagB.box hbox6 (fun h => h)
    have hwA2 := ArrAt.mono hwA [⟨[fa n', iA U.blocks[n'].e.k, iA U.blocks[n'].e.a, iA U.blocks[n'].e.t, iA U.blocks[n'].e.e, iA U.blocks[n'].catch_], 0, 1⟩]
    have hw262 := ArrAt.mono hw26 [⟨[fa n', iA U.blocks[n'].e.k, iA U.blocks[n'].e.a, iA U.blocks[n'].e.t, iA U.blocks[n'].e.e, iA U.blocks[n'].catch_], 0, 1⟩]
    have hl2 : S.length + 1 = (S ++ [⟨[fa n', iA U.blocks[n'].e.k, iA U.blocks[n'].e.a, iA U.blocks[n'].e.t, iA U.blocks[n'].e.e, iA U.blocks[n'].catch_], 0, 1⟩] : St).length := by simp
    have hoY : OpsAt (S ++ [⟨[fa n', iA U.blocks[n'].e.k, iA U.blocks[n'].e.a, iA U.blocks[n'].e.t, iA U.blocks[n'].e.e, iA U.blocks[n'].catch_], 0, 1⟩]) lo' hi' (fa n') U.blocks[n'].ops := by
      obtain ⟨m2, e2⟩ := hx2
      rw [e2]
      exact ArrAt.mono (hbo n' hy) m2
    have hagS := hag.trans hagB
    have hxext := fun s' X (ha : Agree X (S ++ [⟨[fa n', iA U.blocks[n'].e.k, iA U.blocks[n'].e.a, iA U.blocks[n'].e.t, iA U.blocks[n'].e.e, iA U.blocks[n'].catch_], 0, 1⟩]) s') hX => Agree.ext (a := stp) ha hx2 hX
    generalize (S ++ [⟨[fa n', iA U.blocks[n'].e.k, iA U.blocks[n'].e.a, iA U.blocks[n'].e.t, iA U.blocks[n'].e.e, iA U.blocks[n'].catch_], 0, 1⟩] : St) = S2 at *
    have c1 := hUV2.cells 5
    simp only [kB, kZ, kD, fillA, partsEv, zeroes, Nat.reduceSub, Int.reduceToNat, Nat.reduceMul, asInt?, asNat?, Int.reduceAdd, Int.reduceLE, Int.reduceLT, Int.reduceNeg, Nat.reduceLeDiff, VOpd.ev, Nat.reduceEqDiff, Nat.reduceAdd, reduceIte, reduceCtorEq, splice, resOf, tupOf, cellsV, AV.toV, AV.cell?, cellVal] at c1
    obtain ⟨hel, hbl1, hbl2, r0, _, _, _⟩ := hUV2.row x hxV hbb
    have lF := (hUV2.b.ops x hxV).arr.len
    simp only [List.length_map] at lF
    have hBn := (wf.blk _ (List.getElem_mem hy)).ops
    have hVops := hF.ops _ (List.getElem_mem hxV)
    have hi2000 : i * 403 ≤ 2000 * 403 := Nat.mul_le_mul_right _ (by omega)
    have hel3 : 0 ≤ extLen j ∧ extLen j ≤ 3 := by rcases hway with h | h | h <;> rw [h] <;> decide
    have hwadd : IntKind.wrap .i64 ((V.blocks[x].ops.length : Int) + (extLen j + (U.blocks[n'].ops.length : Int))) = (V.blocks[x].ops.length : Int) + (extLen j + (U.blocks[n'].ops.length : Int)) := wrap_small (by omega) (by omega)
    obtain ⟨hxE, hlenE⟩ := extBy_ops_len hxV hway U.blocks[n']
    have hstepK : followK U x size (rT.drop i) V k i = if size < (V.blocks[x].ops.length : Int) + (extLen j + (U.blocks[n'].ops.length : Int)) then (V, i) else followK U x size (rT.drop (i + 1)) (extAt V x j U.blocks[n']) n' (i + 1) := by
      rw [List.drop_eq_getElem_cons hi, followK, ey, Int.toNat_natCast, List.getElem?_eq_getElem hk, List.getElem?_eq_getElem hy]
      simp only [hsj]
      rw [List.getElem?_eq_getElem hxE]
      simp only [hlenE]
    rw [hstepK] at hfk
    simp only [g0, g3, g4, c1, hel, r0, lF, d17, g14, kB, kZ, kD, fillA, partsEv, zeroes, Nat.reduceSub, Int.reduceToNat, Nat.reduceMul, asInt?, asNat?, Int.reduceAdd, Int.reduceLE, Int.reduceLT, Int.reduceNeg, Nat.reduceLeDiff, VOpd.ev, Nat.reduceEqDiff, Nat.reduceAdd, reduceIte, reduceCtorEq, splice, resOf, tupOf, cellsV, AV.toV, AV.cell?, cellVal]
    refine callO_same (j_trace_longer h hoY j hway (by omega)) ?_
    simp only [hwadd, kB, kZ, kD, fillA, partsEv, zeroes, Nat.reduceSub, Int.reduceToNat, Nat.reduceMul, asInt?, asNat?, Int.reduceAdd, Int.reduceLE, Int.reduceLT, Int.reduceNeg, Nat.reduceLeDiff, VOpd.ev, Nat.reduceEqDiff, Nat.reduceAdd, reduceIte, reduceCtorEq, splice, resOf, tupOf, cellsV, AV.toV, AV.cell?, cellVal]
    refine condO_intro ?_ ?_ <;> intro hc2
    · have h2 := of_decide_eq_true hc2
      rw [if_pos h2] at hfk
      simp only [g12, kB, kZ, kD, fillA, partsEv, zeroes, Nat.reduceSub, Int.reduceToNat, Nat.reduceMul, asInt?, asNat?, Int.reduceAdd, Int.reduceLE, Int.reduceLT, Int.reduceNeg, Nat.reduceLeDiff, VOpd.ev, Nat.reduceEqDiff, Nat.reduceAdd, reduceIte, reduceCtorEq, splice, resOf, tupOf, cellsV, AV.toV, AV.cell?, cellVal]
      rw [← hfk]
      exact ⟨rfl, hagS.mono (fun n _ hn => by
        rcases hn with hn | hn
        · exact hn
        · exact hn.elim), f', hUV2⟩
    · have h2 := of_decide_eq_false hc2
      rw [if_neg h2] at hfk
      simp only [g0, g3, g14, d17, kB, kZ, kD, fillA, partsEv, zeroes, Nat.reduceSub, Int.reduceToNat, Nat.reduceMul, asInt?, asNat?, Int.reduceAdd, Int.reduceLE, Int.reduceLT, Int.reduceNeg, Nat.reduceLeDiff, VOpd.ev, Nat.reduceEqDiff, Nat.reduceAdd, reduceIte, reduceCtorEq, splice, resOf, tupOf, cellsV, AV.toV, AV.cell?, cellVal]
      refine wpF.mono (w_trace_extendF h (stp := stp) (by_ := U.blocks[n']) hx2 hub hsl (by omega) hUV2 (hbo n' hy) x hxV j (by have := hF.regs; omega) (by omega)) ?_
      rintro r s' ⟨rfl, hagE, f2, hU2, hsub2⟩
      refine ⟨keptA_nil _ _ _, ?_⟩
      rw [← extAt_eq hxV] at hU2
      rw [hF.len] at hagE hsub2
      have hublt2 : ub ≠ S0.length + 0 := by omega
      have hUlo : ∀ b, UBox sz bl f' U.blocks.length b → lo ≤ b := fun b hb => by
        rw [← hF.len] at hb
        exact (ubox_lt hUV2.z hUV2.b hb).1
      have hwne : ∀ b, boxOf w = some b → ¬ (b = ub ∨ UBox sz bl f' U.blocks.length b) := fun b hb hx => by
        rcases hx with rfl | hx
        · have := (hwb _ hb).1; omega
        · exact (hsepU b hx).2 hb
      simp only [e0, e3, e4, e6, e11, e26, e27, e28, g28, g27, g0, g3, g4, g6, g11, g26, kB, kZ, kD, fillA, partsEv, zeroes, Nat.reduceSub, Int.reduceToNat, Nat.reduceMul, asInt?, asNat?, Int.reduceAdd, Int.reduceLE, Int.reduceLT, Int.reduceNeg, Nat.reduceLeDiff, VOpd.ev, Nat.reduceEqDiff, Nat.reduceAdd, reduceIte, reduceCtorEq, splice, resOf, tupOf, cellsV, AV.toV, AV.cell?, cellVal]
      rw [hi1]
      refine ⟨m - 1, by omega, i + 1, n', f2, extAt V x j U.blocks[n'], by omega, by simp, ⟨hy, by rw [hTn, ey]⟩, hxext s' _ hagE (fun b hb hX => ?_), hagE.box hbox62 (fun hX => ?_), ⟨_, _, hwA2.agree hagE hwne⟩, ⟨_, _, hw262.agree hagE (fun b hb => hwne b (by rw [← hb26]; exact hb))⟩, (hagS.trans hagE).mono (fun n _ hn => ?_), by have := hagE.len; omega, hU2, fun b hb => ?_, flw_step wf hF hx j (List.getElem_mem hy), hfk⟩
      · rcases hX with rfl | hX
        · omega
        · have := hUlo b hX; omega
      · rcases hX with hX | hX
        · exact hublt2 hX.symm
        · exact (hsepU _ hX).1 rfl
      · rcases hn with (hn | hn) | hn | hn
        · exact hn
        · exact hn.elim
        · exact .inl hn
        · exact .inr (hUlo n hn)
      · rcases hsub2 b hb with hb | hb
        · exact hsepU b hb
        · exact ⟨by omega, fun hw' => by have := (hwb b hw').2; omega⟩
  · have hi : i = rT.length := by have := of_decide_eq_false hc; omega
    subst hi
    rw [List.drop_length] at hfk
    have hfk2 : followR U P x size = (V, rT.length) := hfk.symm
    simp only [e11, l1, hsub, kB, kZ, kD, fillA, partsEv, zeroes, Nat.reduceSub, Int.reduceToNat, Nat.reduceMul, asInt?, asNat?, Int.reduceAdd, Int.reduceLE, Int.reduceLT, Int.reduceNeg, Nat.reduceLeDiff, VOpd.ev, Nat.reduceEqDiff, Nat.reduceAdd, reduceIte, reduceCtorEq, splice, resOf, tupOf, cellsV, AV.toV, AV.cell?, cellVal]
    rw [hfk2]
    exact ⟨rfl, hag, f', hUV⟩
end
end Go.VX.Seat
end
section
set_option linter.unusedVariables false
set_option linter.unusedSimpArgs false
set_option maxRecDepth 4000
/-! trace.Follow. -/
namespace Go.VX.Seat
open Go.Proofs
/-- A new unit, a number and an error. -/
def NewU3 (st s : St) (r : CRes) (x : UnitV × Int × Int) : Prop := ∃ w, r = .ret (.tup [w, iA x.2.1, iA x.2.2]) ∧ (∃ m, s = st ++ m) ∧ OwnU s st.length w x.1
theorem newU3_zero (st m : St) (e : Int) : NewU3 st (st ++ m) (.ret (.tup [zeroA, iA 0, iA e])) (zeroU, 0, e) := ⟨_, rfl, ⟨m, rfl⟩, own_zero _ _⟩
theorem callO_newU3 {X : Cx} {env : Env} {st : St} {Q : Post3} {K : Env → St → Post3 → Prop} {f : FuncId} {args : List AV} {dst : Option Nat} {keep : List VOpd} {x : UnitV × Int × Int} (hw : wpF X f args st fun r s => NewU3 st s r x)
    (h : ∀ w m, OwnU (st ++ m) st.length w x.1 → K (env.put dst (.tup [w, iA x.2.1, iA x.2.2])) (st ++ m) Q) : callO X f args dst keep K env st Q := by
  refine wpF.mono hw ?_
  rintro r s ⟨w, rfl, ⟨m, rfl⟩, h1⟩
  exact ⟨kept_app _ _ _ _, h w m h1⟩
def followFR (U : UnitV) (P : List CntV) (x : Nat) (size : Int) : UnitV × Int × Int := if decide (size < 0) then (zeroU, 0, 2) else
  if decide (chkU (followR U P x size).1 ≠ 0) then (zeroU, 0, 11) else ((followR U P x size).1, ((followR U P x size).2 : Int), 0)
/-- P17.3, with the errors. -/
def followU (U : UnitV) (P : List CntV) (b size : Int) : UnitV × Int × Int := if decide (withU U P b ≠ 0) then (zeroU, 0, withU U P b) else followFR U P b.toNat size
section
variable {X : Cx} {st : St}
set_option maxHeartbeats 2000000 in
theorem w_trace_Follow (h : OnH X) (hg : GB st) {lo hi lo2 hi2 : Nat} {v pv : AV} {U : UnitV} {P : List CntV} (hv : UnitAt st lo hi v U) (hp : CntsAt st lo2 hi2 pv P) (b size : Int) :
    wpF X 19 [v, pv, iA b, iA size] st fun r s => NewU3 st s r (followU U P b size) := by
  refine wpF_go (fn := v_trace_Follow) (by rw [h.F]; rfl) ?_
  have hm := fun L => hv.mono L
  have hmp := fun L => ArrAt.mono hp L
  have hv0 := hv
  obtain ⟨s, bl, rfl, hs, hb⟩ := hv
  have hcs := isCell_len hs.len
  have hcb : bl.isCell = true := by
    obtain ⟨f, hb, _⟩ := hb
    exact isCell_len hb.len
  have hj := fun L => j_trace_with h (hg.app L) (hm L) (hmp L) b
  simp only [v_trace_Follow, hcs, hcb, kB, kZ, kD, fillA, partsEv, zeroes, Nat.reduceSub, Int.reduceToNat, Nat.reduceMul, asInt?, asNat?, Int.reduceAdd, Int.reduceLE, Int.reduceLT, Int.reduceNeg, Nat.reduceLeDiff, VOpd.ev, Nat.reduceEqDiff, Nat.reduceAdd, reduceIte, reduceCtorEq, splice, resOf, tupOf, cellsV, AV.toV, AV.cell?, cellVal]
  refine callO_same (hj _) ?_
  have hwu : thereU U (decide ((P.length : Int) = U.blocks.length)) b = withU U P b := rfl
  simp only [hwu, kB, kZ, kD, fillA, partsEv, zeroes, Nat.reduceSub, Int.reduceToNat, Nat.reduceMul, asInt?, asNat?, Int.reduceAdd, Int.reduceLE, Int.reduceLT, Int.reduceNeg, Nat.reduceLeDiff, VOpd.ev, Nat.reduceEqDiff, Nat.reduceAdd, reduceIte, reduceCtorEq, splice, resOf, tupOf, cellsV, AV.toV, AV.cell?, cellVal]
  refine condO_intro ?_ ?_ <;> intro hc
  · have hE : followU U P b size = (zeroU, 0, withU U P b) := by unfold followU; rw [if_pos hc]
    simp only [hc, kB, kZ, kD, fillA, partsEv, zeroes, Nat.reduceSub, Int.reduceToNat, Nat.reduceMul, asInt?, asNat?, Int.reduceAdd, Int.reduceLE, Int.reduceLT, Int.reduceNeg, Nat.reduceLeDiff, VOpd.ev, Nat.reduceEqDiff, Nat.reduceAdd, reduceIte, reduceCtorEq, splice, resOf, tupOf, cellsV, AV.toV, AV.cell?, cellVal]
    rw [hE]
    exact newU3_zero _ _ _
  have hw0 : withU U P b = 0 := Decidable.not_not.1 (of_decide_eq_false hc)
  obtain ⟨wf, hPN, x, hx, rfl⟩ := with_zero hw0
  have hE0 : followU U P x size = followFR U P x size := by unfold followU; rw [hc, Int.toNat_natCast]; rfl
  rw [hE0]
  clear hE0 hc
  simp only [hw0, kB, kZ, kD, fillA, partsEv, zeroes, Nat.reduceSub, Int.reduceToNat, Nat.reduceMul, asInt?, asNat?, Int.reduceAdd, Int.reduceLE, Int.reduceLT, Int.reduceNeg, Nat.reduceLeDiff, VOpd.ev, Nat.reduceEqDiff, Nat.reduceAdd, reduceIte, reduceCtorEq, splice, resOf, tupOf, cellsV, AV.toV, AV.cell?, cellVal]
  refine condO_intro ?_ ?_ <;> intro hc
  · have hE : followFR U P x size = (zeroU, 0, 2) := by unfold followFR; rw [if_pos hc]
    simp only [hc, kB, kZ, kD, fillA, partsEv, zeroes, Nat.reduceSub, Int.reduceToNat, Nat.reduceMul, asInt?, asNat?, Int.reduceAdd, Int.reduceLE, Int.reduceLT, Int.reduceNeg, Nat.reduceLeDiff, VOpd.ev, Nat.reduceEqDiff, Nat.reduceAdd, reduceIte, reduceCtorEq, splice, resOf, tupOf, cellsV, AV.toV, AV.cell?, cellVal]
    rw [hE]
    exact newU3_zero _ [_, _] _
  have hE : followFR U P x size = if decide (chkU (followR U P x size).1 ≠ 0) then (zeroU, 0, 11) else ((followR U P x size).1, ((followR U P x size).2 : Int), 0) := by unfold followFR; rw [hc]; rfl
  rw [hE]
  clear hE
  simp only [kB, kZ, kD, fillA, partsEv, zeroes, Nat.reduceSub, Int.reduceToNat, Nat.reduceMul, asInt?, asNat?, Int.reduceAdd, Int.reduceLE, Int.reduceLT, Int.reduceNeg, Nat.reduceLeDiff, VOpd.ev, Nat.reduceEqDiff, Nat.reduceAdd, reduceIte, reduceCtorEq, splice, resOf, tupOf, cellsV, AV.toV, AV.cell?, cellVal]
  refine callO_newU (w_code_Copy h.toOn (hm _) (by have := wf.sizes; omega) (by have := wf.nb; omega) (fun b hb => by have := (wf.blk b hb).ops; omega)) ?_
  intro w m hw2
  obtain ⟨sz, bl2, g, rfl, hz2, hb2⟩ := hw2.ex
  have hszc := isCell_len hz2.own.arr.len
  have hblc := isCell_len hb2.own.arr.len
  simp only [hszc, hblc, kB, kZ, kD, fillA, partsEv, zeroes, Nat.reduceSub, Int.reduceToNat, Nat.reduceMul, asInt?, asNat?, Int.reduceAdd, Int.reduceLE, Int.reduceLT, Int.reduceNeg, Nat.reduceLeDiff, VOpd.ev, Nat.reduceEqDiff, Nat.reduceAdd, reduceIte, reduceCtorEq, splice, resOf, tupOf, cellsV, AV.toV, AV.cell?, cellVal]
  have hl2 : (st ++ ([⟨[s, iA U.params, iA U.regs, iA U.code, iA U.spill, bl], 0, 0⟩, ⟨[.sc (.slice none 0 0), iA 0, iA 0, iA 0, iA 0, .sc (.slice none 0 0)], 0, 0⟩] : St)).length = st.length + 2 := by simp
  rw [hl2] at hz2 hb2
  have hagA : Agree (fun _ => False) ((st ++ ([⟨[s, iA U.params, iA U.regs, iA U.code, iA U.spill, bl], 0, 0⟩, ⟨[.sc (.slice none 0 0), iA 0, iA 0, iA 0, iA 0, .sc (.slice none 0 0)], 0, 0⟩] : St)) ++ m) (st ++ (⟨[s, iA U.params, iA U.regs, iA U.code, iA U.spill, bl], 0, 0⟩ :: ⟨[.sc (.slice none 0 0), iA 0, iA 0, iA 0, iA 0, .sc (.slice none 0 0)], 0, 0⟩ :: (m ++ [⟨[sz, iA U.params, iA U.regs, iA U.code, iA U.spill, bl2], 0, 1⟩])) : St) := by
    simpa using Agree.app (fun _ => False) ((st ++ ([⟨[s, iA U.params, iA U.regs, iA U.code, iA U.spill, bl], 0, 0⟩, ⟨[.sc (.slice none 0 0), iA 0, iA 0, iA 0, iA 0, .sc (.slice none 0 0)], 0, 0⟩] : St)) ++ m) [⟨[sz, iA U.params, iA U.regs, iA U.code, iA U.spill, bl2], 0, 1⟩]
  have hU0 : UPtr (st ++ (⟨[s, iA U.params, iA U.regs, iA U.code, iA U.spill, bl], 0, 0⟩ :: ⟨[.sc (.slice none 0 0), iA 0, iA 0, iA 0, iA 0, .sc (.slice none 0 0)], 0, 0⟩ :: (m ++ [⟨[sz, iA U.params, iA U.regs, iA U.code, iA U.spill, bl2], 0, 1⟩])) : St) (st.length + (m.length + 1 + 1)) (st.length + 2) sz bl2 g U := by
    refine OwnU.ptr (ver := 1) (hz2.agree hagA (fun _ _ _ h => h)) (hb2.agree hagA (fun _ _ _ h => h)) (by simp) (fun hx => ?_)
    have := (ubox_lt hz2 hb2 hx).2
    simp at this
  have hubl : st.length + 2 ≤ st.length + (m.length + 1 + 1) := by omega
  clear hagA hz2 hb2
  generalize hub : st.length + (m.length + 1 + 1) = ub at *
  generalize hM : m ++ ([⟨[sz, iA U.params, iA U.regs, iA U.code, iA U.spill, bl2], 0, 1⟩] : St) = M at *
  refine wpF.mono (w_trace_follow h.toOn (stp := st) ⟨_, rfl⟩ (by omega) (by omega) (by simp) hU0 hv0 hp wf hPN x hx size) ?_
  rintro r s' ⟨rfl, hag, f', hU⟩
  refine ⟨keptA_nil _ _ _, ?_⟩
  generalize followR U P x size = V at *
  obtain ⟨L, rfl⟩ : ∃ L, s' = st ++ (⟨[s, iA U.params, iA U.regs, iA U.code, iA U.spill, bl], 0, 0⟩ :: ⟨[.sc (.slice none 0 0), iA 0, iA 0, iA 0, iA 0, .sc (.slice none 0 0)], 0, 0⟩ :: L) := by
    have := (hag.mono (Y := fun n => st.length + 2 ≤ n) (fun n _ hn => by
      rcases hn with hn | hn
      · omega
      · exact hn)).shape (st := st) (M := [⟨[s, iA U.params, iA U.regs, iA U.code, iA U.spill, bl], 0, 0⟩, ⟨[.sc (.slice none 0 0), iA 0, iA 0, iA 0, iA 0, .sc (.slice none 0 0)], 0, 0⟩]) (N := M) (s' := s') (fun b hb => hb)
    simpa using this
  obtain ⟨ver', hb'⟩ := hU.box
  have d := atN_box hb' (by decide) 0 6 (by simp)
  simp only [kB, kZ, kD, fillA, partsEv, zeroes, Nat.reduceSub, Int.reduceToNat, Nat.reduceMul, asInt?, asNat?, Int.reduceAdd, Int.reduceLE, Int.reduceLT, Int.reduceNeg, Nat.reduceLeDiff, VOpd.ev, Nat.reduceEqDiff, Nat.reduceAdd, reduceIte, reduceCtorEq, splice, resOf, tupOf, cellsV, AV.toV, AV.cell?, cellVal] at d
  have hszc' := isCell_len hU.z.own.arr.len
  have hblc' := isCell_len hU.b.own.arr.len
  simp only [d, kB, kZ, kD, fillA, partsEv, zeroes, Nat.reduceSub, Int.reduceToNat, Nat.reduceMul, asInt?, asNat?, Int.reduceAdd, Int.reduceLE, Int.reduceLT, Int.reduceNeg, Nat.reduceLeDiff, VOpd.ev, Nat.reduceEqDiff, Nat.reduceAdd, reduceIte, reduceCtorEq, splice, resOf, tupOf, cellsV, AV.toV, AV.cell?, cellVal]
  refine callO_same (j_code_Check h (hg.app _) hU.own.unit) ?_
  simp only [kB, kZ, kD, fillA, partsEv, zeroes, Nat.reduceSub, Int.reduceToNat, Nat.reduceMul, asInt?, asNat?, Int.reduceAdd, Int.reduceLE, Int.reduceLT, Int.reduceNeg, Nat.reduceLeDiff, VOpd.ev, Nat.reduceEqDiff, Nat.reduceAdd, reduceIte, reduceCtorEq, splice, resOf, tupOf, cellsV, AV.toV, AV.cell?, cellVal]
  refine condO_intro ?_ ?_ <;> intro hc3
  · simp only [hc3, kB, kZ, kD, fillA, partsEv, zeroes, Nat.reduceSub, Int.reduceToNat, Nat.reduceMul, asInt?, asNat?, Int.reduceAdd, Int.reduceLE, Int.reduceLT, Int.reduceNeg, Nat.reduceLeDiff, VOpd.ev, Nat.reduceEqDiff, Nat.reduceAdd, reduceIte, reduceCtorEq, splice, resOf, tupOf, cellsV, AV.toV, AV.cell?, cellVal]
    exact newU3_zero _ _ _
  · simp only [hc3, d, hszc', hblc', kB, kZ, kD, fillA, partsEv, zeroes, Nat.reduceSub, Int.reduceToNat, Nat.reduceMul, asInt?, asNat?, Int.reduceAdd, Int.reduceLE, Int.reduceLT, Int.reduceNeg, Nat.reduceLeDiff, VOpd.ev, Nat.reduceEqDiff, Nat.reduceAdd, reduceIte, reduceCtorEq, splice, resOf, tupOf, cellsV, AV.toV, AV.cell?, cellVal]
    have hag2 := Agree.swap st [⟨[s, iA U.params, iA U.regs, iA U.code, iA U.spill, bl], 0, 0⟩] ⟨[.sc (.slice none 0 0), iA 0, iA 0, iA 0, iA 0, .sc (.slice none 0 0)], 0, 0⟩ ⟨[sz, iA V.1.params, iA V.1.regs, iA V.1.code, iA V.1.spill, bl2], 0, 1⟩ L
    exact ⟨_, rfl, ⟨_, rfl⟩, ⟨sz, bl2, f', rfl, (hU.z.agree hag2 (fun b hb _ h => by simp at h; omega)).low (by omega), (hU.b.agree hag2 (fun b hb _ h => by simp at h; omega)).low (by omega)⟩⟩
end
end Go.VX.Seat
end
