/- A part of the proofs of the statements of layer 17: S40, S41, S42, S43, S44. No condition is added here. -/
import Derived.Test.YtjimgnlmimimjaaDoorXC9
section
set_option linter.unusedVariables false
set_option linter.unusedSimpArgs false
set_option maxRecDepth 4000
/-! Profiles; likely ways. -/
namespace Go.VX.Seat
open Go.Proofs
structure CntV where
  n : Int
  t : Int
  e : Int
  deriving DecidableEq
def CntV.row (c : CntV) : List AV := [iA c.n, iA c.t, iA c.e]
abbrev CntsAt (st : St) (lo hi : Nat) (v : AV) (l : List CntV) : Prop := ArrAt st lo hi v 3 (l.map CntV.row)
/-- The likely way by an End and its count; -1: there is none. -/
def likN (e : EndV) (c : CntV) : Int := if e.k = 1 then (if 0 < c.t then 0 else -1) else if e.k = 2 then (if c.e ≤ c.t ∧ 0 < c.t then 1 else if c.t < c.e ∧ 0 < c.e then 2 else -1) else -1
def likI (e : EndV) (c : CntV) : Int := if e.k = 1 then 0 else if e.k = 2 then (if c.e ≤ c.t then 1 else 2) else 0
def likB (e : EndV) (c : CntV) : Bool := if e.k = 1 then decide (0 < c.t) else if e.k = 2 then (if c.e ≤ c.t then decide (0 < c.t) else decide (0 < c.e)) else false
theorem likB_eq (e : EndV) (c : CntV) : likB e c = decide (0 ≤ likN e c) := by
  unfold likB likN
  by_cases h1 : e.k = 1
  · rw [if_pos h1, if_pos h1]
    by_cases h : 0 < c.t <;> simp [h]
  · rw [if_neg h1, if_neg h1]
    by_cases h2 : e.k = 2
    · rw [if_pos h2, if_pos h2]
      by_cases h3 : c.e ≤ c.t
      · by_cases h : 0 < c.t
        · simp [h3, h]
        · have h4 : ¬ c.t < c.e := by omega
          simp [h3, h, h4]
      · have h4 : c.t < c.e := by omega
        by_cases h : 0 < c.e <;> simp [h3, h, h4]
    · rw [if_neg h2, if_neg h2]; simp
theorem likI_eq (e : EndV) (c : CntV) (h : 0 ≤ likN e c) : likI e c = likN e c := by
  unfold likI likN at *
  by_cases h1 : e.k = 1
  · rw [if_pos h1] at h ⊢
    rw [if_pos h1]
    split at h
    · rename_i h2; rw [if_pos h2]
    · omega
  · rw [if_neg h1] at h ⊢
    rw [if_neg h1]
    by_cases h2 : e.k = 2
    · rw [if_pos h2] at h ⊢
      rw [if_pos h2]
      split at h
      · rename_i h3
        rw [if_pos h3, if_pos h3.1]
      · rename_i h3
        rw [if_neg h3]
        split at h
        · rename_i h4
          rw [if_pos h4, if_neg (by omega)]
        · omega
    · rw [if_neg h2] at h
      omega
theorem likN_way (e : EndV) (c : CntV) : isWay e (likN e c) = decide (0 ≤ likN e c) := by
  unfold likN isWay wayTo wayElse
  by_cases h1 : e.k = 1
  · rw [if_pos h1]
    by_cases h : 0 < c.t <;> simp [h, h1]
  · rw [if_neg h1]
    by_cases h2 : e.k = 2
    · rw [if_pos h2]
      by_cases h3 : c.e ≤ c.t ∧ 0 < c.t
      · rw [if_pos h3]; simp [h2]
      · rw [if_neg h3]
        by_cases h4 : c.t < c.e ∧ 0 < c.e
        · rw [if_pos h4]; simp [h2]
        · rw [if_neg h4]; simp
    · rw [if_neg h2]; simp
theorem likN_range (e : EndV) (c : CntV) (h : 0 ≤ likN e c) : likN e c = 0 ∨ likN e c = 1 ∨ likN e c = 2 := by
  unfold likN at *
  split at h <;> (repeat' split at h) <;> simp_all
theorem cntRow_cells (l : List CntV) : (l.map CntV.row).flatten.all AV.isCell = true := by
  induction l with
  | nil => rfl
  | cons o l ih =>
    simp only [List.map_cons, List.flatten_cons, List.all_append, ih, Bool.and_true]
    rfl
theorem atN_lt {s : St} {b o n : Nat} {cs : List AV} (h : St.atN s b o n = some cs) : b < s.length := by
  unfold St.atN at h
  cases hb : s[b]? with
  | none => rw [hb] at h; cases h
  | some x => exact (List.getElem?_eq_some_iff.1 hb).1
section
variable {X : Cx} {st : St}
theorem w_profile (h : On X) {lo hi : Nat} {v : AV} {P : List CntV} (hv : CntsAt st lo hi v P) :
    wpF X 18 [v] st fun r s => ∃ w, r = .ret w ∧ (∃ m, s = st ++ m) ∧ OwnS s st.length w 3 ((P.take 20).map CntV.row) := by
  refine wpF_go (fn := v_l17_profile) (by rw [h.F]; rfl) ?_
  have l1 := hv.len
  simp only [List.length_map] at l1
  simp only [v_l17_profile, l1, kB, kZ, kD, fillA, partsEv, zeroes, Nat.reduceSub, Int.reduceToNat, Nat.reduceMul, asInt?, asNat?, Int.reduceAdd, Int.reduceLE, Int.reduceLT, Int.reduceNeg, Nat.reduceLeDiff, VOpd.ev, Nat.reduceEqDiff, Nat.reduceAdd, reduceIte, reduceCtorEq, splice, resOf, tupOf, cellsV, AV.toV, AV.cell?, cellVal]
  have hmin : (min (P.length : Int) 20) = ((min P.length 20 : Nat) : Int) := by omega
  refine opR_pre (vx := v) (n := min P.length 20) (lo := lo) (hi := hi) (rows := P.map CntV.row) (by simp only [kB, kZ, kD, fillA, partsEv, zeroes, Nat.reduceSub, Int.reduceToNat, Nat.reduceMul, asInt?, asNat?, Int.reduceAdd, Int.reduceLE, Int.reduceLT, Int.reduceNeg, Nat.reduceLeDiff, VOpd.ev, Nat.reduceEqDiff, Nat.reduceAdd, reduceIte, reduceCtorEq, splice, resOf, tupOf, cellsV, AV.toV, AV.cell?, cellVal]) (by rw [hmin]; simp only [kB, kZ, kD, fillA, partsEv, zeroes, Nat.reduceSub, Int.reduceToNat, Nat.reduceMul, asInt?, asNat?, Int.reduceAdd, Int.reduceLE, Int.reduceLT, Int.reduceNeg, Nat.reduceLeDiff, VOpd.ev, Nat.reduceEqDiff, Nat.reduceAdd, reduceIte, reduceCtorEq, splice, resOf, tupOf, cellsV, AV.toV, AV.cell?, cellVal]; rw [if_pos (by omega)]) (hv.mono _) (by simp; omega) ?_
  intro sz1 hsz1
  simp only [kB, kZ, kD, fillA, partsEv, zeroes, Nat.reduceSub, Int.reduceToNat, Nat.reduceMul, asInt?, asNat?, Int.reduceAdd, Int.reduceLE, Int.reduceLT, Int.reduceNeg, Nat.reduceLeDiff, VOpd.ev, Nat.reduceEqDiff, Nat.reduceAdd, reduceIte, reduceCtorEq, splice, resOf, tupOf, cellsV, AV.toV, AV.cell?, cellVal]
  refine opR_append (vx := .sl (st.length + 0) 0 0 3 true) (vy := sz1) (lo := st.length) (rows := []) (by simp only [kB, kZ, kD, fillA, partsEv, zeroes, Nat.reduceSub, Int.reduceToNat, Nat.reduceMul, asInt?, asNat?, Int.reduceAdd, Int.reduceLE, Int.reduceLT, Int.reduceNeg, Nat.reduceLeDiff, VOpd.ev, Nat.reduceEqDiff, Nat.reduceAdd, reduceIte, reduceCtorEq, splice, resOf, tupOf, cellsV, AV.toV, AV.cell?, cellVal]) (by simp only [kB, kZ, kD, fillA, partsEv, zeroes, Nat.reduceSub, Int.reduceToNat, Nat.reduceMul, asInt?, asNat?, Int.reduceAdd, Int.reduceLE, Int.reduceLT, Int.reduceNeg, Nat.reduceLeDiff, VOpd.ev, Nat.reduceEqDiff, Nat.reduceAdd, reduceIte, reduceCtorEq, splice, resOf, tupOf, cellsV, AV.toV, AV.cell?, cellVal]) (own_empty (by rw [Nat.add_zero, List.getElem?_append_right (by omega), Nat.sub_self]; rfl) (by decide) (by omega)) (by simp) hsz1 (by simp; omega) ?_ ?_
  · rw [← List.map_take]; exact cntRow_cells _
  intro sz s1 hag hown hsz
  obtain ⟨L, rfl⟩ := hag.ext (a := st) ⟨_, rfl⟩ (fun b hb hx => by have := hx.2; cases this; omega)
  have ht : P.take (min P.length 20) = P.take 20 := by
    rcases Nat.le_total P.length 20 with h | h
    · rw [Nat.min_eq_left h, List.take_length, List.take_of_length_le h]
    · rw [Nat.min_eq_right h]
  simp only [List.nil_append, ← List.map_take, ht] at hown
  simp only [kB, kZ, kD, fillA, partsEv, zeroes, Nat.reduceSub, Int.reduceToNat, Nat.reduceMul, asInt?, asNat?, Int.reduceAdd, Int.reduceLE, Int.reduceLT, Int.reduceNeg, Nat.reduceLeDiff, VOpd.ev, Nat.reduceEqDiff, Nat.reduceAdd, reduceIte, reduceCtorEq, splice, resOf, tupOf, cellsV, AV.toV, AV.cell?, cellVal]
  exact ⟨⟨L, rfl⟩, hown⟩
theorem j_trace_likely (h : On X) {lo hi lo' hi' : Nat} {v pv : AV} {U : UnitV} {P : List CntV} (hv : UnitAt st lo hi v U) (hp : CntsAt st lo' hi' pv P) (x : Nat) (hx : x < U.blocks.length) (hxp : x < P.length) :
    J X.P X.F X.H (.call 56 [v, pv, iA x] st (.ret (.tup [iA (likI U.blocks[x].e P[x]), bA (likB U.blocks[x].e P[x])])) st) := by
  refine pure_intro (by rw [h.F]; rfl) rfl ?_
  obtain ⟨s, bl, rfl, hs, hb⟩ := hv
  obtain ⟨f, hb, hbo⟩ := hb
  obtain ⟨b1, o1, he1, hn1, ha1, hm1⟩ := hb.get x (by simpa using hx)
  obtain ⟨b2, o2, he2, hn2, ha2, hm2⟩ := hp.get x (by simpa using hxp)
  simp only [List.getElem_mapIdx, List.getElem_map, BlkV.row, CntV.row] at hn1 hn2 ha1 ha2 hm1 hm2
  have r1 := fun L => hm1 L 1 4 (by omega)
  simp only [kB, kZ, kD, fillA, partsEv, zeroes, Nat.reduceSub, Int.reduceToNat, Nat.reduceMul, asInt?, asNat?, Int.reduceAdd, Int.reduceLE, Int.reduceLT, Int.reduceNeg, Nat.reduceLeDiff, VOpd.ev, Nat.reduceEqDiff, Nat.reduceAdd, reduceIte, reduceCtorEq, splice, resOf, tupOf, cellsV, AV.toV, AV.cell?, cellVal] at r1
  generalize U.blocks[x] = B at *
  generalize P[x] = C at *
  unfold likI likB
  simp only [v_trace_likely, he1, r1, he2, hn2, kB, kZ, kD, fillA, partsEv, zeroes, Nat.reduceSub, Int.reduceToNat, Nat.reduceMul, asInt?, asNat?, Int.reduceAdd, Int.reduceLE, Int.reduceLT, Int.reduceNeg, Nat.reduceLeDiff, VOpd.ev, Nat.reduceEqDiff, Nat.reduceAdd, reduceIte, reduceCtorEq, splice, resOf, tupOf, cellsV, AV.toV, AV.cell?, cellVal]
  have hb2 := atN_lt (hn2 [])
  rw [List.append_nil] at hb2
  refine ⟨kept_one (b := b2) (o := o2) (by simp only [kB, kZ, kD, fillA, partsEv, zeroes, Nat.reduceSub, Int.reduceToNat, Nat.reduceMul, asInt?, asNat?, Int.reduceAdd, Int.reduceLE, Int.reduceLT, Int.reduceNeg, Nat.reduceLeDiff, VOpd.ev, Nat.reduceEqDiff, Nat.reduceAdd, reduceIte, reduceCtorEq, splice, resOf, tupOf, cellsV, AV.toV, AV.cell?, cellVal]) (by rw [List.getElem?_append_left hb2, List.getElem?_append_left hb2]), ?_⟩
  refine condO_intro ?_ ?_ <;> intro hc
  · have hk : B.e.k = 1 := of_decide_eq_true hc
    simp only [hk, if_true, kB, kZ, kD, fillA, partsEv, zeroes, Nat.reduceSub, Int.reduceToNat, Nat.reduceMul, asInt?, asNat?, Int.reduceAdd, Int.reduceLE, Int.reduceLT, Int.reduceNeg, Nat.reduceLeDiff, VOpd.ev, Nat.reduceEqDiff, Nat.reduceAdd, reduceIte, reduceCtorEq, splice, resOf, tupOf, cellsV, AV.toV, AV.cell?, cellVal]
    first | exact ⟨_, rfl⟩ | exact ⟨rfl, _, rfl⟩ | exact ⟨trivial, _, rfl⟩ | exact ⟨[], (List.append_nil _).symm⟩
  · have hk : ¬ B.e.k = 1 := of_decide_eq_false hc
    simp only [hk, if_false, kB, kZ, kD, fillA, partsEv, zeroes, Nat.reduceSub, Int.reduceToNat, Nat.reduceMul, asInt?, asNat?, Int.reduceAdd, Int.reduceLE, Int.reduceLT, Int.reduceNeg, Nat.reduceLeDiff, VOpd.ev, Nat.reduceEqDiff, Nat.reduceAdd, reduceIte, reduceCtorEq, splice, resOf, tupOf, cellsV, AV.toV, AV.cell?, cellVal]
    refine condO_intro ?_ ?_ <;> intro hc2
    · have hk2 : ¬ B.e.k = 2 := of_decide_eq_true hc2
      simp only [hk2, if_false, kB, kZ, kD, fillA, partsEv, zeroes, Nat.reduceSub, Int.reduceToNat, Nat.reduceMul, asInt?, asNat?, Int.reduceAdd, Int.reduceLE, Int.reduceLT, Int.reduceNeg, Nat.reduceLeDiff, VOpd.ev, Nat.reduceEqDiff, Nat.reduceAdd, reduceIte, reduceCtorEq, splice, resOf, tupOf, cellsV, AV.toV, AV.cell?, cellVal]
      first | exact ⟨_, rfl⟩ | exact ⟨rfl, _, rfl⟩ | exact ⟨trivial, _, rfl⟩ | exact ⟨[], (List.append_nil _).symm⟩
    · have hk2 : B.e.k = 2 := Decidable.not_not.1 (of_decide_eq_false hc2)
      simp only [hk2, if_true, kB, kZ, kD, fillA, partsEv, zeroes, Nat.reduceSub, Int.reduceToNat, Nat.reduceMul, asInt?, asNat?, Int.reduceAdd, Int.reduceLE, Int.reduceLT, Int.reduceNeg, Nat.reduceLeDiff, VOpd.ev, Nat.reduceEqDiff, Nat.reduceAdd, reduceIte, reduceCtorEq, splice, resOf, tupOf, cellsV, AV.toV, AV.cell?, cellVal]
      refine condO_intro ?_ ?_ <;> intro hc3
      · have h3 : C.e ≤ C.t := of_decide_eq_true hc3
        simp only [h3, if_true, kB, kZ, kD, fillA, partsEv, zeroes, Nat.reduceSub, Int.reduceToNat, Nat.reduceMul, asInt?, asNat?, Int.reduceAdd, Int.reduceLE, Int.reduceLT, Int.reduceNeg, Nat.reduceLeDiff, VOpd.ev, Nat.reduceEqDiff, Nat.reduceAdd, reduceIte, reduceCtorEq, splice, resOf, tupOf, cellsV, AV.toV, AV.cell?, cellVal]
        first | exact ⟨_, rfl⟩ | exact ⟨rfl, _, rfl⟩ | exact ⟨trivial, _, rfl⟩ | exact ⟨[], (List.append_nil _).symm⟩
      · have h3 : ¬ C.e ≤ C.t := of_decide_eq_false hc3
        simp only [h3, if_false, kB, kZ, kD, fillA, partsEv, zeroes, Nat.reduceSub, Int.reduceToNat, Nat.reduceMul, asInt?, asNat?, Int.reduceAdd, Int.reduceLE, Int.reduceLT, Int.reduceNeg, Nat.reduceLeDiff, VOpd.ev, Nat.reduceEqDiff, Nat.reduceAdd, reduceIte, reduceCtorEq, splice, resOf, tupOf, cellsV, AV.toV, AV.cell?, cellVal]
        first | exact ⟨_, rfl⟩ | exact ⟨rfl, _, rfl⟩ | exact ⟨trivial, _, rfl⟩ | exact ⟨[], (List.append_nil _).symm⟩
end
end Go.VX.Seat
end
section
set_option linter.unusedVariables false
set_option linter.unusedSimpArgs false
set_option maxRecDepth 4000
/-! Numbers in lists; the reference's likely way; with. -/
namespace Go.VX.Seat
open Go.Proofs
section
variable {X : Cx} {st : St}
theorem not_mem_take {l : List Int} {n : Int} (h : ∀ j (hj : j < l.length), l[j] ≠ n) : n ∉ l := fun hm => by
  obtain ⟨i, hi, e⟩ := List.getElem_of_mem hm
  exact h i hi e
theorem j_slices_Index_int (h : On X) {lo hi : Nat} {v : AV} {l : List Int} (hv : IntsAt st lo hi v l) (n : Int) (hlen : (l.length : Int) < 4611686018427387904) :
    wpF X 93 [v, iA n] st fun r s => s = st ∧ ∃ i : Int, r = .ret (iA i) ∧ decide (0 ≤ i) = decide (n ∈ l) := by
  suffices hs : ∃ i : Int, (decide (0 ≤ i) = decide (n ∈ l)) ∧ J X.P X.F X.H (.call 93 [v, iA n] st (.ret (iA i)) st) by
    obtain ⟨i, h1, h2⟩ := hs
    exact ⟨_, _, h2, rfl, i, rfl, h1⟩
  by_cases hm : n ∈ l
  · obtain ⟨k, hk, hkn, hkb⟩ : ∃ k, ∃ hk : k < l.length, l[k] = n ∧ ∀ j (hj : j < l.length), j < k → l[j] ≠ n := by
      clear hv hlen
      induction l with
      | nil => cases hm
      | cons a r ih =>
        by_cases ha : a = n
        · exact ⟨0, by simp, by simpa using ha, fun j _ hj => absurd hj (by omega)⟩
        · have hm' : n ∈ r := by
            rcases List.mem_cons.1 hm with h | h
            · exact absurd h.symm ha
            · exact h
          obtain ⟨k, hk, h1, h2⟩ := ih hm'
          refine ⟨k + 1, by simpa using hk, by simpa using h1, fun j hj hjk => ?_⟩
          cases j with
          | zero => simpa using ha
          | succ j => simpa using h2 j (by simpa using hj) (by omega)
    refine ⟨k, by rw [decide_eq_true hm]; exact decide_eq_true (by omega), ?_⟩
    refine pure_intro (by rw [h.F]; rfl) rfl ?_
    have l1 := hv.len
    simp only [List.length_map] at l1
    simp only [v_slices_Index_int, l1, kB, kZ, kD, fillA, partsEv, zeroes, Nat.reduceSub, Int.reduceToNat, Nat.reduceMul, asInt?, asNat?, Int.reduceAdd, Int.reduceLE, Int.reduceLT, Int.reduceNeg, Nat.reduceLeDiff, VOpd.ev, Nat.reduceEqDiff, Nat.reduceAdd, reduceIte, reduceCtorEq, splice, resOf, tupOf, cellsV, AV.toV, AV.cell?, cellVal]
    refine loop_live [0, 1, 7] (fun m e => ∃ i : Nat, i + m = l.length ∧ e 8 = iA i ∧ i ≤ k) l.length ?_ ?_
    · exact ⟨0, by omega, by simp only [kB, kZ, kD, fillA, partsEv, zeroes, Nat.reduceSub, Int.reduceToNat, Nat.reduceMul, asInt?, asNat?, Int.reduceAdd, Int.reduceLE, Int.reduceLT, Int.reduceNeg, Nat.reduceLeDiff, VOpd.ev, Nat.reduceEqDiff, Nat.reduceAdd, reduceIte, reduceCtorEq, splice, resOf, tupOf, cellsV, AV.toV, AV.cell?, cellVal], by omega⟩
    · intro m e hL ⟨i, him, h5, hik⟩
      simp only [kB, kZ, kD, fillA, partsEv, zeroes, Nat.reduceSub, Int.reduceToNat, Nat.reduceMul, asInt?, asNat?, Int.reduceAdd, Int.reduceLE, Int.reduceLT, Int.reduceNeg, Nat.reduceLeDiff, VOpd.ev, Nat.reduceEqDiff, Nat.reduceAdd, reduceIte, reduceCtorEq, splice, resOf, tupOf, cellsV, AV.toV, AV.cell?, cellVal] at hL
      obtain ⟨h0, h1, h7⟩ := hL
      simp only [h0, h1, h7, h5, kB, kZ, kD, fillA, partsEv, zeroes, Nat.reduceSub, Int.reduceToNat, Nat.reduceMul, asInt?, asNat?, Int.reduceAdd, Int.reduceLE, Int.reduceLT, Int.reduceNeg, Nat.reduceLeDiff, VOpd.ev, Nat.reduceEqDiff, Nat.reduceAdd, reduceIte, reduceCtorEq, splice, resOf, tupOf, cellsV, AV.toV, AV.cell?, cellVal]
      have hc : decide ((i : Int) < (l.length : Int)) = true := decide_eq_true (by omega)
      obtain ⟨b1, o1, he1, _, ha1, _⟩ := hv.get i (by simp; omega)
      have a1 := ha1 [] 0 (by omega)
      simp only [List.getElem_map, Nat.add_zero, List.getElem?_cons_zero] at a1
      simp only [hc, h0, h1, h7, h5, he1, a1, kB, kZ, kD, fillA, partsEv, zeroes, Nat.reduceSub, Int.reduceToNat, Nat.reduceMul, asInt?, asNat?, Int.reduceAdd, Int.reduceLE, Int.reduceLT, Int.reduceNeg, Nat.reduceLeDiff, VOpd.ev, Nat.reduceEqDiff, Nat.reduceAdd, reduceIte, reduceCtorEq, splice, resOf, tupOf, cellsV, AV.toV, AV.cell?, cellVal]
      refine condO_intro ?_ ?_ <;> intro hq
      · have hq := of_decide_eq_true hq
        have : i = k := by
          rcases Nat.lt_or_ge i k with h | h
          · exact absurd hq.symm (hkb i (by omega) h)
          · omega
        subst this
        simp only [h5, kB, kZ, kD, fillA, partsEv, zeroes, Nat.reduceSub, Int.reduceToNat, Nat.reduceMul, asInt?, asNat?, Int.reduceAdd, Int.reduceLE, Int.reduceLT, Int.reduceNeg, Nat.reduceLeDiff, VOpd.ev, Nat.reduceEqDiff, Nat.reduceAdd, reduceIte, reduceCtorEq, splice, resOf, tupOf, cellsV, AV.toV, AV.cell?, cellVal]
        first | exact ⟨_, rfl⟩ | exact ⟨rfl, _, rfl⟩ | exact ⟨trivial, _, rfl⟩ | exact ⟨[], (List.append_nil _).symm⟩
      · have hq := of_decide_eq_false hq
        have hne : i ≠ k := fun e => hq (by subst e; exact hkn.symm)
        simp only [h0, h1, h7, h5, kB, kZ, kD, fillA, partsEv, zeroes, Nat.reduceSub, Int.reduceToNat, Nat.reduceMul, asInt?, asNat?, Int.reduceAdd, Int.reduceLE, Int.reduceLT, Int.reduceNeg, Nat.reduceLeDiff, VOpd.ev, Nat.reduceEqDiff, Nat.reduceAdd, reduceIte, reduceCtorEq, splice, resOf, tupOf, cellsV, AV.toV, AV.cell?, cellVal]
        rw [wrap_small (by omega) (by omega)]
        exact ⟨m - 1, by omega, i + 1, by omega, by simp, by omega⟩
  · refine ⟨-1, by rw [decide_eq_false hm]; rfl, ?_⟩
    refine pure_intro (by rw [h.F]; rfl) rfl ?_
    have l1 := hv.len
    simp only [List.length_map] at l1
    simp only [v_slices_Index_int, l1, kB, kZ, kD, fillA, partsEv, zeroes, Nat.reduceSub, Int.reduceToNat, Nat.reduceMul, asInt?, asNat?, Int.reduceAdd, Int.reduceLE, Int.reduceLT, Int.reduceNeg, Nat.reduceLeDiff, VOpd.ev, Nat.reduceEqDiff, Nat.reduceAdd, reduceIte, reduceCtorEq, splice, resOf, tupOf, cellsV, AV.toV, AV.cell?, cellVal]
    refine loop_live [0, 1, 7] (fun m e => ∃ i : Nat, i + m = l.length ∧ e 8 = iA i) l.length ?_ ?_
    · exact ⟨0, by omega, by simp only [kB, kZ, kD, fillA, partsEv, zeroes, Nat.reduceSub, Int.reduceToNat, Nat.reduceMul, asInt?, asNat?, Int.reduceAdd, Int.reduceLE, Int.reduceLT, Int.reduceNeg, Nat.reduceLeDiff, VOpd.ev, Nat.reduceEqDiff, Nat.reduceAdd, reduceIte, reduceCtorEq, splice, resOf, tupOf, cellsV, AV.toV, AV.cell?, cellVal]⟩
    · intro m e hL ⟨i, him, h5⟩
      simp only [kB, kZ, kD, fillA, partsEv, zeroes, Nat.reduceSub, Int.reduceToNat, Nat.reduceMul, asInt?, asNat?, Int.reduceAdd, Int.reduceLE, Int.reduceLT, Int.reduceNeg, Nat.reduceLeDiff, VOpd.ev, Nat.reduceEqDiff, Nat.reduceAdd, reduceIte, reduceCtorEq, splice, resOf, tupOf, cellsV, AV.toV, AV.cell?, cellVal] at hL
      obtain ⟨h0, h1, h7⟩ := hL
      simp only [h0, h1, h7, h5, kB, kZ, kD, fillA, partsEv, zeroes, Nat.reduceSub, Int.reduceToNat, Nat.reduceMul, asInt?, asNat?, Int.reduceAdd, Int.reduceLE, Int.reduceLT, Int.reduceNeg, Nat.reduceLeDiff, VOpd.ev, Nat.reduceEqDiff, Nat.reduceAdd, reduceIte, reduceCtorEq, splice, resOf, tupOf, cellsV, AV.toV, AV.cell?, cellVal]
      refine condO_intro ?_ ?_ <;> intro hc <;> simp only [kB, kZ, kD, fillA, partsEv, zeroes, Nat.reduceSub, Int.reduceToNat, Nat.reduceMul, asInt?, asNat?, Int.reduceAdd, Int.reduceLE, Int.reduceLT, Int.reduceNeg, Nat.reduceLeDiff, VOpd.ev, Nat.reduceEqDiff, Nat.reduceAdd, reduceIte, reduceCtorEq, splice, resOf, tupOf, cellsV, AV.toV, AV.cell?, cellVal]
      · have hi : i < l.length := by have := of_decide_eq_true hc; omega
        obtain ⟨b1, o1, he1, _, ha1, _⟩ := hv.get i (by simpa using hi)
        have a1 := ha1 [] 0 (by omega)
        simp only [List.getElem_map, Nat.add_zero, List.getElem?_cons_zero] at a1
        have hq : decide (n = l[i]) = false := decide_eq_false fun e => hm (by rw [e]; exact List.getElem_mem hi)
        simp only [h0, h1, h7, h5, he1, a1, hq, kB, kZ, kD, fillA, partsEv, zeroes, Nat.reduceSub, Int.reduceToNat, Nat.reduceMul, asInt?, asNat?, Int.reduceAdd, Int.reduceLE, Int.reduceLT, Int.reduceNeg, Nat.reduceLeDiff, VOpd.ev, Nat.reduceEqDiff, Nat.reduceAdd, reduceIte, reduceCtorEq, splice, resOf, tupOf, cellsV, AV.toV, AV.cell?, cellVal]
        rw [wrap_small (by omega) (by omega)]
        exact ⟨m - 1, by omega, i + 1, by omega, by simp⟩
      · first | exact ⟨_, rfl⟩ | exact ⟨rfl, _, rfl⟩ | exact ⟨trivial, _, rfl⟩ | exact ⟨[], (List.append_nil _).symm⟩
theorem j_Contains (h : On X) {lo hi : Nat} {v : AV} {l : List Int} (hv : IntsAt st lo hi v l) (n : Int) (hlen : (l.length : Int) < 4611686018427387904) :
    J X.P X.F X.H (.call 74 [v, iA n] st (.ret (bA (decide (n ∈ l)))) st) := by
  refine pure_intro (by rw [h.F]; rfl) rfl ?_
  have hm := fun L => ArrAt.mono hv L
  simp only [v_slices_Contains_int, kB, kZ, kD, fillA, partsEv, zeroes, Nat.reduceSub, Int.reduceToNat, Nat.reduceMul, asInt?, asNat?, Int.reduceAdd, Int.reduceLE, Int.reduceLT, Int.reduceNeg, Nat.reduceLeDiff, VOpd.ev, Nat.reduceEqDiff, Nat.reduceAdd, reduceIte, reduceCtorEq, splice, resOf, tupOf, cellsV, AV.toV, AV.cell?, cellVal]
  refine wpF.mono (j_slices_Index_int h (hm []) n hlen) ?_
  rintro r s ⟨rfl, i, rfl, hd⟩
  refine ⟨keptA_nil _ _ _, ?_⟩
  simp only [hd, kB, kZ, kD, fillA, partsEv, zeroes, Nat.reduceSub, Int.reduceToNat, Nat.reduceMul, asInt?, asNat?, Int.reduceAdd, Int.reduceLE, Int.reduceLT, Int.reduceNeg, Nat.reduceLeDiff, VOpd.ev, Nat.reduceEqDiff, Nat.reduceAdd, reduceIte, reduceCtorEq, splice, resOf, tupOf, cellsV, AV.toV, AV.cell?, cellVal]
  first | exact ⟨_, rfl⟩ | exact ⟨rfl, _, rfl⟩ | exact ⟨trivial, _, rfl⟩ | exact ⟨[], (List.append_nil _).symm⟩
theorem j_r17_in (h : On X) {lo hi : Nat} {v : AV} {l : List Int} (hv : IntsAt st lo hi v l) (n : Int) (hlen : (l.length : Int) < 4611686018427387904) :
    J X.P X.F X.H (.call 58 [v, iA n] st (.ret (bA (decide (n ∈ l)))) st) := by
  refine pure_intro (by rw [h.F]; rfl) rfl ?_
  have l1 := hv.len
  simp only [List.length_map] at l1
  simp only [v_r17_in, kB, kZ, kD, fillA, partsEv, zeroes, Nat.reduceSub, Int.reduceToNat, Nat.reduceMul, asInt?, asNat?, Int.reduceAdd, Int.reduceLE, Int.reduceLT, Int.reduceNeg, Nat.reduceLeDiff, VOpd.ev, Nat.reduceEqDiff, Nat.reduceAdd, reduceIte, reduceCtorEq, splice, resOf, tupOf, cellsV, AV.toV, AV.cell?, cellVal]
  refine loop_live [0, 1] (fun m e => ∃ i : Nat, i + m = l.length ∧ e 5 = iA i ∧ ∀ j (hj : j < l.length), j < i → l[j] ≠ n) l.length ?_ ?_
  · exact ⟨0, by omega, by simp only [kB, kZ, kD, fillA, partsEv, zeroes, Nat.reduceSub, Int.reduceToNat, Nat.reduceMul, asInt?, asNat?, Int.reduceAdd, Int.reduceLE, Int.reduceLT, Int.reduceNeg, Nat.reduceLeDiff, VOpd.ev, Nat.reduceEqDiff, Nat.reduceAdd, reduceIte, reduceCtorEq, splice, resOf, tupOf, cellsV, AV.toV, AV.cell?, cellVal], fun j _ hj => absurd hj (by omega)⟩
  · intro m e hL ⟨i, him, h5, hpre⟩
    simp only [kB, kZ, kD, fillA, partsEv, zeroes, Nat.reduceSub, Int.reduceToNat, Nat.reduceMul, asInt?, asNat?, Int.reduceAdd, Int.reduceLE, Int.reduceLT, Int.reduceNeg, Nat.reduceLeDiff, VOpd.ev, Nat.reduceEqDiff, Nat.reduceAdd, reduceIte, reduceCtorEq, splice, resOf, tupOf, cellsV, AV.toV, AV.cell?, cellVal] at hL
    obtain ⟨h0, h1⟩ := hL
    simp only [h0, h1, h5, l1, kB, kZ, kD, fillA, partsEv, zeroes, Nat.reduceSub, Int.reduceToNat, Nat.reduceMul, asInt?, asNat?, Int.reduceAdd, Int.reduceLE, Int.reduceLT, Int.reduceNeg, Nat.reduceLeDiff, VOpd.ev, Nat.reduceEqDiff, Nat.reduceAdd, reduceIte, reduceCtorEq, splice, resOf, tupOf, cellsV, AV.toV, AV.cell?, cellVal]
    refine condO_intro ?_ ?_ <;> intro hc <;> simp only [kB, kZ, kD, fillA, partsEv, zeroes, Nat.reduceSub, Int.reduceToNat, Nat.reduceMul, asInt?, asNat?, Int.reduceAdd, Int.reduceLE, Int.reduceLT, Int.reduceNeg, Nat.reduceLeDiff, VOpd.ev, Nat.reduceEqDiff, Nat.reduceAdd, reduceIte, reduceCtorEq, splice, resOf, tupOf, cellsV, AV.toV, AV.cell?, cellVal]
    · have hi : i < l.length := by have := of_decide_eq_true hc; omega
      obtain ⟨b1, o1, he1, _, ha1, _⟩ := hv.get i (by simpa using hi)
      have a1 := ha1 [] 0 (by omega)
      simp only [List.getElem_map, Nat.add_zero, List.getElem?_cons_zero] at a1
      simp only [h0, h1, h5, he1, a1, kB, kZ, kD, fillA, partsEv, zeroes, Nat.reduceSub, Int.reduceToNat, Nat.reduceMul, asInt?, asNat?, Int.reduceAdd, Int.reduceLE, Int.reduceLT, Int.reduceNeg, Nat.reduceLeDiff, VOpd.ev, Nat.reduceEqDiff, Nat.reduceAdd, reduceIte, reduceCtorEq, splice, resOf, tupOf, cellsV, AV.toV, AV.cell?, cellVal]
      refine condO_intro ?_ ?_ <;> intro hq
      · have hq := of_decide_eq_true hq
        have hmem : decide (n ∈ l) = true := decide_eq_true (by rw [← hq]; exact List.getElem_mem hi)
        simp only [hmem, kB, kZ, kD, fillA, partsEv, zeroes, Nat.reduceSub, Int.reduceToNat, Nat.reduceMul, asInt?, asNat?, Int.reduceAdd, Int.reduceLE, Int.reduceLT, Int.reduceNeg, Nat.reduceLeDiff, VOpd.ev, Nat.reduceEqDiff, Nat.reduceAdd, reduceIte, reduceCtorEq, splice, resOf, tupOf, cellsV, AV.toV, AV.cell?, cellVal]
        first | exact ⟨_, rfl⟩ | exact ⟨rfl, _, rfl⟩ | exact ⟨trivial, _, rfl⟩ | exact ⟨[], (List.append_nil _).symm⟩
      · have hq := of_decide_eq_false hq
        simp only [h0, h1, h5, kB, kZ, kD, fillA, partsEv, zeroes, Nat.reduceSub, Int.reduceToNat, Nat.reduceMul, asInt?, asNat?, Int.reduceAdd, Int.reduceLE, Int.reduceLT, Int.reduceNeg, Nat.reduceLeDiff, VOpd.ev, Nat.reduceEqDiff, Nat.reduceAdd, reduceIte, reduceCtorEq, splice, resOf, tupOf, cellsV, AV.toV, AV.cell?, cellVal]
        rw [wrap_small (by omega) (by omega)]
        refine ⟨m - 1, by omega, i + 1, by omega, by simp, fun j hj hji => ?_⟩
        by_cases he : j = i
        · subst he; exact hq
        · exact hpre j hj (by omega)
    · have hi : i = l.length := by have := of_decide_eq_false hc; omega
      have hmem : decide (n ∈ l) = false := decide_eq_false (not_mem_take fun j hj => hpre j hj (by omega))
      simp only [hmem, kB, kZ, kD, fillA, partsEv, zeroes, Nat.reduceSub, Int.reduceToNat, Nat.reduceMul, asInt?, asNat?, Int.reduceAdd, Int.reduceLE, Int.reduceLT, Int.reduceNeg, Nat.reduceLeDiff, VOpd.ev, Nat.reduceEqDiff, Nat.reduceAdd, reduceIte, reduceCtorEq, splice, resOf, tupOf, cellsV, AV.toV, AV.cell?, cellVal]
      first | exact ⟨_, rfl⟩ | exact ⟨rfl, _, rfl⟩ | exact ⟨trivial, _, rfl⟩ | exact ⟨[], (List.append_nil _).symm⟩
theorem j_r17_Likely (h : On X) {lo hi lo' hi' : Nat} {v pv : AV} {U : UnitV} {P : List CntV} (hv : UnitAt st lo hi v U) (hp : CntsAt st lo' hi' pv P) (x : Nat) (hx : x < U.blocks.length) (hxp : x < P.length) :
    J X.P X.F X.H (.call 29 [v, pv, iA x] st (.ret (iA (likN U.blocks[x].e P[x]))) st) := by
  refine pure_intro (by rw [h.F]; rfl) rfl ?_
  obtain ⟨s, bl, rfl, hs, hb⟩ := hv
  obtain ⟨f, hb, hbo⟩ := hb
  obtain ⟨b1, o1, he1, hn1, ha1, hm1⟩ := hb.get x (by simpa using hx)
  obtain ⟨b2, o2, he2, hn2, ha2, hm2⟩ := hp.get x (by simpa using hxp)
  simp only [List.getElem_mapIdx, List.getElem_map, BlkV.row, CntV.row] at hn1 hn2 ha1 ha2 hm1 hm2
  have r1 := fun L => ha1 L 1 (by omega)
  simp only [kB, kZ, kD, fillA, partsEv, zeroes, Nat.reduceSub, Int.reduceToNat, Nat.reduceMul, asInt?, asNat?, Int.reduceAdd, Int.reduceLE, Int.reduceLT, Int.reduceNeg, Nat.reduceLeDiff, VOpd.ev, Nat.reduceEqDiff, Nat.reduceAdd, reduceIte, reduceCtorEq, splice, resOf, tupOf, cellsV, AV.toV, AV.cell?, cellVal] at r1
  generalize U.blocks[x] = B at *
  generalize P[x] = C at *
  unfold likN
  simp only [v_r17_Likely, he1, r1, he2, hn2, kB, kZ, kD, fillA, partsEv, zeroes, Nat.reduceSub, Int.reduceToNat, Nat.reduceMul, asInt?, asNat?, Int.reduceAdd, Int.reduceLE, Int.reduceLT, Int.reduceNeg, Nat.reduceLeDiff, VOpd.ev, Nat.reduceEqDiff, Nat.reduceAdd, reduceIte, reduceCtorEq, splice, resOf, tupOf, cellsV, AV.toV, AV.cell?, cellVal]
  refine condO_intro ?_ ?_ <;> intro hc
  · have hk : B.e.k = 1 := of_decide_eq_true hc
    simp only [hk, if_true, kB, kZ, kD, fillA, partsEv, zeroes, Nat.reduceSub, Int.reduceToNat, Nat.reduceMul, asInt?, asNat?, Int.reduceAdd, Int.reduceLE, Int.reduceLT, Int.reduceNeg, Nat.reduceLeDiff, VOpd.ev, Nat.reduceEqDiff, Nat.reduceAdd, reduceIte, reduceCtorEq, splice, resOf, tupOf, cellsV, AV.toV, AV.cell?, cellVal]
    refine condO_intro ?_ ?_ <;> intro hc2
    · have h2 : 0 < C.t := of_decide_eq_true hc2
      simp only [h2, if_true, kB, kZ, kD, fillA, partsEv, zeroes, Nat.reduceSub, Int.reduceToNat, Nat.reduceMul, asInt?, asNat?, Int.reduceAdd, Int.reduceLE, Int.reduceLT, Int.reduceNeg, Nat.reduceLeDiff, VOpd.ev, Nat.reduceEqDiff, Nat.reduceAdd, reduceIte, reduceCtorEq, splice, resOf, tupOf, cellsV, AV.toV, AV.cell?, cellVal]
      first | exact ⟨_, rfl⟩ | exact ⟨rfl, _, rfl⟩ | exact ⟨trivial, _, rfl⟩ | exact ⟨[], (List.append_nil _).symm⟩
    · have h2 : ¬ 0 < C.t := of_decide_eq_false hc2
      simp only [h2, if_false, kB, kZ, kD, fillA, partsEv, zeroes, Nat.reduceSub, Int.reduceToNat, Nat.reduceMul, asInt?, asNat?, Int.reduceAdd, Int.reduceLE, Int.reduceLT, Int.reduceNeg, Nat.reduceLeDiff, VOpd.ev, Nat.reduceEqDiff, Nat.reduceAdd, reduceIte, reduceCtorEq, splice, resOf, tupOf, cellsV, AV.toV, AV.cell?, cellVal]
      first | exact ⟨_, rfl⟩ | exact ⟨rfl, _, rfl⟩ | exact ⟨trivial, _, rfl⟩ | exact ⟨[], (List.append_nil _).symm⟩
  · have hk : ¬ B.e.k = 1 := of_decide_eq_false hc
    simp only [hk, if_false, kB, kZ, kD, fillA, partsEv, zeroes, Nat.reduceSub, Int.reduceToNat, Nat.reduceMul, asInt?, asNat?, Int.reduceAdd, Int.reduceLE, Int.reduceLT, Int.reduceNeg, Nat.reduceLeDiff, VOpd.ev, Nat.reduceEqDiff, Nat.reduceAdd, reduceIte, reduceCtorEq, splice, resOf, tupOf, cellsV, AV.toV, AV.cell?, cellVal]
    refine condO_intro ?_ ?_ <;> intro hc2
    · have hk2 : B.e.k = 2 := of_decide_eq_true hc2
      simp only [hk2, if_true, kB, kZ, kD, fillA, partsEv, zeroes, Nat.reduceSub, Int.reduceToNat, Nat.reduceMul, asInt?, asNat?, Int.reduceAdd, Int.reduceLE, Int.reduceLT, Int.reduceNeg, Nat.reduceLeDiff, VOpd.ev, Nat.reduceEqDiff, Nat.reduceAdd, reduceIte, reduceCtorEq, splice, resOf, tupOf, cellsV, AV.toV, AV.cell?, cellVal]
      by_cases h3 : C.e ≤ C.t
      · have h3' : ¬ C.t < C.e := by omega
        by_cases h4 : 0 < C.t
        · simp only [h3, h4, decide_true, and_self, if_true, kB, kZ, kD, fillA, partsEv, zeroes, Nat.reduceSub, Int.reduceToNat, Nat.reduceMul, asInt?, asNat?, Int.reduceAdd, Int.reduceLE, Int.reduceLT, Int.reduceNeg, Nat.reduceLeDiff, VOpd.ev, Nat.reduceEqDiff, Nat.reduceAdd, reduceIte, reduceCtorEq, splice, resOf, tupOf, cellsV, AV.toV, AV.cell?, cellVal]
          first | exact ⟨_, rfl⟩ | exact ⟨rfl, _, rfl⟩ | exact ⟨trivial, _, rfl⟩ | exact ⟨[], (List.append_nil _).symm⟩
        · simp only [h3, h3', h4, decide_true, decide_false, and_false, false_and, if_false, kB, kZ, kD, fillA, partsEv, zeroes, Nat.reduceSub, Int.reduceToNat, Nat.reduceMul, asInt?, asNat?, Int.reduceAdd, Int.reduceLE, Int.reduceLT, Int.reduceNeg, Nat.reduceLeDiff, VOpd.ev, Nat.reduceEqDiff, Nat.reduceAdd, reduceIte, reduceCtorEq, splice, resOf, tupOf, cellsV, AV.toV, AV.cell?, cellVal]
          first | exact ⟨_, rfl⟩ | exact ⟨rfl, _, rfl⟩ | exact ⟨trivial, _, rfl⟩ | exact ⟨[], (List.append_nil _).symm⟩
      · have h3' : C.t < C.e := by omega
        by_cases h4 : 0 < C.e
        · simp only [h3, h3', h4, decide_true, decide_false, and_self, false_and, if_true, if_false, kB, kZ, kD, fillA, partsEv, zeroes, Nat.reduceSub, Int.reduceToNat, Nat.reduceMul, asInt?, asNat?, Int.reduceAdd, Int.reduceLE, Int.reduceLT, Int.reduceNeg, Nat.reduceLeDiff, VOpd.ev, Nat.reduceEqDiff, Nat.reduceAdd, reduceIte, reduceCtorEq, splice, resOf, tupOf, cellsV, AV.toV, AV.cell?, cellVal]
          first | exact ⟨_, rfl⟩ | exact ⟨rfl, _, rfl⟩ | exact ⟨trivial, _, rfl⟩ | exact ⟨[], (List.append_nil _).symm⟩
        · simp only [h3, h3', h4, decide_true, decide_false, and_false, false_and, if_false, kB, kZ, kD, fillA, partsEv, zeroes, Nat.reduceSub, Int.reduceToNat, Nat.reduceMul, asInt?, asNat?, Int.reduceAdd, Int.reduceLE, Int.reduceLT, Int.reduceNeg, Nat.reduceLeDiff, VOpd.ev, Nat.reduceEqDiff, Nat.reduceAdd, reduceIte, reduceCtorEq, splice, resOf, tupOf, cellsV, AV.toV, AV.cell?, cellVal]
          first | exact ⟨_, rfl⟩ | exact ⟨rfl, _, rfl⟩ | exact ⟨trivial, _, rfl⟩ | exact ⟨[], (List.append_nil _).symm⟩
    · have hk2 : ¬ B.e.k = 2 := of_decide_eq_false hc2
      simp only [hk2, if_false, kB, kZ, kD, fillA, partsEv, zeroes, Nat.reduceSub, Int.reduceToNat, Nat.reduceMul, asInt?, asNat?, Int.reduceAdd, Int.reduceLE, Int.reduceLT, Int.reduceNeg, Nat.reduceLeDiff, VOpd.ev, Nat.reduceEqDiff, Nat.reduceAdd, reduceIte, reduceCtorEq, splice, resOf, tupOf, cellsV, AV.toV, AV.cell?, cellVal]
      first | exact ⟨_, rfl⟩ | exact ⟨rfl, _, rfl⟩ | exact ⟨trivial, _, rfl⟩ | exact ⟨[], (List.append_nil _).symm⟩
theorem j_trace_with (h : OnH X) (hg : GB st) {lo hi lo' hi' : Nat} {v pv : AV} {U : UnitV} {P : List CntV} (hv : UnitAt st lo hi v U) (hp : CntsAt st lo' hi' pv P) (b : Int) :
    J X.P X.F X.H (.call 49 [v, pv, iA b] st (.ret (iA (thereU U (decide ((P.length : Int) = U.blocks.length)) b))) st) := by
  refine pure_intro (by rw [h.F]; rfl) rfl ?_
  have hm := fun L => hv.mono L
  obtain ⟨s, bl, rfl, hs, hb⟩ := hv
  have l2 : lenA bl = some U.blocks.length := by
    obtain ⟨f, hb, _⟩ := hb
    have := hb.len
    simpa using this
  have l1 := hp.len
  simp only [List.length_map] at l1
  simp only [v_trace_with, l1, l2, kB, kZ, kD, fillA, partsEv, zeroes, Nat.reduceSub, Int.reduceToNat, Nat.reduceMul, asInt?, asNat?, Int.reduceAdd, Int.reduceLE, Int.reduceLT, Int.reduceNeg, Nat.reduceLeDiff, VOpd.ev, Nat.reduceEqDiff, Nat.reduceAdd, reduceIte, reduceCtorEq, splice, resOf, tupOf, cellsV, AV.toV, AV.cell?, cellVal]
  refine callO_same (j_code_Check h (hg.app _) (hm _)) ?_
  simp only [kB, kZ, kD, fillA, partsEv, zeroes, Nat.reduceSub, Int.reduceToNat, Nat.reduceMul, asInt?, asNat?, Int.reduceAdd, Int.reduceLE, Int.reduceLT, Int.reduceNeg, Nat.reduceLeDiff, VOpd.ev, Nat.reduceEqDiff, Nat.reduceAdd, reduceIte, reduceCtorEq, splice, resOf, tupOf, cellsV, AV.toV, AV.cell?, cellVal]
  refine condO_intro ?_ ?_ <;> intro hc
  · have hE : thereU U (decide ((P.length : Int) = U.blocks.length)) b = chkU U := by unfold thereU; rw [if_pos hc]
    simp only [hE, kB, kZ, kD, fillA, partsEv, zeroes, Nat.reduceSub, Int.reduceToNat, Nat.reduceMul, asInt?, asNat?, Int.reduceAdd, Int.reduceLE, Int.reduceLT, Int.reduceNeg, Nat.reduceLeDiff, VOpd.ev, Nat.reduceEqDiff, Nat.reduceAdd, reduceIte, reduceCtorEq, splice, resOf, tupOf, cellsV, AV.toV, AV.cell?, cellVal]
    first | exact ⟨_, rfl⟩ | exact ⟨rfl, _, rfl⟩ | exact ⟨trivial, _, rfl⟩ | exact ⟨[], (List.append_nil _).symm⟩
  · simp only [l1, l2, kB, kZ, kD, fillA, partsEv, zeroes, Nat.reduceSub, Int.reduceToNat, Nat.reduceMul, asInt?, asNat?, Int.reduceAdd, Int.reduceLE, Int.reduceLT, Int.reduceNeg, Nat.reduceLeDiff, VOpd.ev, Nat.reduceEqDiff, Nat.reduceAdd, reduceIte, reduceCtorEq, splice, resOf, tupOf, cellsV, AV.toV, AV.cell?, cellVal]
    refine condO_intro ?_ ?_ <;> intro hc2
    · have hne : decide ((P.length : Int) = U.blocks.length) = false := decide_eq_false (of_decide_eq_true hc2)
      have hE : thereU U (decide ((P.length : Int) = U.blocks.length)) b = 2 := by unfold thereU; rw [hne, if_neg (by rw [hc]; decide)]; rfl
      simp only [hE, kB, kZ, kD, fillA, partsEv, zeroes, Nat.reduceSub, Int.reduceToNat, Nat.reduceMul, asInt?, asNat?, Int.reduceAdd, Int.reduceLE, Int.reduceLT, Int.reduceNeg, Nat.reduceLeDiff, VOpd.ev, Nat.reduceEqDiff, Nat.reduceAdd, reduceIte, reduceCtorEq, splice, resOf, tupOf, cellsV, AV.toV, AV.cell?, cellVal]
      first | exact ⟨_, rfl⟩ | exact ⟨rfl, _, rfl⟩ | exact ⟨trivial, _, rfl⟩ | exact ⟨[], (List.append_nil _).symm⟩
    · have hne : decide ((P.length : Int) = U.blocks.length) = true := decide_eq_true (Decidable.not_not.1 (of_decide_eq_false hc2))
      rw [hne]
      simp only [kB, kZ, kD, fillA, partsEv, zeroes, Nat.reduceSub, Int.reduceToNat, Nat.reduceMul, asInt?, asNat?, Int.reduceAdd, Int.reduceLE, Int.reduceLT, Int.reduceNeg, Nat.reduceLeDiff, VOpd.ev, Nat.reduceEqDiff, Nat.reduceAdd, reduceIte, reduceCtorEq, splice, resOf, tupOf, cellsV, AV.toV, AV.cell?, cellVal]
      refine callO_same (j_trace_look h (hg.app _) (hm _) b) ?_
      simp only [kB, kZ, kD, fillA, partsEv, zeroes, Nat.reduceSub, Int.reduceToNat, Nat.reduceMul, asInt?, asNat?, Int.reduceAdd, Int.reduceLE, Int.reduceLT, Int.reduceNeg, Nat.reduceLeDiff, VOpd.ev, Nat.reduceEqDiff, Nat.reduceAdd, reduceIte, reduceCtorEq, splice, resOf, tupOf, cellsV, AV.toV, AV.cell?, cellVal]
      first | exact ⟨_, rfl⟩ | exact ⟨rfl, _, rfl⟩ | exact ⟨trivial, _, rfl⟩ | exact ⟨[], (List.append_nil _).symm⟩
end
end Go.VX.Seat
end
section
set_option linter.unusedVariables false
set_option linter.unusedSimpArgs false
set_option maxRecDepth 4000
/-! Traces. -/
namespace Go.VX.Seat
open Go.Proofs
/-- The block behind the last one of a trace. -/
def stepT (U : UnitV) (P : List CntV) (cx : Int) (out : List Int) (last : Nat) : Option Nat :=
  match U.blocks[last]?, P[last]? with
  | some B, some c => if 0 ≤ likN B.e c then
      match U.blocks[(toOf B.e (likN B.e c)).toNat]? with
      | some C => if C.catch_ = cx ∧ toOf B.e (likN B.e c) ∉ out then some (toOf B.e (likN B.e c)).toNat else none
      | none => none
    else none
  | _, _ => none
def traceK (U : UnitV) (P : List CntV) (cx : Int) : Nat → List Int → Nat → List Int
  | 0, out, _ => out
  | m + 1, out, last => match stepT U P cx out last with
    | none => out
    | some n => traceK U P cx m (out ++ [(n : Int)]) n
/-- How many numbers below N are not in a list. -/
def freeN (out : List Int) : Nat → Nat
  | 0 => 0
  | k + 1 => freeN out k + (if (k : Int) ∈ out then 0 else 1)
theorem freeN_le (out : List Int) : ∀ N, freeN out N ≤ N
  | 0 => Nat.le_refl _
  | k + 1 => by
    have := freeN_le out k
    unfold freeN
    split <;> omega
theorem freeN_mono (out : List Int) (n : Int) : ∀ N, freeN (out ++ [n]) N ≤ freeN out N
  | 0 => Nat.le_refl _
  | k + 1 => by
    have := freeN_mono out n k
    unfold freeN
    by_cases h : (k : Int) ∈ out
    · rw [if_pos h, if_pos (List.mem_append_left _ h)]; omega
    · rw [if_neg h]
      split <;> omega
theorem freeN_snoc (out : List Int) (n : Nat) (hn : (n : Int) ∉ out) : ∀ N, n < N → freeN (out ++ [(n : Int)]) N + 1 ≤ freeN out N
  | 0, h => absurd h (by omega)
  | k + 1, h => by
    unfold freeN
    by_cases hk : n = k
    · subst hk
      have := freeN_mono out n n
      rw [if_neg hn, if_pos (List.mem_append_right _ (by simp))]
      omega
    · have ih := freeN_snoc out n hn k (by omega)
      by_cases hm : (k : Int) ∈ out
      · rw [if_pos hm, if_pos (List.mem_append_left _ hm)]; omega
      · have hm2 : (k : Int) ∉ out ++ [(n : Int)] := fun h => by
          rcases List.mem_append.1 h with h | h
          · exact hm h
          · simp at h; omega
        rw [if_neg hm, if_neg hm2]; omega
theorem traceK_none {U : UnitV} {P : List CntV} {cx : Int} {m : Nat} {out : List Int} {last : Nat} (h : stepT U P cx out last = none) : traceK U P cx m out last = out := by
  cases m with
  | zero => rfl
  | succ m => unfold traceK; rw [h]
theorem traceK_some {U : UnitV} {P : List CntV} {cx : Int} {m : Nat} {out : List Int} {last n : Nat} (h : stepT U P cx out last = some n) (hm : 0 < m) : traceK U P cx m out last = traceK U P cx (m - 1) (out ++ [(n : Int)]) n := by
  cases m with
  | zero => omega
  | succ m => rw [traceK, h]; rfl
theorem stepT_no {U : UnitV} {P : List CntV} {cx : Int} {out : List Int} {last : Nat} (hx : last < U.blocks.length) (hxp : last < P.length) (h : ¬ 0 ≤ likN U.blocks[last].e P[last]) : stepT U P cx out last = none := by
  unfold stepT
  rw [List.getElem?_eq_getElem hx, List.getElem?_eq_getElem hxp]
  simp only
  rw [if_neg h]
theorem stepT_eq {U : UnitV} {P : List CntV} {cx : Int} {out : List Int} {last n : Nat} (hx : last < U.blocks.length) (hxp : last < P.length) (h : 0 ≤ likN U.blocks[last].e P[last]) (hn : n < U.blocks.length) (hto : toOf U.blocks[last].e (likN U.blocks[last].e P[last]) = n) :
    stepT U P cx out last = if U.blocks[n].catch_ = cx ∧ (n : Int) ∉ out then some n else none := by
  unfold stepT
  rw [List.getElem?_eq_getElem hx, List.getElem?_eq_getElem hxp]
  simp only
  rw [if_pos h, hto, Int.toNat_natCast, List.getElem?_eq_getElem hn]
theorem own_lit {S : St} {b lo esz ver : Nat} {rows : List (List AV)} (h : S[b]? = some ⟨rows.flatten, 0, ver⟩) (hr : ∀ r ∈ rows, r.length = esz) (hl : lo ≤ b) : OwnS S lo (.sl b 0 rows.length esz true) esz rows where
  arr := (ArrAt.ofBox h (by decide) hr rfl).wide' hl (by have := (List.getElem?_eq_some_iff.1 h).1; omega)
  bnd := fun b' hb => by cases hb; exact ⟨hl, (List.getElem?_eq_some_iff.1 h).1⟩
  app := fun b o n e full h => (by cases h; exact .inl rfl)
section
variable {X : Cx} {st : St}
theorem w_trace_trace (h : On X) {lo hi lo' hi' : Nat} {v pv : AV} {U : UnitV} {P : List CntV} (hv : UnitAt st lo hi v U) (hp : CntsAt st lo' hi' pv P) (wf : Wf U) (hPN : P.length = U.blocks.length) (x : Nat) (hx : x < U.blocks.length) :
    wpF X 57 [v, pv, iA x] st fun r s => ∃ w, r = .ret w ∧ NewInts st s w (traceK U P U.blocks[x].catch_ U.blocks.length [(x : Int)] x) := by
  refine wpF_go (fn := v_trace_trace) (by rw [h.F]; rfl) ?_
  have hm := fun L => hv.mono L
  have hmp := fun L => ArrAt.mono hp L
  have hnb := wf.nb
  obtain ⟨s, bl, rfl, hs, hb⟩ := hv
  simp only [v_trace_trace, kB, kZ, kD, fillA, partsEv, zeroes, Nat.reduceSub, Int.reduceToNat, Nat.reduceMul, asInt?, asNat?, Int.reduceAdd, Int.reduceLE, Int.reduceLT, Int.reduceNeg, Nat.reduceLeDiff, VOpd.ev, Nat.reduceEqDiff, Nat.reduceAdd, reduceIte, reduceCtorEq, splice, resOf, tupOf, cellsV, AV.toV, AV.cell?, cellVal]
  refine loop_inv (fun m e S => ∃ (out : List Int) (last : Nat), e 1 = pv ∧ e 2 = iA last ∧ e 3 = .ptr (st.length + 0) 0 ∧ (∃ L, S = st ++ (⟨[s, iA U.params, iA U.regs, iA U.code, iA U.spill, bl], 0, 0⟩ :: L : St)) ∧
    OwnS S (st.length + 1) (e 7) 1 (out.map fun n => [iA n]) ∧ (∃ hl : last < U.blocks.length, U.blocks[last].catch_ = U.blocks[x].catch_) ∧ freeN out U.blocks.length ≤ m ∧ out.length + m ≤ U.blocks.length + 1 ∧
    traceK U P U.blocks[x].catch_ m out last = traceK U P U.blocks[x].catch_ U.blocks.length [(x : Int)] x) ?_ U.blocks.length ?_
  case refine_2 =>
    refine ⟨[(x : Int)], x, by simp only [kB, kZ, kD, fillA, partsEv, zeroes, Nat.reduceSub, Int.reduceToNat, Nat.reduceMul, asInt?, asNat?, Int.reduceAdd, Int.reduceLE, Int.reduceLT, Int.reduceNeg, Nat.reduceLeDiff, VOpd.ev, Nat.reduceEqDiff, Nat.reduceAdd, reduceIte, reduceCtorEq, splice, resOf, tupOf, cellsV, AV.toV, AV.cell?, cellVal], by simp only [kB, kZ, kD, fillA, partsEv, zeroes, Nat.reduceSub, Int.reduceToNat, Nat.reduceMul, asInt?, asNat?, Int.reduceAdd, Int.reduceLE, Int.reduceLT, Int.reduceNeg, Nat.reduceLeDiff, VOpd.ev, Nat.reduceEqDiff, Nat.reduceAdd, reduceIte, reduceCtorEq, splice, resOf, tupOf, cellsV, AV.toV, AV.cell?, cellVal], by simp only [kB, kZ, kD, fillA, partsEv, zeroes, Nat.reduceSub, Int.reduceToNat, Nat.reduceMul, asInt?, asNat?, Int.reduceAdd, Int.reduceLE, Int.reduceLT, Int.reduceNeg, Nat.reduceLeDiff, VOpd.ev, Nat.reduceEqDiff, Nat.reduceAdd, reduceIte, reduceCtorEq, splice, resOf, tupOf, cellsV, AV.toV, AV.cell?, cellVal], ⟨[⟨[iA x], 0, 0⟩], rfl⟩, ?_, ⟨hx, rfl⟩, freeN_le _ _, by simp; omega, rfl⟩
    simp only [kB, kZ, kD, fillA, partsEv, zeroes, Nat.reduceSub, Int.reduceToNat, Nat.reduceMul, asInt?, asNat?, Int.reduceAdd, Int.reduceLE, Int.reduceLT, Int.reduceNeg, Nat.reduceLeDiff, VOpd.ev, Nat.reduceEqDiff, Nat.reduceAdd, reduceIte, reduceCtorEq, splice, resOf, tupOf, cellsV, AV.toV, AV.cell?, cellVal]
    exact own_lit (rows := [[iA x]]) (b := st.length + 1) (ver := 0) (by rw [List.getElem?_append_right (by omega), Nat.add_sub_cancel_left]; rfl) (by simp) (Nat.le_refl _)
  rintro m e S ⟨out, last, e1, e2, e3, ⟨L, rfl⟩, hw, ⟨hl, hcat⟩, hfr, hlen, hT⟩
  have hlp : last < P.length := by omega
  have hvS := hm (⟨[s, iA U.params, iA U.regs, iA U.code, iA U.spill, bl], 0, 0⟩ :: L)
  have hpS := hmp (⟨[s, iA U.params, iA U.regs, iA U.code, iA U.spill, bl], 0, 0⟩ :: L)
  generalize e7 : e 7 = w at hw
  have hend := (wf.blk _ (List.getElem_mem hl)).end_
  simp only [e1, e2, e3, e7, kB, kZ, kD, fillA, partsEv, zeroes, Nat.reduceSub, Int.reduceToNat, Nat.reduceMul, asInt?, asNat?, Int.reduceAdd, Int.reduceLE, Int.reduceLT, Int.reduceNeg, Nat.reduceLeDiff, VOpd.ev, Nat.reduceEqDiff, Nat.reduceAdd, reduceIte, reduceCtorEq, splice, resOf, tupOf, cellsV, AV.toV, AV.cell?, cellVal]
  refine callO_same (j_trace_likely h hvS hpS last hl hlp) ?_
  simp only [kB, kZ, kD, fillA, partsEv, zeroes, Nat.reduceSub, Int.reduceToNat, Nat.reduceMul, asInt?, asNat?, Int.reduceAdd, Int.reduceLE, Int.reduceLT, Int.reduceNeg, Nat.reduceLeDiff, VOpd.ev, Nat.reduceEqDiff, Nat.reduceAdd, reduceIte, reduceCtorEq, splice, resOf, tupOf, cellsV, AV.toV, AV.cell?, cellVal]
  have hB := likB_eq U.blocks[last].e P[last]
  by_cases hlik : 0 ≤ likN U.blocks[last].e P[last]
  case neg =>
    rw [decide_eq_false hlik] at hB
    have hst := stepT_no (cx := U.blocks[x].catch_) (out := out) hl hlp hlik
    rw [traceK_none hst] at hT
    simp only [hB, e7, kB, kZ, kD, fillA, partsEv, zeroes, Nat.reduceSub, Int.reduceToNat, Nat.reduceMul, asInt?, asNat?, Int.reduceAdd, Int.reduceLE, Int.reduceLT, Int.reduceNeg, Nat.reduceLeDiff, VOpd.ev, Nat.reduceEqDiff, Nat.reduceAdd, reduceIte, reduceCtorEq, splice, resOf, tupOf, cellsV, AV.toV, AV.cell?, cellVal]
    rw [← hT]
    exact ⟨⟨_, rfl⟩, hw.low (by omega)⟩
  rw [decide_eq_true hlik] at hB
  have hW := likN_way U.blocks[last].e P[last]
  rw [decide_eq_true hlik] at hW
  have hI := likI_eq _ _ hlik
  obtain ⟨n, hn, hto⟩ := isWay_to hend hW
  have hst := stepT_eq (cx := U.blocks[x].catch_) (out := out) hl hlp hlik hn hto
  simp only [hB, hI, e1, e2, e3, e7, kB, kZ, kD, fillA, partsEv, zeroes, Nat.reduceSub, Int.reduceToNat, Nat.reduceMul, asInt?, asNat?, Int.reduceAdd, Int.reduceLE, Int.reduceLT, Int.reduceNeg, Nat.reduceLeDiff, VOpd.ev, Nat.reduceEqDiff, Nat.reduceAdd, reduceIte, reduceCtorEq, splice, resOf, tupOf, cellsV, AV.toV, AV.cell?, cellVal]
  refine callO_same (j_trace_next h hvS last hl _ (likN_range _ _ hlik) n hn (fun _ => hto)) ?_
  rw [hcat, hW]
  by_cases hc : U.blocks[n].catch_ = U.blocks[x].catch_
  case neg =>
    rw [if_neg (fun h => hc h.1)] at hst
    rw [traceK_none hst] at hT
    have hd : decide (U.blocks[n].catch_ = U.blocks[x].catch_) = false := decide_eq_false hc
    simp only [hd, e7, kB, kZ, kD, fillA, partsEv, zeroes, Nat.reduceSub, Int.reduceToNat, Nat.reduceMul, asInt?, asNat?, Int.reduceAdd, Int.reduceLE, Int.reduceLT, Int.reduceNeg, Nat.reduceLeDiff, VOpd.ev, Nat.reduceEqDiff, Nat.reduceAdd, reduceIte, reduceCtorEq, splice, resOf, tupOf, cellsV, AV.toV, AV.cell?, cellVal]
    rw [← hT]
    exact ⟨⟨_, rfl⟩, hw.low (by omega)⟩
  have hd : decide (U.blocks[n].catch_ = U.blocks[x].catch_) = true := decide_eq_true hc
  simp only [hd, e7, kB, kZ, kD, fillA, partsEv, zeroes, Nat.reduceSub, Int.reduceToNat, Nat.reduceMul, asInt?, asNat?, Int.reduceAdd, Int.reduceLE, Int.reduceLT, Int.reduceNeg, Nat.reduceLeDiff, VOpd.ev, Nat.reduceEqDiff, Nat.reduceAdd, reduceIte, reduceCtorEq, splice, resOf, tupOf, cellsV, AV.toV, AV.cell?, cellVal]
  refine callO_same (j_Contains h hw.arr (n : Int) (by omega)) ?_
  by_cases hmem : (n : Int) ∈ out
  · rw [if_neg (fun h => h.2 hmem)] at hst
    rw [traceK_none hst] at hT
    have hdm : decide ((n : Int) ∈ out) = true := decide_eq_true hmem
    simp only [hdm, e7, kB, kZ, kD, fillA, partsEv, zeroes, Nat.reduceSub, Int.reduceToNat, Nat.reduceMul, asInt?, asNat?, Int.reduceAdd, Int.reduceLE, Int.reduceLT, Int.reduceNeg, Nat.reduceLeDiff, VOpd.ev, Nat.reduceEqDiff, Nat.reduceAdd, reduceIte, reduceCtorEq, splice, resOf, tupOf, cellsV, AV.toV, AV.cell?, cellVal]
    rw [← hT]
    exact ⟨⟨_, rfl⟩, hw.low (by omega)⟩
  have hdm : decide ((n : Int) ∈ out) = false := decide_eq_false hmem
  rw [if_pos ⟨hc, hmem⟩] at hst
  have hsn := freeN_snoc out n hmem _ hn
  have hm1 : 0 < m := by omega
  rw [traceK_some hst hm1] at hT
  simp only [hdm, e7, kB, kZ, kD, fillA, partsEv, zeroes, Nat.reduceSub, Int.reduceToNat, Nat.reduceMul, asInt?, asNat?, Int.reduceAdd, Int.reduceLE, Int.reduceLT, Int.reduceNeg, Nat.reduceLeDiff, VOpd.ev, Nat.reduceEqDiff, Nat.reduceAdd, reduceIte, reduceCtorEq, splice, resOf, tupOf, cellsV, AV.toV, AV.cell?, cellVal]
  refine opR_push (S := st ++ (⟨[s, iA U.params, iA U.regs, iA U.code, iA U.spill, bl], 0, 0⟩ :: L : St)) (lo := st.length + 1) (l := out) (vx := w) (b := st.length + (L.length + 1)) (n : Int) ?_ ?_ ?_ ?_ hw ?_ (by omega) ?_
  · simp
  · simp
  · simp only [e7, kB, kZ, kD, fillA, partsEv, zeroes, Nat.reduceSub, Int.reduceToNat, Nat.reduceMul, asInt?, asNat?, Int.reduceAdd, Int.reduceLE, Int.reduceLT, Int.reduceNeg, Nat.reduceLeDiff, VOpd.ev, Nat.reduceEqDiff, Nat.reduceAdd, reduceIte, reduceCtorEq, splice, resOf, tupOf, cellsV, AV.toV, AV.cell?, cellVal]
  · simp only [kB, kZ, kD, fillA, partsEv, zeroes, Nat.reduceSub, Int.reduceToNat, Nat.reduceMul, asInt?, asNat?, Int.reduceAdd, Int.reduceLE, Int.reduceLT, Int.reduceNeg, Nat.reduceLeDiff, VOpd.ev, Nat.reduceEqDiff, Nat.reduceAdd, reduceIte, reduceCtorEq, splice, resOf, tupOf, cellsV, AV.toV, AV.cell?, cellVal]
  · simp only [List.length_append, List.length_cons]; omega
  intro w2 S2 hag hw2
  have hsh := (hag.mono (Y := fun b => st.length + 1 ≤ b) (fun b _ hb => (hw.bnd b hb).1)).shape (st := st) (M := [⟨[s, iA U.params, iA U.regs, iA U.code, iA U.spill, bl], 0, 0⟩]) (N := L) (fun b hb => hb)
  simp only [e1, e3, kB, kZ, kD, fillA, partsEv, zeroes, Nat.reduceSub, Int.reduceToNat, Nat.reduceMul, asInt?, asNat?, Int.reduceAdd, Int.reduceLE, Int.reduceLT, Int.reduceNeg, Nat.reduceLeDiff, VOpd.ev, Nat.reduceEqDiff, Nat.reduceAdd, reduceIte, reduceCtorEq, splice, resOf, tupOf, cellsV, AV.toV, AV.cell?, cellVal]
  exact ⟨m - 1, by omega, out ++ [(n : Int)], n, rfl, hsh, hw2, ⟨hn, hc⟩, by omega, by simp; omega, hT⟩
end
end Go.VX.Seat
end
section
set_option linter.unusedVariables false
set_option linter.unusedSimpArgs false
set_option maxRecDepth 4000
/-! biremeref17.Trace. -/
namespace Go.VX.Seat
open Go.Proofs
section
variable {X : Cx} {st : St}
theorem w_r17_Trace (h : On X) {lo hi lo' hi' : Nat} {v pv : AV} {U : UnitV} {P : List CntV} (hv : UnitAt st lo hi v U) (hp : CntsAt st lo' hi' pv P) (wf : Wf U) (hPN : P.length = U.blocks.length) (x : Nat) (hx : x < U.blocks.length) :
    wpF X 30 [v, pv, iA x] st fun r s => ∃ w, r = .ret w ∧ NewInts st s w (traceK U P U.blocks[x].catch_ U.blocks.length [(x : Int)] x) := by
  refine wpF_go (fn := v_r17_Trace) (by rw [h.F]; rfl) ?_
  have hm := fun L => hv.mono L
  have hmp := fun L => ArrAt.mono hp L
  have hnb := wf.nb
  obtain ⟨s, bl, rfl, hs, hb⟩ := hv
  obtain ⟨f, hb1, hbo⟩ := hb
  obtain ⟨bx, ox, hex, _, hax, _⟩ := hb1.get x (by simpa using hx)
  have qx := fun L => hax L 5 (by omega)
  simp only [List.getElem_mapIdx, BlkV.row, kB, kZ, kD, fillA, partsEv, zeroes, Nat.reduceSub, Int.reduceToNat, Nat.reduceMul, asInt?, asNat?, Int.reduceAdd, Int.reduceLE, Int.reduceLT, Int.reduceNeg, Nat.reduceLeDiff, VOpd.ev, Nat.reduceEqDiff, Nat.reduceAdd, reduceIte, reduceCtorEq, splice, resOf, tupOf, cellsV, AV.toV, AV.cell?, cellVal] at qx
  simp only [v_r17_Trace, kB, kZ, kD, fillA, partsEv, zeroes, Nat.reduceSub, Int.reduceToNat, Nat.reduceMul, asInt?, asNat?, Int.reduceAdd, Int.reduceLE, Int.reduceLT, Int.reduceNeg, Nat.reduceLeDiff, VOpd.ev, Nat.reduceEqDiff, Nat.reduceAdd, reduceIte, reduceCtorEq, splice, resOf, tupOf, cellsV, AV.toV, AV.cell?, cellVal]
  refine loop_inv (fun m e S => ∃ (out : List Int) (last k : Nat), e 1 = pv ∧ e 2 = iA x ∧ e 3 = .ptr (st.length + 0) 0 ∧ (∃ L, S = st ++ (⟨[s, iA U.params, iA U.regs, iA U.code, iA U.spill, bl], 0, 0⟩ :: L : St)) ∧
    OwnS S (st.length + 1) (e 7) 1 (out.map fun n => [iA n]) ∧ (out.length = k + 1 ∧ out[k]? = some (last : Int)) ∧ last < U.blocks.length ∧ freeN out U.blocks.length ≤ m ∧ out.length + m ≤ U.blocks.length + 1 ∧
    traceK U P U.blocks[x].catch_ m out last = traceK U P U.blocks[x].catch_ U.blocks.length [(x : Int)] x) ?_ U.blocks.length ?_
  case refine_2 =>
    refine ⟨[(x : Int)], x, 0, by simp only [kB, kZ, kD, fillA, partsEv, zeroes, Nat.reduceSub, Int.reduceToNat, Nat.reduceMul, asInt?, asNat?, Int.reduceAdd, Int.reduceLE, Int.reduceLT, Int.reduceNeg, Nat.reduceLeDiff, VOpd.ev, Nat.reduceEqDiff, Nat.reduceAdd, reduceIte, reduceCtorEq, splice, resOf, tupOf, cellsV, AV.toV, AV.cell?, cellVal], by simp only [kB, kZ, kD, fillA, partsEv, zeroes, Nat.reduceSub, Int.reduceToNat, Nat.reduceMul, asInt?, asNat?, Int.reduceAdd, Int.reduceLE, Int.reduceLT, Int.reduceNeg, Nat.reduceLeDiff, VOpd.ev, Nat.reduceEqDiff, Nat.reduceAdd, reduceIte, reduceCtorEq, splice, resOf, tupOf, cellsV, AV.toV, AV.cell?, cellVal], by simp only [kB, kZ, kD, fillA, partsEv, zeroes, Nat.reduceSub, Int.reduceToNat, Nat.reduceMul, asInt?, asNat?, Int.reduceAdd, Int.reduceLE, Int.reduceLT, Int.reduceNeg, Nat.reduceLeDiff, VOpd.ev, Nat.reduceEqDiff, Nat.reduceAdd, reduceIte, reduceCtorEq, splice, resOf, tupOf, cellsV, AV.toV, AV.cell?, cellVal], ⟨[⟨[iA x], 0, 0⟩], rfl⟩, ?_, ⟨rfl, rfl⟩, hx, freeN_le _ _, by simp; omega, rfl⟩
    simp only [kB, kZ, kD, fillA, partsEv, zeroes, Nat.reduceSub, Int.reduceToNat, Nat.reduceMul, asInt?, asNat?, Int.reduceAdd, Int.reduceLE, Int.reduceLT, Int.reduceNeg, Nat.reduceLeDiff, VOpd.ev, Nat.reduceEqDiff, Nat.reduceAdd, reduceIte, reduceCtorEq, splice, resOf, tupOf, cellsV, AV.toV, AV.cell?, cellVal]
    exact own_lit (rows := [[iA x]]) (b := st.length + 1) (ver := 0) (by rw [List.getElem?_append_right (by omega), Nat.add_sub_cancel_left]; rfl) (by simp) (Nat.le_refl _)
  rintro m e S ⟨out, last, k, e1, e2, e3, ⟨L, rfl⟩, hw, ⟨hk, hlast⟩, hl, hfr, hlen, hT⟩
  have hlp : last < P.length := by omega
  have hvS := hm (⟨[s, iA U.params, iA U.regs, iA U.code, iA U.spill, bl], 0, 0⟩ :: L)
  have hpS := hmp (⟨[s, iA U.params, iA U.regs, iA U.code, iA U.spill, bl], 0, 0⟩ :: L)
  generalize e7 : e 7 = w at hw
  have hend := (wf.blk _ (List.getElem_mem hl)).end_
  obtain ⟨b1, o1, he1, _, _, hm1⟩ := hb1.get last (by simpa using hl)
  have r1 := fun L => hm1 L 1 4 (by omega)
  simp only [List.getElem_mapIdx, BlkV.row, kB, kZ, kD, fillA, partsEv, zeroes, Nat.reduceSub, Int.reduceToNat, Nat.reduceMul, asInt?, asNat?, Int.reduceAdd, Int.reduceLE, Int.reduceLT, Int.reduceNeg, Nat.reduceLeDiff, VOpd.ev, Nat.reduceEqDiff, Nat.reduceAdd, reduceIte, reduceCtorEq, splice, resOf, tupOf, cellsV, AV.toV, AV.cell?, cellVal] at r1
  have hwl := hw.arr.len
  simp only [List.length_map] at hwl
  have hsub : IntKind.wrap .i64 ((out.length : Int) - 1) = (k : Int) := by
    rw [wrap_small (by omega) (by omega)]; omega
  obtain ⟨bk, ok, hek, hnk, hak, _⟩ := hw.arr.get k (by simp; omega)
  have ak := hak [] 0 (by omega)
  have hgk : out[k]'(by omega) = (last : Int) := by
    rw [List.getElem?_eq_getElem (by omega)] at hlast
    exact Option.some.inj hlast
  simp only [List.getElem_map, Nat.add_zero, List.getElem?_cons_zero, List.append_nil, hgk] at ak
  simp only [e1, e2, e3, e7, hwl, hsub, hek, ak, he1, r1, kB, kZ, kD, fillA, partsEv, zeroes, Nat.reduceSub, Int.reduceToNat, Nat.reduceMul, asInt?, asNat?, Int.reduceAdd, Int.reduceLE, Int.reduceLT, Int.reduceNeg, Nat.reduceLeDiff, VOpd.ev, Nat.reduceEqDiff, Nat.reduceAdd, reduceIte, reduceCtorEq, splice, resOf, tupOf, cellsV, AV.toV, AV.cell?, cellVal]
  refine callO_same (j_r17_Likely h hvS hpS last hl hlp) ?_
  simp only [kB, kZ, kD, fillA, partsEv, zeroes, Nat.reduceSub, Int.reduceToNat, Nat.reduceMul, asInt?, asNat?, Int.reduceAdd, Int.reduceLE, Int.reduceLT, Int.reduceNeg, Nat.reduceLeDiff, VOpd.ev, Nat.reduceEqDiff, Nat.reduceAdd, reduceIte, reduceCtorEq, splice, resOf, tupOf, cellsV, AV.toV, AV.cell?, cellVal]
  refine callO_same (j_r17_Next h _ _ _ _ _) ?_
  have hw0 : (wayTo U.blocks[last].e.k (likN U.blocks[last].e P[last]) || wayElse U.blocks[last].e.k (likN U.blocks[last].e P[last])) = decide (0 ≤ likN U.blocks[last].e P[last]) := likN_way _ _
  have ht0 : (if wayTo U.blocks[last].e.k (likN U.blocks[last].e P[last]) then U.blocks[last].e.t else if wayElse U.blocks[last].e.k (likN U.blocks[last].e P[last]) then U.blocks[last].e.e else 0) = toOf U.blocks[last].e (likN U.blocks[last].e P[last]) := rfl
  rw [hw0, ht0]
  by_cases hlik : 0 ≤ likN U.blocks[last].e P[last]
  case neg =>
    have hst := stepT_no (cx := U.blocks[x].catch_) (out := out) hl hlp hlik
    rw [traceK_none hst] at hT
    have hd := decide_eq_false hlik
    simp only [hd, e7, kB, kZ, kD, fillA, partsEv, zeroes, Nat.reduceSub, Int.reduceToNat, Nat.reduceMul, asInt?, asNat?, Int.reduceAdd, Int.reduceLE, Int.reduceLT, Int.reduceNeg, Nat.reduceLeDiff, VOpd.ev, Nat.reduceEqDiff, Nat.reduceAdd, reduceIte, reduceCtorEq, splice, resOf, tupOf, cellsV, AV.toV, AV.cell?, cellVal]
    rw [← hT]
    exact ⟨⟨_, rfl⟩, hw.low (by omega)⟩
  have hW := likN_way U.blocks[last].e P[last]
  have hdl := decide_eq_true hlik
  rw [hdl] at hW
  obtain ⟨n, hn, hto⟩ := isWay_to hend hW
  have hst := stepT_eq (cx := U.blocks[x].catch_) (out := out) hl hlp hlik hn hto
  obtain ⟨bn, on, hen, _, han, _⟩ := hb1.get n (by simpa using hn)
  have qn := fun L => han L 5 (by omega)
  simp only [List.getElem_mapIdx, BlkV.row, kB, kZ, kD, fillA, partsEv, zeroes, Nat.reduceSub, Int.reduceToNat, Nat.reduceMul, asInt?, asNat?, Int.reduceAdd, Int.reduceLE, Int.reduceLT, Int.reduceNeg, Nat.reduceLeDiff, VOpd.ev, Nat.reduceEqDiff, Nat.reduceAdd, reduceIte, reduceCtorEq, splice, resOf, tupOf, cellsV, AV.toV, AV.cell?, cellVal] at qn
  by_cases hc : U.blocks[n].catch_ = U.blocks[x].catch_
  case neg =>
    rw [if_neg (fun h => hc h.1)] at hst
    rw [traceK_none hst] at hT
    have hd : decide (U.blocks[n].catch_ ≠ U.blocks[x].catch_) = true := decide_eq_true hc
    simp only [hdl, hto, hen, hex, qn, qx, hd, e2, e3, e7, kB, kZ, kD, fillA, partsEv, zeroes, Nat.reduceSub, Int.reduceToNat, Nat.reduceMul, asInt?, asNat?, Int.reduceAdd, Int.reduceLE, Int.reduceLT, Int.reduceNeg, Nat.reduceLeDiff, VOpd.ev, Nat.reduceEqDiff, Nat.reduceAdd, reduceIte, reduceCtorEq, splice, resOf, tupOf, cellsV, AV.toV, AV.cell?, cellVal]
    rw [← hT]
    exact ⟨⟨_, rfl⟩, hw.low (by omega)⟩
  have hd : decide (U.blocks[n].catch_ ≠ U.blocks[x].catch_) = false := decide_eq_false fun h => h hc
  simp only [hdl, hto, hen, hex, qn, qx, hd, e2, e3, e7, kB, kZ, kD, fillA, partsEv, zeroes, Nat.reduceSub, Int.reduceToNat, Nat.reduceMul, asInt?, asNat?, Int.reduceAdd, Int.reduceLE, Int.reduceLT, Int.reduceNeg, Nat.reduceLeDiff, VOpd.ev, Nat.reduceEqDiff, Nat.reduceAdd, reduceIte, reduceCtorEq, splice, resOf, tupOf, cellsV, AV.toV, AV.cell?, cellVal]
  refine callO_same (j_r17_in h hw.arr (n : Int) (by omega)) ?_
  by_cases hmem : (n : Int) ∈ out
  · rw [if_neg (fun h => h.2 hmem)] at hst
    rw [traceK_none hst] at hT
    have hdm : decide ((n : Int) ∈ out) = true := decide_eq_true hmem
    simp only [hdm, e7, kB, kZ, kD, fillA, partsEv, zeroes, Nat.reduceSub, Int.reduceToNat, Nat.reduceMul, asInt?, asNat?, Int.reduceAdd, Int.reduceLE, Int.reduceLT, Int.reduceNeg, Nat.reduceLeDiff, VOpd.ev, Nat.reduceEqDiff, Nat.reduceAdd, reduceIte, reduceCtorEq, splice, resOf, tupOf, cellsV, AV.toV, AV.cell?, cellVal]
    rw [← hT]
    exact ⟨⟨_, rfl⟩, hw.low (by omega)⟩
  have hdm : decide ((n : Int) ∈ out) = false := decide_eq_false hmem
  rw [if_pos ⟨hc, hmem⟩] at hst
  have hsn := freeN_snoc out n hmem _ hn
  have hm1 : 0 < m := by omega
  rw [traceK_some hst hm1] at hT
  simp only [hdm, e7, kB, kZ, kD, fillA, partsEv, zeroes, Nat.reduceSub, Int.reduceToNat, Nat.reduceMul, asInt?, asNat?, Int.reduceAdd, Int.reduceLE, Int.reduceLT, Int.reduceNeg, Nat.reduceLeDiff, VOpd.ev, Nat.reduceEqDiff, Nat.reduceAdd, reduceIte, reduceCtorEq, splice, resOf, tupOf, cellsV, AV.toV, AV.cell?, cellVal]
  refine opR_push (S := st ++ (⟨[s, iA U.params, iA U.regs, iA U.code, iA U.spill, bl], 0, 0⟩ :: L : St)) (lo := st.length + 1) (l := out) (vx := w) (b := st.length + (L.length + 1)) (n : Int) ?_ ?_ ?_ ?_ hw ?_ (by omega) ?_
  · simp
  · simp
  · simp only [e7, kB, kZ, kD, fillA, partsEv, zeroes, Nat.reduceSub, Int.reduceToNat, Nat.reduceMul, asInt?, asNat?, Int.reduceAdd, Int.reduceLE, Int.reduceLT, Int.reduceNeg, Nat.reduceLeDiff, VOpd.ev, Nat.reduceEqDiff, Nat.reduceAdd, reduceIte, reduceCtorEq, splice, resOf, tupOf, cellsV, AV.toV, AV.cell?, cellVal]
  · simp only [kB, kZ, kD, fillA, partsEv, zeroes, Nat.reduceSub, Int.reduceToNat, Nat.reduceMul, asInt?, asNat?, Int.reduceAdd, Int.reduceLE, Int.reduceLT, Int.reduceNeg, Nat.reduceLeDiff, VOpd.ev, Nat.reduceEqDiff, Nat.reduceAdd, reduceIte, reduceCtorEq, splice, resOf, tupOf, cellsV, AV.toV, AV.cell?, cellVal]
  · simp only [List.length_append, List.length_cons]; omega
  intro w2 S2 hag hw2
  have hsh := (hag.mono (Y := fun b => st.length + 1 ≤ b) (fun b _ hb => (hw.bnd b hb).1)).shape (st := st) (M := [⟨[s, iA U.params, iA U.regs, iA U.code, iA U.spill, bl], 0, 0⟩]) (N := L) (fun b hb => hb)
  simp only [e1, e2, e3, kB, kZ, kD, fillA, partsEv, zeroes, Nat.reduceSub, Int.reduceToNat, Nat.reduceMul, asInt?, asNat?, Int.reduceAdd, Int.reduceLE, Int.reduceLT, Int.reduceNeg, Nat.reduceLeDiff, VOpd.ev, Nat.reduceEqDiff, Nat.reduceAdd, reduceIte, reduceCtorEq, splice, resOf, tupOf, cellsV, AV.toV, AV.cell?, cellVal]
  exact ⟨m - 1, by omega, out ++ [(n : Int)], n, k + 1, hsh, hw2, ⟨by simp; omega, by rw [List.getElem?_append_right (by omega), hk, Nat.sub_self]; rfl⟩, hn, by omega, by simp; omega, hT⟩
end
end Go.VX.Seat
end
section
set_option linter.unusedVariables false
set_option linter.unusedSimpArgs false
set_option maxRecDepth 4000
/-! trace.Likely, trace.Trace; the law TraceLikely. -/
namespace Go.VX.Seat
open Go.Proofs
def CAt (S : St) (v : AV) (l : List CntV) : Prop := ∃ lo hi, CntsAt S lo hi v l
theorem UAt.mono {S : St} {v : AV} {U : UnitV} (h : UAt S v U) (L : St) : UAt (S ++ L) v U := let ⟨lo, hi, h⟩ := h; ⟨lo, hi, h.mono L⟩
theorem CAt.mono {S : St} {v : AV} {l : List CntV} (h : CAt S v l) (L : St) : CAt (S ++ L) v l := let ⟨lo, hi, h⟩ := h; ⟨lo, hi, ArrAt.mono h L⟩
theorem IAt.mono {S : St} {v : AV} {l : List Int} (h : IAt S v l) (L : St) : IAt (S ++ L) v l := let ⟨lo, hi, h⟩ := h; ⟨lo, hi, ArrAt.mono h L⟩
theorem OwnS.cat {S : St} {lo : Nat} {v : AV} {l : List CntV} (h : OwnS S lo v 3 (l.map CntV.row)) : CAt S v l := ⟨_, _, h.arr⟩
def withU (U : UnitV) (P : List CntV) (b : Int) : Int := thereU U (decide ((P.length : Int) = U.blocks.length)) b
def likelyU (U : UnitV) (P : List CntV) (b : Int) : Int × Int := match U.blocks[b.toNat]?, P[b.toNat]? with
  | some B, some c => if 0 ≤ likN B.e c then (likN B.e c, 0) else (0, 5)
  | _, _ => (0, 5)
def traceU (U : UnitV) (P : List CntV) (b : Int) : List Int := match U.blocks[b.toNat]? with
  | some B => traceK U P B.catch_ U.blocks.length [(b.toNat : Int)] b.toNat
  | none => []
theorem with_zero {U : UnitV} {P : List CntV} {b : Int} (h : withU U P b = 0) : Wf U ∧ P.length = U.blocks.length ∧ ∃ x : Nat, x < U.blocks.length ∧ b = x := by
  obtain ⟨h1, h2, h3⟩ := there_zero h
  exact ⟨chk_wf h1, by have := of_decide_eq_true h2; omega, h3⟩
theorem traceK_len (U : UnitV) (P : List CntV) (cx : Int) : ∀ (m : Nat) (out : List Int) (last : Nat), (traceK U P cx m out last).length ≤ out.length + m
  | 0, out, last => by simp [traceK]
  | m + 1, out, last => by
    unfold traceK
    split
    · omega
    · have := traceK_len U P cx m (out ++ [(‹Nat› : Int)]) ‹Nat›
      simp at this ⊢
      omega
theorem callO_prof {X : Cx} {env : Env} {st : St} {Q : Post3} {K : Env → St → Post3 → Prop} {f : FuncId} {args : List AV} {dst : Option Nat} {keep : List VOpd} {rows : List (List AV)} (hw : wpF X f args st fun r s => ∃ w, r = .ret w ∧ (∃ m, s = st ++ m) ∧ OwnS s st.length w 3 rows)
    (h : ∀ w m, OwnS (st ++ m) st.length w 3 rows → K (env.put dst w) (st ++ m) Q) : callO X f args dst keep K env st Q := by
  refine wpF.mono hw ?_
  rintro r s ⟨w, rfl, ⟨m, rfl⟩, h1⟩
  exact ⟨kept_app _ _ _ _, h w m h1⟩
section
variable {X : Cx} {st : St}
theorem j_trace_Likely (h : OnH X) (hg : GB st) {v pv : AV} {U : UnitV} {P : List CntV} (hv : UAt st v U) (hp : CAt st pv P) (b : Int) :
    J X.P X.F X.H (.call 27 [v, pv, iA b] st (.ret (.tup [iA (if withU U P b = 0 then likelyU U P b else (0, withU U P b)).1, iA (if withU U P b = 0 then likelyU U P b else (0, withU U P b)).2])) st) := by
  refine pure_intro (by rw [h.F]; rfl) rfl ?_
  obtain ⟨lo, hi, hv⟩ := hv
  obtain ⟨lo', hi', hp⟩ := hp
  have hm := fun L => hv.mono L
  have hmp := fun L => ArrAt.mono hp L
  obtain ⟨s, bl, rfl, hs, hb⟩ := hv
  have hj := fun L => j_trace_with h (hg.app L) (hm L) (hmp L) b
  simp only [v_trace_Likely, kB, kZ, kD, fillA, partsEv, zeroes, Nat.reduceSub, Int.reduceToNat, Nat.reduceMul, asInt?, asNat?, Int.reduceAdd, Int.reduceLE, Int.reduceLT, Int.reduceNeg, Nat.reduceLeDiff, VOpd.ev, Nat.reduceEqDiff, Nat.reduceAdd, reduceIte, reduceCtorEq, splice, resOf, tupOf, cellsV, AV.toV, AV.cell?, cellVal]
  refine callO_same (hj _) ?_
  have hwu : thereU U (decide ((P.length : Int) = U.blocks.length)) b = withU U P b := rfl
  simp only [hwu, kB, kZ, kD, fillA, partsEv, zeroes, Nat.reduceSub, Int.reduceToNat, Nat.reduceMul, asInt?, asNat?, Int.reduceAdd, Int.reduceLE, Int.reduceLT, Int.reduceNeg, Nat.reduceLeDiff, VOpd.ev, Nat.reduceEqDiff, Nat.reduceAdd, reduceIte, reduceCtorEq, splice, resOf, tupOf, cellsV, AV.toV, AV.cell?, cellVal]
  refine condO_intro ?_ ?_ <;> intro hc
  · have hc : ¬ withU U P b = 0 := of_decide_eq_true hc
    simp only [hc, if_false, kB, kZ, kD, fillA, partsEv, zeroes, Nat.reduceSub, Int.reduceToNat, Nat.reduceMul, asInt?, asNat?, Int.reduceAdd, Int.reduceLE, Int.reduceLT, Int.reduceNeg, Nat.reduceLeDiff, VOpd.ev, Nat.reduceEqDiff, Nat.reduceAdd, reduceIte, reduceCtorEq, splice, resOf, tupOf, cellsV, AV.toV, AV.cell?, cellVal]
    first | exact ⟨_, rfl⟩ | exact ⟨rfl, _, rfl⟩ | exact ⟨trivial, _, rfl⟩ | exact ⟨[], (List.append_nil _).symm⟩
  · have hc : withU U P b = 0 := Decidable.not_not.1 (of_decide_eq_false hc)
    obtain ⟨wf, hPN, x, hx, rfl⟩ := with_zero hc
    have hlu : likelyU U P x = if 0 ≤ likN U.blocks[x].e (P[x]'(by omega)) then (likN U.blocks[x].e (P[x]'(by omega)), 0) else (0, 5) := by
      unfold likelyU
      rw [Int.toNat_natCast, List.getElem?_eq_getElem hx, List.getElem?_eq_getElem (by omega)]
    simp only [hc, if_true, kB, kZ, kD, fillA, partsEv, zeroes, Nat.reduceSub, Int.reduceToNat, Nat.reduceMul, asInt?, asNat?, Int.reduceAdd, Int.reduceLE, Int.reduceLT, Int.reduceNeg, Nat.reduceLeDiff, VOpd.ev, Nat.reduceEqDiff, Nat.reduceAdd, reduceIte, reduceCtorEq, splice, resOf, tupOf, cellsV, AV.toV, AV.cell?, cellVal]
    refine callO_same (j_trace_likely h.toOn (hm _) (hmp _) x hx (by omega)) ?_
    rw [likB_eq]
    by_cases hl : 0 ≤ likN U.blocks[x].e (P[x]'(by omega))
    · have hd := decide_eq_true hl
      have hI := likI_eq _ _ hl
      rw [if_pos hl] at hlu
      simp only [hd, hI, hlu, kB, kZ, kD, fillA, partsEv, zeroes, Nat.reduceSub, Int.reduceToNat, Nat.reduceMul, asInt?, asNat?, Int.reduceAdd, Int.reduceLE, Int.reduceLT, Int.reduceNeg, Nat.reduceLeDiff, VOpd.ev, Nat.reduceEqDiff, Nat.reduceAdd, reduceIte, reduceCtorEq, splice, resOf, tupOf, cellsV, AV.toV, AV.cell?, cellVal]
      first | exact ⟨_, rfl⟩ | exact ⟨rfl, _, rfl⟩ | exact ⟨trivial, _, rfl⟩ | exact ⟨[], (List.append_nil _).symm⟩
    · have hd := decide_eq_false hl
      rw [if_neg hl] at hlu
      simp only [hd, hlu, kB, kZ, kD, fillA, partsEv, zeroes, Nat.reduceSub, Int.reduceToNat, Nat.reduceMul, asInt?, asNat?, Int.reduceAdd, Int.reduceLE, Int.reduceLT, Int.reduceNeg, Nat.reduceLeDiff, VOpd.ev, Nat.reduceEqDiff, Nat.reduceAdd, reduceIte, reduceCtorEq, splice, resOf, tupOf, cellsV, AV.toV, AV.cell?, cellVal]
      first | exact ⟨_, rfl⟩ | exact ⟨rfl, _, rfl⟩ | exact ⟨trivial, _, rfl⟩ | exact ⟨[], (List.append_nil _).symm⟩
theorem w_trace_Trace (h : OnH X) (hg : GB st) {v pv : AV} {U : UnitV} {P : List CntV} (hv : UAt st v U) (hp : CAt st pv P) (b : Int) :
    wpF X 28 [v, pv, iA b] st fun r s => ∃ w, r = .ret (.tup [w, iA (withU U P b)]) ∧ NewInts st s w (if withU U P b = 0 then traceU U P b else []) := by
  refine wpF_go (fn := v_trace_Trace) (by rw [h.F]; rfl) ?_
  obtain ⟨lo, hi, hv⟩ := hv
  obtain ⟨lo', hi', hp⟩ := hp
  have hm := fun L => hv.mono L
  have hmp := fun L => ArrAt.mono hp L
  obtain ⟨s, bl, rfl, hs, hb⟩ := hv
  have hj := fun L => j_trace_with h (hg.app L) (hm L) (hmp L) b
  simp only [v_trace_Trace, kB, kZ, kD, fillA, partsEv, zeroes, Nat.reduceSub, Int.reduceToNat, Nat.reduceMul, asInt?, asNat?, Int.reduceAdd, Int.reduceLE, Int.reduceLT, Int.reduceNeg, Nat.reduceLeDiff, VOpd.ev, Nat.reduceEqDiff, Nat.reduceAdd, reduceIte, reduceCtorEq, splice, resOf, tupOf, cellsV, AV.toV, AV.cell?, cellVal]
  refine callO_same (hj _) ?_
  have hwu : thereU U (decide ((P.length : Int) = U.blocks.length)) b = withU U P b := rfl
  simp only [hwu, kB, kZ, kD, fillA, partsEv, zeroes, Nat.reduceSub, Int.reduceToNat, Nat.reduceMul, asInt?, asNat?, Int.reduceAdd, Int.reduceLE, Int.reduceLT, Int.reduceNeg, Nat.reduceLeDiff, VOpd.ev, Nat.reduceEqDiff, Nat.reduceAdd, reduceIte, reduceCtorEq, splice, resOf, tupOf, cellsV, AV.toV, AV.cell?, cellVal]
  refine condO_intro ?_ ?_ <;> intro hc
  · have hc : ¬ withU U P b = 0 := of_decide_eq_true hc
    simp only [hc, if_false, kB, kZ, kD, fillA, partsEv, zeroes, Nat.reduceSub, Int.reduceToNat, Nat.reduceMul, asInt?, asNat?, Int.reduceAdd, Int.reduceLE, Int.reduceLT, Int.reduceNeg, Nat.reduceLeDiff, VOpd.ev, Nat.reduceEqDiff, Nat.reduceAdd, reduceIte, reduceCtorEq, splice, resOf, tupOf, cellsV, AV.toV, AV.cell?, cellVal]
    exact ⟨_, rfl, ⟨_, rfl⟩, own_nil _ _ _⟩
  · have hc : withU U P b = 0 := Decidable.not_not.1 (of_decide_eq_false hc)
    obtain ⟨wf, hPN, x, hx, rfl⟩ := with_zero hc
    have htu : traceU U P x = traceK U P U.blocks[x].catch_ U.blocks.length [(x : Int)] x := by
      unfold traceU
      rw [Int.toNat_natCast, List.getElem?_eq_getElem hx]
    simp only [hc, if_true, kB, kZ, kD, fillA, partsEv, zeroes, Nat.reduceSub, Int.reduceToNat, Nat.reduceMul, asInt?, asNat?, Int.reduceAdd, Int.reduceLE, Int.reduceLT, Int.reduceNeg, Nat.reduceLeDiff, VOpd.ev, Nat.reduceEqDiff, Nat.reduceAdd, reduceIte, reduceCtorEq, splice, resOf, tupOf, cellsV, AV.toV, AV.cell?, cellVal]
    refine wpF.mono (w_trace_trace h.toOn (hm _) (hmp _) wf hPN x hx) ?_
    rintro r s' ⟨w, rfl, ⟨m, rfl⟩, hw⟩
    refine ⟨kept_app _ _ _ _, ?_⟩
    simp only [kB, kZ, kD, fillA, partsEv, zeroes, Nat.reduceSub, Int.reduceToNat, Nat.reduceMul, asInt?, asNat?, Int.reduceAdd, Int.reduceLE, Int.reduceLT, Int.reduceNeg, Nat.reduceLeDiff, VOpd.ev, Nat.reduceEqDiff, Nat.reduceAdd, reduceIte, reduceCtorEq, splice, resOf, tupOf, cellsV, AV.toV, AV.cell?, cellVal]
    rw [htu]
    refine ⟨_, rfl, ⟨_, rfl⟩, ?_⟩
    have := hw.low (lo' := st.length) (by simp)
    simpa using this
set_option maxHeartbeats 2000000 in
theorem w_TraceLikely (h : OnH X) (hg : GB st) {lo hi lo' hi' : Nat} {v pv : AV} {U0 : UnitV} {P0 : List CntV} (hv : UnitAt st lo hi v U0) (hp : CntsAt st lo' hi' pv P0) (b : Int) :
    wpF X 7 [v, pv, iA b] st fun r s => r = .ret (bA true) ∧ ∃ m, s = st ++ m := by
  refine wpF_go (fn := v_l17_TraceLikely) (by rw [h.F]; rfl) ?_
  have hm := fun L => hv.mono L
  have hmp := fun L => ArrAt.mono hp L
  obtain ⟨s, bl, rfl, hs, hb⟩ := hv
  have hcs := isCell_len hs.len
  have hcb : bl.isCell = true := by
    obtain ⟨f, hb, _⟩ := hb
    exact isCell_len hb.len
  have hC := fun (L : St) => w_cut h.toOn (hm L)
  have hR := fun (L : St) => w_profile h.toOn (hmp L)
  have hPl : (P0.take 20).length ≤ 20 := by simp; omega
  generalize cutU U0 16 60 = U at hC
  generalize P0.take 20 = P at hR hPl
  simp only [v_l17_TraceLikely, hcs, hcb, kB, kZ, kD, fillA, partsEv, zeroes, Nat.reduceSub, Int.reduceToNat, Nat.reduceMul, asInt?, asNat?, Int.reduceAdd, Int.reduceLE, Int.reduceLT, Int.reduceNeg, Nat.reduceLeDiff, VOpd.ev, Nat.reduceEqDiff, Nat.reduceAdd, reduceIte, reduceCtorEq, splice, resOf, tupOf, cellsV, AV.toV, AV.cell?, cellVal]
  refine callO_newU (hC _) ?_
  intro w1 m1 hw1
  simp only [kB, kZ, kD, fillA, partsEv, zeroes, Nat.reduceSub, Int.reduceToNat, Nat.reduceMul, asInt?, asNat?, Int.reduceAdd, Int.reduceLE, Int.reduceLT, Int.reduceNeg, Nat.reduceLeDiff, VOpd.ev, Nat.reduceEqDiff, Nat.reduceAdd, reduceIte, reduceCtorEq, splice, resOf, tupOf, cellsV, AV.toV, AV.cell?, cellVal]
  refine callO_prof (hR _) ?_
  intro p1 n1 hp1
  obtain ⟨sz1, bl1, f1, rfl, hz1, hb1⟩ := hw1.ex
  have hszc1 := isCell_len hz1.own.arr.len
  have hblc1 := isCell_len hb1.own.arr.len
  have hbl1 := hb1.own.arr.len
  rw [blkRows_length] at hbl1
  have hpl1 := hp1.arr.len
  simp only [List.length_map] at hpl1
  have hU1 : ∀ M : St, UAt (st ++ (⟨[s, iA U0.params, iA U0.regs, iA U0.code, iA U0.spill, bl], 0, 0⟩ :: (m1 ++ M))) (.agg [sz1, iA U.params, iA U.regs, iA U.code, iA U.spill, bl1]) U := fun M => by simpa using hw1.uat.mono M
  have hP1 : ∀ M : St, CAt (st ++ (⟨[s, iA U0.params, iA U0.regs, iA U0.code, iA U0.spill, bl], 0, 0⟩ :: (m1 ++ (n1 ++ M)))) p1 P := fun M => by simpa using hp1.cat.mono M
  clear hz1 hb1 hw1 hp1
  simp only [hszc1, hblc1, kB, kZ, kD, fillA, partsEv, zeroes, Nat.reduceSub, Int.reduceToNat, Nat.reduceMul, asInt?, asNat?, Int.reduceAdd, Int.reduceLE, Int.reduceLT, Int.reduceNeg, Nat.reduceLeDiff, VOpd.ev, Nat.reduceEqDiff, Nat.reduceAdd, reduceIte, reduceCtorEq, splice, resOf, tupOf, cellsV, AV.toV, AV.cell?, cellVal]
  refine callO_newU (hC _) ?_
  intro w2 m2 hw2
  simp only [kB, kZ, kD, fillA, partsEv, zeroes, Nat.reduceSub, Int.reduceToNat, Nat.reduceMul, asInt?, asNat?, Int.reduceAdd, Int.reduceLE, Int.reduceLT, Int.reduceNeg, Nat.reduceLeDiff, VOpd.ev, Nat.reduceEqDiff, Nat.reduceAdd, reduceIte, reduceCtorEq, splice, resOf, tupOf, cellsV, AV.toV, AV.cell?, cellVal]
  refine callO_prof (hR _) ?_
  intro p2 n2 hp2
  have hU2 : UAt (st ++ (⟨[s, iA U0.params, iA U0.regs, iA U0.code, iA U0.spill, bl], 0, 0⟩ :: (m1 ++ (n1 ++ (⟨[sz1, iA U.params, iA U.regs, iA U.code, iA U.spill, bl1], 0, 1⟩ :: (m2 ++ n2)))))) w2 U := by simpa using hw2.uat.mono n2
  have hP2 : CAt (st ++ (⟨[s, iA U0.params, iA U0.regs, iA U0.code, iA U0.spill, bl], 0, 0⟩ :: (m1 ++ (n1 ++ (⟨[sz1, iA U.params, iA U.regs, iA U.code, iA U.spill, bl1], 0, 1⟩ :: (m2 ++ n2)))))) p2 P := by simpa using hp2.cat
  clear hw2 hp2
  simp only [kB, kZ, kD, fillA, partsEv, zeroes, Nat.reduceSub, Int.reduceToNat, Nat.reduceMul, asInt?, asNat?, Int.reduceAdd, Int.reduceLE, Int.reduceLT, Int.reduceNeg, Nat.reduceLeDiff, VOpd.ev, Nat.reduceEqDiff, Nat.reduceAdd, reduceIte, reduceCtorEq, splice, resOf, tupOf, cellsV, AV.toV, AV.cell?, cellVal]
  refine callO_same (j_trace_Likely h (hg.app _) hU2 hP2 b) ?_
  simp only [kB, kZ, kD, fillA, partsEv, zeroes, Nat.reduceSub, Int.reduceToNat, Nat.reduceMul, asInt?, asNat?, Int.reduceAdd, Int.reduceLE, Int.reduceLT, Int.reduceNeg, Nat.reduceLeDiff, VOpd.ev, Nat.reduceEqDiff, Nat.reduceAdd, reduceIte, reduceCtorEq, splice, resOf, tupOf, cellsV, AV.toV, AV.cell?, cellVal]
  refine callO_newU (hC _) ?_
  intro w3 m3 hw3
  simp only [kB, kZ, kD, fillA, partsEv, zeroes, Nat.reduceSub, Int.reduceToNat, Nat.reduceMul, asInt?, asNat?, Int.reduceAdd, Int.reduceLE, Int.reduceLT, Int.reduceNeg, Nat.reduceLeDiff, VOpd.ev, Nat.reduceEqDiff, Nat.reduceAdd, reduceIte, reduceCtorEq, splice, resOf, tupOf, cellsV, AV.toV, AV.cell?, cellVal]
  refine callO_prof (hR _) ?_
  intro p3 n3 hp3
  have hU3 : UAt (st ++ (⟨[s, iA U0.params, iA U0.regs, iA U0.code, iA U0.spill, bl], 0, 0⟩ :: (m1 ++ (n1 ++ (⟨[sz1, iA U.params, iA U.regs, iA U.code, iA U.spill, bl1], 0, 1⟩ :: (m2 ++ (n2 ++ (m3 ++ n3)))))))) w3 U := by simpa using hw3.uat.mono n3
  have hP3 : CAt (st ++ (⟨[s, iA U0.params, iA U0.regs, iA U0.code, iA U0.spill, bl], 0, 0⟩ :: (m1 ++ (n1 ++ (⟨[sz1, iA U.params, iA U.regs, iA U.code, iA U.spill, bl1], 0, 1⟩ :: (m2 ++ (n2 ++ (m3 ++ n3)))))))) p3 P := by simpa using hp3.cat
  clear hw3 hp3
  simp only [kB, kZ, kD, fillA, partsEv, zeroes, Nat.reduceSub, Int.reduceToNat, Nat.reduceMul, asInt?, asNat?, Int.reduceAdd, Int.reduceLE, Int.reduceLT, Int.reduceNeg, Nat.reduceLeDiff, VOpd.ev, Nat.reduceEqDiff, Nat.reduceAdd, reduceIte, reduceCtorEq, splice, resOf, tupOf, cellsV, AV.toV, AV.cell?, cellVal]
  refine wpF.mono (w_trace_Trace h (hg.app _) hU3 hP3 b) ?_
  rintro r s' ⟨w4, rfl, ⟨m4, rfl⟩, hw4⟩
  refine ⟨kept_app _ _ _ _, ?_⟩
  have hl4 := hw4.arr.len
  simp only [List.length_map] at hl4
  have hL4 : IAt (st ++ (⟨[s, iA U0.params, iA U0.regs, iA U0.code, iA U0.spill, bl], 0, 0⟩ :: (m1 ++ (n1 ++ (⟨[sz1, iA U.params, iA U.regs, iA U.code, iA U.spill, bl1], 0, 1⟩ :: (m2 ++ (n2 ++ (m3 ++ (n3 ++ m4)))))))) : St) w4 (if withU U P b = 0 then traceU U P b else []) := by
    have := hw4.iat
    simp only [List.append_assoc, List.cons_append] at this
    exact this
  clear hw4 hU2 hP2 hU3 hP3
  have d7 : St.atN (st ++ (⟨[s, iA U0.params, iA U0.regs, iA U0.code, iA U0.spill, bl], 0, 0⟩ :: (m1 ++ (n1 ++ (⟨[sz1, iA U.params, iA U.regs, iA U.code, iA U.spill, bl1], 0, 1⟩ :: (m2 ++ (n2 ++ (m3 ++ (n3 ++ m4)))))))) : St) (st.length + (m1.length + n1.length + 1)) 0 6 = some [sz1, iA U.params, iA U.regs, iA U.code, iA U.spill, bl1] := by simp only [kB, kZ, kD, fillA, partsEv, zeroes, Nat.reduceSub, Int.reduceToNat, Nat.reduceMul, asInt?, asNat?, Int.reduceAdd, Int.reduceLE, Int.reduceLT, Int.reduceNeg, Nat.reduceLeDiff, VOpd.ev, Nat.reduceEqDiff, Nat.reduceAdd, reduceIte, reduceCtorEq, splice, resOf, tupOf, cellsV, AV.toV, AV.cell?, cellVal]
  have d75 : St.at1 (st ++ (⟨[s, iA U0.params, iA U0.regs, iA U0.code, iA U0.spill, bl], 0, 0⟩ :: (m1 ++ (n1 ++ (⟨[sz1, iA U.params, iA U.regs, iA U.code, iA U.spill, bl1], 0, 1⟩ :: (m2 ++ (n2 ++ (m3 ++ (n3 ++ m4)))))))) : St) (st.length + (m1.length + n1.length + 1)) 5 = some bl1 := by simp only [kB, kZ, kD, fillA, partsEv, zeroes, Nat.reduceSub, Int.reduceToNat, Nat.reduceMul, asInt?, asNat?, Int.reduceAdd, Int.reduceLE, Int.reduceLT, Int.reduceNeg, Nat.reduceLeDiff, VOpd.ev, Nat.reduceEqDiff, Nat.reduceAdd, reduceIte, reduceCtorEq, splice, resOf, tupOf, cellsV, AV.toV, AV.cell?, cellVal]
  obtain ⟨_, _, u7⟩ := hU1 (n1 ++ (⟨[sz1, iA U.params, iA U.regs, iA U.code, iA U.spill, bl1], 0, 1⟩ :: (m2 ++ (n2 ++ (m3 ++ (n3 ++ m4))))))
  obtain ⟨_, _, c8⟩ := hP1 (⟨[sz1, iA U.params, iA U.regs, iA U.code, iA U.spill, bl1], 0, 1⟩ :: (m2 ++ (n2 ++ (m3 ++ (n3 ++ m4)))))
  have hgS : GB (st ++ (⟨[s, iA U0.params, iA U0.regs, iA U0.code, iA U0.spill, bl], 0, 0⟩ :: (m1 ++ (n1 ++ (⟨[sz1, iA U.params, iA U.regs, iA U.code, iA U.spill, bl1], 0, 1⟩ :: (m2 ++ (n2 ++ (m3 ++ (n3 ++ m4)))))))) : St) := hg.app _
  have hend : ∀ L, ∃ m', (st ++ (⟨[s, iA U0.params, iA U0.regs, iA U0.code, iA U0.spill, bl], 0, 0⟩ :: (m1 ++ (n1 ++ (⟨[sz1, iA U.params, iA U.regs, iA U.code, iA U.spill, bl1], 0, 1⟩ :: (m2 ++ (n2 ++ (m3 ++ (n3 ++ m4)))))))) : St) ++ L = st ++ m' := fun L => ⟨_, by rw [List.append_assoc]⟩
  simp only [kB, kZ, kD, fillA, partsEv, zeroes, Nat.reduceSub, Int.reduceToNat, Nat.reduceMul, asInt?, asNat?, Int.reduceAdd, Int.reduceLE, Int.reduceLT, Int.reduceNeg, Nat.reduceLeDiff, VOpd.ev, Nat.reduceEqDiff, Nat.reduceAdd, reduceIte, reduceCtorEq, splice, resOf, tupOf, cellsV, AV.toV, AV.cell?, cellVal]
  generalize (st ++ (⟨[s, iA U0.params, iA U0.regs, iA U0.code, iA U0.spill, bl], 0, 0⟩ :: (m1 ++ (n1 ++ (⟨[sz1, iA U.params, iA U.regs, iA U.code, iA U.spill, bl1], 0, 1⟩ :: (m2 ++ (n2 ++ (m3 ++ (n3 ++ m4)))))))) : St) = S at *
  generalize (st.length + (m1.length + n1.length + 1)) = P7 at *
  have hwu : thereU U (decide ((P.length : Int) = U.blocks.length)) b = withU U P b := rfl
  simp only [d75, hpl1, hbl1, kB, kZ, kD, fillA, partsEv, zeroes, Nat.reduceSub, Int.reduceToNat, Nat.reduceMul, asInt?, asNat?, Int.reduceAdd, Int.reduceLE, Int.reduceLT, Int.reduceNeg, Nat.reduceLeDiff, VOpd.ev, Nat.reduceEqDiff, Nat.reduceAdd, reduceIte, reduceCtorEq, splice, resOf, tupOf, cellsV, AV.toV, AV.cell?, cellVal]
  refine callO_same (j_l17_there h.toOn u7 _ b) ?_
  rw [hwu]
  simp only [kB, kZ, kD, fillA, partsEv, zeroes, Nat.reduceSub, Int.reduceToNat, Nat.reduceMul, asInt?, asNat?, Int.reduceAdd, Int.reduceLE, Int.reduceLT, Int.reduceNeg, Nat.reduceLeDiff, VOpd.ev, Nat.reduceEqDiff, Nat.reduceAdd, reduceIte, reduceCtorEq, splice, resOf, tupOf, cellsV, AV.toV, AV.cell?, cellVal]
  refine condO_intro ?_ ?_ <;> intro hc
  · have hc : ¬ withU U P b = 0 := of_decide_eq_true hc
    rw [if_neg hc] at hL4 hl4
    have hrr : decide (withU U P b = withU U P b) = true := decide_eq_true rfl
    have hz0 : decide ((0 : Int) = 0) = true := rfl
    have hend' : ∃ m', S = st ++ m' := by have := hend []; simpa using this
    simp only [hc, if_false, hrr, hz0, hl4, kB, kZ, kD, fillA, partsEv, zeroes, Nat.reduceSub, Int.reduceToNat, Nat.reduceMul, asInt?, asNat?, Int.reduceAdd, Int.reduceLE, Int.reduceLT, Int.reduceNeg, Nat.reduceLeDiff, VOpd.ev, Nat.reduceEqDiff, Nat.reduceAdd, reduceIte, reduceCtorEq, splice, resOf, tupOf, cellsV, AV.toV, AV.cell?, cellVal]
    refine callO_same (.hook (h.alive _ hgS)) ?_
    simp only [kB, kZ, kD, fillA, partsEv, zeroes, Nat.reduceSub, Int.reduceToNat, Nat.reduceMul, asInt?, asNat?, Int.reduceAdd, Int.reduceLE, Int.reduceLT, Int.reduceNeg, Nat.reduceLeDiff, VOpd.ev, Nat.reduceEqDiff, Nat.reduceAdd, reduceIte, reduceCtorEq, splice, resOf, tupOf, cellsV, AV.toV, AV.cell?, cellVal]
    exact hend'
  · have hc : withU U P b = 0 := Decidable.not_not.1 (of_decide_eq_false hc)
    rw [if_pos hc] at hL4 hl4
    obtain ⟨wf, hPN, x, hx, rfl⟩ := with_zero hc
    have hz0 : decide ((0 : Int) = 0) = true := rfl
    have hlu : likelyU U P x = if 0 ≤ likN U.blocks[x].e (P[x]'(by omega)) then (likN U.blocks[x].e (P[x]'(by omega)), 0) else (0, 5) := by
      unfold likelyU
      rw [Int.toNat_natCast, List.getElem?_eq_getElem hx, List.getElem?_eq_getElem (by omega)]
    have htu : traceU U P x = traceK U P U.blocks[x].catch_ U.blocks.length [(x : Int)] x := by
      unfold traceU
      rw [Int.toNat_natCast, List.getElem?_eq_getElem hx]
    have htl := traceK_len U P U.blocks[x].catch_ U.blocks.length [(x : Int)] x
    have hnb := wf.nb
    simp only [List.length_cons, List.length_nil] at htl
    rw [htu] at hL4
    obtain ⟨_, _, hL4⟩ := hL4
    have htt : decide (traceK U P U.blocks[x].catch_ U.blocks.length [(x : Int)] x = traceK U P U.blocks[x].catch_ U.blocks.length [(x : Int)] x) = true := decide_eq_true rfl
    simp only [hc, if_true, d7, kB, kZ, kD, fillA, partsEv, zeroes, Nat.reduceSub, Int.reduceToNat, Nat.reduceMul, asInt?, asNat?, Int.reduceAdd, Int.reduceLE, Int.reduceLT, Int.reduceNeg, Nat.reduceLeDiff, VOpd.ev, Nat.reduceEqDiff, Nat.reduceAdd, reduceIte, reduceCtorEq, splice, resOf, tupOf, cellsV, AV.toV, AV.cell?, cellVal]
    refine callO_same (j_r17_Likely h.toOn u7 c8 x hx (by omega)) ?_
    simp only [kB, kZ, kD, fillA, partsEv, zeroes, Nat.reduceSub, Int.reduceToNat, Nat.reduceMul, asInt?, asNat?, Int.reduceAdd, Int.reduceLE, Int.reduceLT, Int.reduceNeg, Nat.reduceLeDiff, VOpd.ev, Nat.reduceEqDiff, Nat.reduceAdd, reduceIte, reduceCtorEq, splice, resOf, tupOf, cellsV, AV.toV, AV.cell?, cellVal]
    generalize likN U.blocks[x].e (P[x]'(by omega)) = lk at *
    refine condO_intro ?_ ?_ <;> intro hc2
    · have h2 : ¬ 0 ≤ lk := by have := of_decide_eq_true hc2; omega
      rw [if_neg h2] at hlu
      have h55 : decide ((5 : Int) = 5) = true := rfl
      simp only [hlu, hz0, h55, d7, kB, kZ, kD, fillA, partsEv, zeroes, Nat.reduceSub, Int.reduceToNat, Nat.reduceMul, asInt?, asNat?, Int.reduceAdd, Int.reduceLE, Int.reduceLT, Int.reduceNeg, Nat.reduceLeDiff, VOpd.ev, Nat.reduceEqDiff, Nat.reduceAdd, reduceIte, reduceCtorEq, splice, resOf, tupOf, cellsV, AV.toV, AV.cell?, cellVal]
      refine wpF.mono (w_r17_Trace h.toOn u7 c8 wf hPN x hx) ?_
      rintro r s' ⟨w5, rfl, ⟨m5, rfl⟩, hw5⟩
      refine ⟨kept_app _ _ _ _, ?_⟩
      simp only [kB, kZ, kD, fillA, partsEv, zeroes, Nat.reduceSub, Int.reduceToNat, Nat.reduceMul, asInt?, asNat?, Int.reduceAdd, Int.reduceLE, Int.reduceLT, Int.reduceNeg, Nat.reduceLeDiff, VOpd.ev, Nat.reduceEqDiff, Nat.reduceAdd, reduceIte, reduceCtorEq, splice, resOf, tupOf, cellsV, AV.toV, AV.cell?, cellVal]
      refine callO_same (j_l17_ints h.toOn (hL4.mono m5) hw5.arr (by omega)) ?_
      simp only [htt, kB, kZ, kD, fillA, partsEv, zeroes, Nat.reduceSub, Int.reduceToNat, Nat.reduceMul, asInt?, asNat?, Int.reduceAdd, Int.reduceLE, Int.reduceLT, Int.reduceNeg, Nat.reduceLeDiff, VOpd.ev, Nat.reduceEqDiff, Nat.reduceAdd, reduceIte, reduceCtorEq, splice, resOf, tupOf, cellsV, AV.toV, AV.cell?, cellVal]
      refine callO_same (.hook (h.alive _ (hgS.app _))) ?_
      simp only [kB, kZ, kD, fillA, partsEv, zeroes, Nat.reduceSub, Int.reduceToNat, Nat.reduceMul, asInt?, asNat?, Int.reduceAdd, Int.reduceLE, Int.reduceLT, Int.reduceNeg, Nat.reduceLeDiff, VOpd.ev, Nat.reduceEqDiff, Nat.reduceAdd, reduceIte, reduceCtorEq, splice, resOf, tupOf, cellsV, AV.toV, AV.cell?, cellVal]
      exact hend _
    · have h2 : 0 ≤ lk := by have := of_decide_eq_false hc2; omega
      rw [if_pos h2] at hlu
      have hll : decide (lk = lk) = true := decide_eq_true rfl
      simp only [hlu, hz0, hll, d7, kB, kZ, kD, fillA, partsEv, zeroes, Nat.reduceSub, Int.reduceToNat, Nat.reduceMul, asInt?, asNat?, Int.reduceAdd, Int.reduceLE, Int.reduceLT, Int.reduceNeg, Nat.reduceLeDiff, VOpd.ev, Nat.reduceEqDiff, Nat.reduceAdd, reduceIte, reduceCtorEq, splice, resOf, tupOf, cellsV, AV.toV, AV.cell?, cellVal]
      refine wpF.mono (w_r17_Trace h.toOn u7 c8 wf hPN x hx) ?_
      rintro r s' ⟨w5, rfl, ⟨m5, rfl⟩, hw5⟩
      refine ⟨kept_app _ _ _ _, ?_⟩
      simp only [kB, kZ, kD, fillA, partsEv, zeroes, Nat.reduceSub, Int.reduceToNat, Nat.reduceMul, asInt?, asNat?, Int.reduceAdd, Int.reduceLE, Int.reduceLT, Int.reduceNeg, Nat.reduceLeDiff, VOpd.ev, Nat.reduceEqDiff, Nat.reduceAdd, reduceIte, reduceCtorEq, splice, resOf, tupOf, cellsV, AV.toV, AV.cell?, cellVal]
      refine callO_same (j_l17_ints h.toOn (hL4.mono m5) hw5.arr (by omega)) ?_
      simp only [htt, kB, kZ, kD, fillA, partsEv, zeroes, Nat.reduceSub, Int.reduceToNat, Nat.reduceMul, asInt?, asNat?, Int.reduceAdd, Int.reduceLE, Int.reduceLT, Int.reduceNeg, Nat.reduceLeDiff, VOpd.ev, Nat.reduceEqDiff, Nat.reduceAdd, reduceIte, reduceCtorEq, splice, resOf, tupOf, cellsV, AV.toV, AV.cell?, cellVal]
      refine callO_same (.hook (h.alive _ (hgS.app _))) ?_
      simp only [kB, kZ, kD, fillA, partsEv, zeroes, Nat.reduceSub, Int.reduceToNat, Nat.reduceMul, asInt?, asNat?, Int.reduceAdd, Int.reduceLE, Int.reduceLT, Int.reduceNeg, Nat.reduceLeDiff, VOpd.ev, Nat.reduceEqDiff, Nat.reduceAdd, reduceIte, reduceCtorEq, splice, resOf, tupOf, cellsV, AV.toV, AV.cell?, cellVal]
      exact hend _
end
end Go.VX.Seat
end
