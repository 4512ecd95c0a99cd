/- A part of the proofs of the statements of one layer: M4, M5, M6, M8, M9, M10, M11, M12, M13, M14, M15, M18, M19, U16, U3, T1, U2, U4, U5, U6, U7, U17, U18. No condition is added here. -/
import Derived.Test.YtmpndkhedbpmjaaGreatDoorXA12
set_option linter.unusedVariables false
set_option linter.unusedSimpArgs false
section
set_option maxRecDepth 4000
namespace Go.VX.Seat
open Go.Proofs
open Go.VX.AV renaming cell? → xa, toV → xb
open Int renaming reduceAdd → xc, reduceLE → xd, reduceLT → xe, reduceNeg → xf, reduceToNat → xg
open Nat renaming reduceAdd → xh, reduceEqDiff → xi, reduceLeDiff → xj, reduceMul → xk, reduceSub → xl
open Go.VX.VOpd renaming ev → xm
open Go.VX renaming asInt? → xn, asNat? → xo, cellVal → xp, cellsV → xq, fillA → xr, partsEv → xu, resOf → xv, splice → xw, tupOf → xy, zeroes → xz
def bareL (o : OpV) : List Int := if oneK o.k then onceL (operL o) else []
def restL (o : OpV) : List Int := if decide (o.k = 27) || decide (o.k = 28) then [o.a] else if decide (o.k ≠ 26) then bareL o else []
def keepP (o : OpV) (x : Int) : Bool := decide (o.g = -1) || decide (x ≠ o.g)
def rdsR (o : OpV) : List Int := if hasCls o.k then (if decide (o.g ≠ -1) then [o.g] else []) ++ (restL o).filter (keepP o) else []
section
variable {X : Cx} {st : St}
theorem j_r18_uses (h : On X) (k : Int) (hk : oneK k = true) : J X.P X.F X.H (.call 203 [iA k] st (.ret (.tup [bA (hasA k), bA (hasB k), bA (hasC k)])) st) := by
  refine pure_intro (by rw [h.F]; rfl) rfl ?_
  have hb := oneK_bnd hk
  clear hk
  rcases k28 hb.1 (by omega) with rfl | rfl | rfl | rfl | rfl | rfl | rfl | rfl | rfl | rfl | rfl | rfl | rfl | rfl | rfl | rfl | rfl | rfl | rfl | rfl | rfl | rfl | rfl | rfl | rfl | rfl | rfl | rfl
  all_goals
    first
    | (exfalso; revert hb; decide)
    | (simp only [v_r18_uses, Int.reduceLE, Int.reduceEq, Int.reduceLT, kB, kZ, kD, xr, xu, xz, xl, xg, xk, xn, xo, xc, xd, xe, xf, xj, xm, xi, xh, reduceIte, reduceCtorEq, xw, xv, xy, xq, xb, xa, xp]
       exact ⟨rfl, _, rfl⟩)
theorem j_r18_in (h : On X) {lo hi : Nat} {v : AV} {l : List Int} (hv : IntsAt st lo hi v l) (n : Int) (hlen : (l.length : Int) < 4611686018427387904) :
    J X.P X.F X.H (.call 213 [v, iA n] st (.ret (bA (decide (n ∈ l)))) st) := by
  refine pure_intro (by rw [h.F]; rfl) rfl ?_
  have l1 := hv.len
  simp only [List.length_map] at l1
  simp only [v_r18_in, l1, kB, kZ, kD, xr, xu, xz, xl, xg, xk, xn, xo, xc, xd, xe, xf, xj, xm, xi, xh, reduceIte, reduceCtorEq, xw, xv, xy, xq, xb, xa, xp]
  refine loop_live [0, 1] (fun m e => ∃ i : Nat, i + m = l.length ∧ e 5 = iA i ∧ ∀ j (hj : j < l.length), j < i → l[j] ≠ n) l.length ?_ ?_
  · exact ⟨0, by omega, by simp only [kB, kZ, kD, xr, xu, xz, xl, xg, xk, xn, xo, xc, xd, xe, xf, xj, xm, xi, xh, reduceIte, reduceCtorEq, xw, xv, xy, xq, xb, xa, xp], fun j _ hj => absurd hj (by omega)⟩
  · intro m e hL ⟨i, him, h5, hpre⟩
    simp only [kB, kZ, kD, xr, xu, xz, xl, xg, xk, xn, xo, xc, xd, xe, xf, xj, xm, xi, xh, reduceIte, reduceCtorEq, xw, xv, xy, xq, xb, xa, xp] at hL
    obtain ⟨h0, h1⟩ := hL
    simp only [h0, h1, h5, l1, kB, kZ, kD, xr, xu, xz, xl, xg, xk, xn, xo, xc, xd, xe, xf, xj, xm, xi, xh, reduceIte, reduceCtorEq, xw, xv, xy, xq, xb, xa, xp]
    refine condO_intro ?_ ?_ <;> intro hc
    · have hi : i < l.length := by have := of_decide_eq_true hc; omega
      obtain ⟨b1, o1, he1, _, ha1, _⟩ := hv.get i (by simpa using hi)
      have p1 := ha1 [] 0 (by omega)
      simp only [List.getElem_map, Nat.add_zero, List.getElem?_cons_zero] at p1
      simp only [h0, h1, h5, l1, he1, p1, kB, kZ, kD, xr, xu, xz, xl, xg, xk, xn, xo, xc, xd, xe, xf, xj, xm, xi, xh, reduceIte, reduceCtorEq, xw, xv, xy, xq, xb, xa, xp]
      refine condO_intro ?_ ?_ <;> intro hq
      · have hq := of_decide_eq_true hq
        have : decide (n ∈ l) = true := decide_eq_true (hq ▸ List.getElem_mem hi)
        simp only [this, kB, kZ, kD, xr, xu, xz, xl, xg, xk, xn, xo, xc, xd, xe, xf, xj, xm, xi, xh, reduceIte, reduceCtorEq, xw, xv, xy, xq, xb, xa, xp]
        first | exact ⟨_, rfl⟩ | exact ⟨rfl, _, rfl⟩ | exact ⟨trivial, _, rfl⟩ | exact ⟨[], (List.append_nil _).symm⟩
      · have hq := of_decide_eq_false hq
        simp only [h0, h1, h5, kB, kZ, kD, xr, xu, xz, xl, xg, xk, xn, xo, xc, xd, xe, xf, xj, xm, xi, xh, reduceIte, reduceCtorEq, xw, xv, xy, xq, xb, xa, xp]
        rw [wrap_small (by omega) (by omega)]
        refine ⟨m - 1, by omega, i + 1, by omega, by simp, fun j hj hji => ?_⟩
        by_cases e : j = i
        · subst e; exact hq
        · exact hpre j hj (by omega)
    · have hi : i = l.length := by have := of_decide_eq_false hc; omega
      have : decide (n ∈ l) = false := decide_eq_false (not_mem_take fun j hj => hpre j hj (by omega))
      simp only [this, kB, kZ, kD, xr, xu, xz, xl, xg, xk, xn, xo, xc, xd, xe, xf, xj, xm, xi, xh, reduceIte, reduceCtorEq, xw, xv, xy, xq, xb, xa, xp]
      first | exact ⟨_, rfl⟩ | exact ⟨rfl, _, rfl⟩ | exact ⟨trivial, _, rfl⟩ | exact ⟨[], (List.append_nil _).symm⟩
theorem w_r18_put (h : On X) {lo : Nat} {w : AV} {xs : List Int} (hw : OwnS st lo w 1 (rowsI xs)) (hlo : lo ≤ st.length) (n : Int) (hlen : xs.length ≤ 1000000) :
    wpF X 204 [w, iA n] st fun r s => ∃ w', r = .ret w' ∧ Agree (fun b => boxOf w = some b) st s ∧ OwnS s lo w' 1 (rowsI (putL xs n)) := by
  refine wpF_go (fn := v_r18_put) (by rw [h.F]; rfl) ?_
  simp only [v_r18_put, List.append_nil, kB, kZ, kD, xr, xu, xz, xl, xg, xk, xn, xo, xc, xd, xe, xf, xj, xm, xi, xh, reduceIte, reduceCtorEq, xw, xv, xy, xq, xb, xa, xp]
  refine callO_same (j_r18_in h hw.arr n (by omega)) ?_
  simp only [kB, kZ, kD, xr, xu, xz, xl, xg, xk, xn, xo, xc, xd, xe, xf, xj, xm, xi, xh, reduceIte, reduceCtorEq, xw, xv, xy, xq, xb, xa, xp]
  refine condO_intro ?_ ?_ <;> intro hc
  · simp only [List.append_nil, kB, kZ, kD, xr, xu, xz, xl, xg, xk, xn, xo, xc, xd, xe, xf, xj, xm, xi, xh, reduceIte, reduceCtorEq, xw, xv, xy, xq, xb, xa, xp]
    exact ⟨Agree.refl _ _, by rw [putL_pos hc]; exact hw⟩
  · simp only [List.append_nil, kB, kZ, kD, xr, xu, xz, xl, xg, xk, xn, xo, xc, xd, xe, xf, xj, xm, xi, xh, reduceIte, reduceCtorEq, xw, xv, xy, xq, xb, xa, xp]
    have hb : (st ++ [⟨[iA n], 0, 0⟩])[st.length]? = some ⟨(rowsI [n]).flatten, 0, 0⟩ := by simp
    refine opR_append (vx := w) (vy := .sl st.length 0 1 1 true) (lo := lo) (lo' := st.length) (hi' := st.length + 1) (rows := rowsI xs) (rows2 := rowsI [n]) (by simp only [kB, kZ, kD, xr, xu, xz, xl, xg, xk, xn, xo, xc, xd, xe, xf, xj, xm, xi, xh, reduceIte, reduceCtorEq, xw, xv, xy, xq, xb, xa, xp]) (by simp only [kB, kZ, kD, xr, xu, xz, xl, xg, xk, xn, xo, xc, xd, xe, xf, xj, xm, xi, xh, reduceIte, reduceCtorEq, xw, xv, xy, xq, xb, xa, xp]) (own_frame hw _) (by simp; omega) (ArrAt.ofBox hb (by decide) (by simp) rfl) (by simp; omega) (by rfl) ?_
    intro w' s' hag hown _
    simp only [kB, kZ, kD, xr, xu, xz, xl, xg, xk, xn, xo, xc, xd, xe, xf, xj, xm, xi, xh, reduceIte, reduceCtorEq, xw, xv, xy, xq, xb, xa, xp]
    refine ⟨?_, by rw [putL_neg hc]; simpa using hown⟩
    exact ((Agree.app (fun _ => False) st [⟨[iA n], 0, 0⟩]).trans hag).mono fun b _ hx => by
      rcases hx with hx | hx
      · exact hx.elim
      · exact hx.2
theorem callO_put {K : Env → St → Post3 → Prop} {Q : Post3} {env : Env} {dst : Option Nat} (h : On X) (M L : St) {w : AV} {xs : List Int} (hw : OwnS (st ++ (M ++ L)) (st.length + M.length) w 1 (rowsI xs)) (n : Int) (hlen : xs.length ≤ 1000000)
    (hk : ∀ w' L', OwnS (st ++ (M ++ L')) (st.length + M.length) w' 1 (rowsI (putL xs n)) → K (env.put dst w') (st ++ (M ++ L')) Q) : callO X 204 [w, iA n] dst [] K env (st ++ (M ++ L)) Q := by
  refine wpF.mono (w_r18_put h hw (by simp) n hlen) ?_
  rintro r s ⟨w', rfl, hag, hown⟩
  obtain ⟨L', rfl⟩ := Agree.shape (st := st) (M := M) (N := L) hag (fun b hb => (hw.bnd b hb).1)
  exact ⟨rfl, hk w' L' hown⟩
theorem w_r18_Reads (h : On X) (o : OpV) (ho : oneK o.k = true) (hg : o.g = -1) :
    wpF X 190 [.agg o.row] st fun r s => ∃ w m, r = .ret w ∧ s = st ++ m ∧ OwnS s st.length w 1 (rowsI (onceL (operL o))) := by
  refine wpF_go (fn := v_r18_Reads) (by rw [h.F]; rfl) ?_
  have hb := oneK_bnd ho
  have d1 : decide (o.k < 1) = false := decide_eq_false (by omega)
  have d2 : decide (25 < o.k) = false := decide_eq_false (by omega)
  have d3 : decide (o.g ≠ -1) = false := decide_eq_false (by omega)
  simp only [v_r18_Reads, OpV.row, d1, d2, kB, kZ, kD, xr, xu, xz, xl, xg, xk, xn, xo, xc, xd, xe, xf, xj, xm, xi, xh, reduceIte, reduceCtorEq, xw, xv, xy, xq, xb, xa, xp]
  refine callO_same (j_r18_uses h _ ho) ?_
  simp only [kB, kZ, kD, xr, xu, xz, xl, xg, xk, xn, xo, xc, xd, xe, xf, xj, xm, xi, xh, reduceIte, reduceCtorEq, xw, xv, xy, xq, xb, xa, xp]
  refine anyCond m0 (fun e s => ∃ (L : St) (w : AV), s = st ++ ([⟨[iA o.k, iA o.d, iA o.a, iA o.b, iA o.c, iA o.n, iA o.g], 0, 0⟩] ++ L) ∧ e 1 = .ptr (st.length + 0) 0 ∧ e 3 = w ∧ e 5 = bA (hasB o.k) ∧ e 6 = bA (hasC o.k) ∧ (onceL (if hasA o.k then [o.a] else [])).length ≤ 1 ∧ OwnS s (st.length + 1) w 1 (rowsI (onceL (if hasA o.k then [o.a] else [])))) ?_ ?_
  · refine condO_intro ?_ ?_ <;> intro hc
    · simp only [kB, kZ, kD, xr, xu, xz, xl, xg, xk, xn, xo, xc, xd, xe, xf, xj, xm, xi, xh, reduceIte, reduceCtorEq, xw, xv, xy, xq, xb, xa, xp]
      refine callO_put h [⟨[iA o.k, iA o.d, iA o.a, iA o.b, iA o.c, iA o.n, iA o.g], 0, 0⟩] ([] : St) (w := (.sc (.slice none 0 0))) (xs := []) (own_nil _ _ _) _ (by simp) ?_
      intro w' L' hown'
      have hl := putL_len ([]) o.a
      have hst : onceL (if hasA o.k then [o.a] else []) = putL ([]) o.a := by simp only [hc, if_true]; rfl
      simp only [kB, kZ, kD, xr, xu, xz, xl, xg, xk, xn, xo, xc, xd, xe, xf, xj, xm, xi, xh, reduceIte, reduceCtorEq, xw, xv, xy, xq, xb, xa, xp]
      rw [hst]
      have hl2 : (putL ([]) o.a).length ≤ 1 := by simpa using hl
      refine ⟨L', w', rfl, ?_⟩
      simp_all
    · have hst : onceL (if hasA o.k then [o.a] else []) = [] := by simp only [hc, Bool.false_eq_true, if_false]; rfl
      simp only [kB, kZ, kD, xr, xu, xz, xl, xg, xk, xn, xo, xc, xd, xe, xf, xj, xm, xi, xh, reduceIte, reduceCtorEq, xw, xv, xy, xq, xb, xa, xp]
      rw [hst]
      refine ⟨([] : St), (.sc (.slice none 0 0)), rfl, ?_⟩
      exact ⟨rfl, by simp, own_nil _ _ _⟩
  rintro e s ⟨L, w, rfl, k1, k3, k5, k6, hlen, hown⟩
  simp only [k1, k3, k5, k6, kB, kZ, kD, xr, xu, xz, xl, xg, xk, xn, xo, xc, xd, xe, xf, xj, xm, xi, xh, reduceIte, reduceCtorEq, xw, xv, xy, xq, xb, xa, xp]
  refine anyCond m0 (fun e s => ∃ (L : St) (w : AV), s = st ++ ([⟨[iA o.k, iA o.d, iA o.a, iA o.b, iA o.c, iA o.n, iA o.g], 0, 0⟩] ++ L) ∧ e 1 = .ptr (st.length + 0) 0 ∧ e 3 = w ∧ e 6 = bA (hasC o.k) ∧ (onceL ((if hasA o.k then [o.a] else []) ++ (if hasB o.k then [o.b] else []))).length ≤ 2 ∧ OwnS s (st.length + 1) w 1 (rowsI (onceL ((if hasA o.k then [o.a] else []) ++ (if hasB o.k then [o.b] else []))))) ?_ ?_
  · refine condO_intro ?_ ?_ <;> intro hc
    · simp only [k1, k3, kB, kZ, kD, xr, xu, xz, xl, xg, xk, xn, xo, xc, xd, xe, xf, xj, xm, xi, xh, reduceIte, reduceCtorEq, xw, xv, xy, xq, xb, xa, xp]
      refine callO_put h [⟨[iA o.k, iA o.d, iA o.a, iA o.b, iA o.c, iA o.n, iA o.g], 0, 0⟩] L (w := w) (xs := onceL (if hasA o.k then [o.a] else [])) hown _ (by omega) ?_
      intro w' L' hown'
      have hl := putL_len (onceL (if hasA o.k then [o.a] else [])) o.b
      have hst : onceL ((if hasA o.k then [o.a] else []) ++ (if hasB o.k then [o.b] else [])) = putL (onceL (if hasA o.k then [o.a] else [])) o.b := by simp only [hc, if_true]; unfold onceL; rw [List.foldl_append]; rfl
      simp only [k1, k3, kB, kZ, kD, xr, xu, xz, xl, xg, xk, xn, xo, xc, xd, xe, xf, xj, xm, xi, xh, reduceIte, reduceCtorEq, xw, xv, xy, xq, xb, xa, xp]
      rw [hst]
      have hl2 : (putL (onceL (if hasA o.k then [o.a] else [])) o.b).length ≤ 2 := by omega
      refine ⟨L', w', rfl, ?_⟩
      simp_all
    · have hst : onceL ((if hasA o.k then [o.a] else []) ++ (if hasB o.k then [o.b] else [])) = onceL (if hasA o.k then [o.a] else []) := by simp only [hc, Bool.false_eq_true, if_false]; rw [List.append_nil]
      simp only [k1, k3, kB, kZ, kD, xr, xu, xz, xl, xg, xk, xn, xo, xc, xd, xe, xf, xj, xm, xi, xh, reduceIte, reduceCtorEq, xw, xv, xy, xq, xb, xa, xp]
      rw [hst]
      refine ⟨L, w, by simp, ?_⟩
      simp_all; try omega
  rintro e s ⟨L, w, rfl, k1, k3, k6, hlen, hown⟩
  simp only [k1, k3, k6, kB, kZ, kD, xr, xu, xz, xl, xg, xk, xn, xo, xc, xd, xe, xf, xj, xm, xi, xh, reduceIte, reduceCtorEq, xw, xv, xy, xq, xb, xa, xp]
  refine anyCond m0 (fun e s => ∃ (L : St) (w : AV), s = st ++ ([⟨[iA o.k, iA o.d, iA o.a, iA o.b, iA o.c, iA o.n, iA o.g], 0, 0⟩] ++ L) ∧ e 1 = .ptr (st.length + 0) 0 ∧ e 3 = w ∧ (onceL ((if hasA o.k then [o.a] else []) ++ (if hasB o.k then [o.b] else []) ++ (if hasC o.k then [o.c] else []))).length ≤ 3 ∧ OwnS s (st.length + 1) w 1 (rowsI (onceL ((if hasA o.k then [o.a] else []) ++ (if hasB o.k then [o.b] else []) ++ (if hasC o.k then [o.c] else []))))) ?_ ?_
  · refine condO_intro ?_ ?_ <;> intro hc
    · simp only [k1, k3, kB, kZ, kD, xr, xu, xz, xl, xg, xk, xn, xo, xc, xd, xe, xf, xj, xm, xi, xh, reduceIte, reduceCtorEq, xw, xv, xy, xq, xb, xa, xp]
      refine callO_put h [⟨[iA o.k, iA o.d, iA o.a, iA o.b, iA o.c, iA o.n, iA o.g], 0, 0⟩] L (w := w) (xs := onceL ((if hasA o.k then [o.a] else []) ++ (if hasB o.k then [o.b] else []))) hown _ (by omega) ?_
      intro w' L' hown'
      have hl := putL_len (onceL ((if hasA o.k then [o.a] else []) ++ (if hasB o.k then [o.b] else []))) o.c
      have hst : onceL ((if hasA o.k then [o.a] else []) ++ (if hasB o.k then [o.b] else []) ++ (if hasC o.k then [o.c] else [])) = putL (onceL ((if hasA o.k then [o.a] else []) ++ (if hasB o.k then [o.b] else []))) o.c := by simp only [hc, if_true]; unfold onceL; rw [List.foldl_append]; rfl
      simp only [k1, k3, kB, kZ, kD, xr, xu, xz, xl, xg, xk, xn, xo, xc, xd, xe, xf, xj, xm, xi, xh, reduceIte, reduceCtorEq, xw, xv, xy, xq, xb, xa, xp]
      rw [hst]
      have hl2 : (putL (onceL ((if hasA o.k then [o.a] else []) ++ (if hasB o.k then [o.b] else []))) o.c).length ≤ 3 := by omega
      refine ⟨L', w', rfl, ?_⟩
      simp_all
    · have hst : onceL ((if hasA o.k then [o.a] else []) ++ (if hasB o.k then [o.b] else []) ++ (if hasC o.k then [o.c] else [])) = onceL ((if hasA o.k then [o.a] else []) ++ (if hasB o.k then [o.b] else [])) := by simp only [hc, Bool.false_eq_true, if_false]; rw [List.append_nil]
      simp only [k1, k3, kB, kZ, kD, xr, xu, xz, xl, xg, xk, xn, xo, xc, xd, xe, xf, xj, xm, xi, xh, reduceIte, reduceCtorEq, xw, xv, xy, xq, xb, xa, xp]
      rw [hst]
      refine ⟨L, w, by simp, ?_⟩
      simp_all; try omega
  rintro e s ⟨L, w, rfl, k1, k3, hlen, hown⟩
  simp only [k1, k3, d3, kB, kZ, kD, xr, xu, xz, xl, xg, xk, xn, xo, xc, xd, xe, xf, xj, xm, xi, xh, reduceIte, reduceCtorEq, xw, xv, xy, xq, xb, xa, xp]
  exact ⟨_, _, rfl, rfl, hown.low (by omega)⟩
end
end Go.VX.Seat
end
section
set_option maxRecDepth 4000
namespace Go.VX.Seat
open Go.Proofs
open Go.VX.AV renaming cell? → xa, toV → xb
open Int renaming reduceAdd → xc, reduceLE → xd, reduceLT → xe, reduceNeg → xf, reduceToNat → xg
open Nat renaming reduceAdd → xh, reduceEqDiff → xi, reduceLeDiff → xj, reduceMul → xk, reduceSub → xl
open Go.VX.VOpd renaming ev → xm
open Go.VX renaming asInt? → xn, asNat? → xo, cellVal → xp, cellsV → xq, fillA → xr, partsEv → xu, resOf → xv, splice → xw, tupOf → xy, zeroes → xz
theorem restL_len (o : OpV) : (restL o).length ≤ 3 := by
  have h1 := operL_len o
  have h2 := foldl_putL_len (operL o) []
  unfold restL bareL onceL
  simp at h2
  cases decide (o.k = 27) <;> cases decide (o.k = 28) <;> cases decide (o.k ≠ 26) <;> cases oneK o.k <;> simp <;> omega
section
variable {X : Cx} {st : St}
theorem w_r19_Reads (h : On X) (o : OpV) :
    wpF X 171 [.agg o.row] st fun r s => ∃ w m, r = .ret w ∧ s = st ++ m ∧ OwnS s st.length w 1 (rowsI (rdsR o)) := by
  refine wpF_go (fn := v_r19_Reads) (by rw [h.F]; rfl) ?_
  have hrl := restL_len o
  simp only [v_r19_Reads, OpV.row, kB, kZ, kD, xr, xu, xz, xl, xg, xk, xn, xo, xc, xd, xe, xf, xj, xm, xi, xh, reduceIte, reduceCtorEq, xw, xv, xy, xq, xb, xa, xp]
  refine callO_same (j_r19_Class h _) ?_
  simp only [kB, kZ, kD, xr, xu, xz, xl, xg, xk, xn, xo, xc, xd, xe, xf, xj, xm, xi, xh, reduceIte, reduceCtorEq, xw, xv, xy, xq, xb, xa, xp]
  refine condO_intro ?_ ?_ <;> intro hcl
  · have hcl : hasCls o.k = false := by simpa using hcl
    have : rdsR o = [] := by unfold rdsR; simp only [hcl, Bool.false_eq_true, if_false]
    rw [this]
    simp only [kB, kZ, kD, xr, xu, xz, xl, xg, xk, xn, xo, xc, xd, xe, xf, xj, xm, xi, xh, reduceIte, reduceCtorEq, xw, xv, xy, xq, xb, xa, xp]
    exact ⟨_, _, rfl, rfl, own_nil _ _ _⟩
  have hcl : hasCls o.k = true := by simpa using hcl
  have hrd : rdsR o = (if decide (o.g ≠ -1) then [o.g] else []) ++ (restL o).filter (keepP o) := by unfold rdsR; simp only [hcl, if_true]
  rw [hrd]
  simp only [kB, kZ, kD, xr, xu, xz, xl, xg, xk, xn, xo, xc, xd, xe, xf, xj, xm, xi, xh, reduceIte, reduceCtorEq, xw, xv, xy, xq, xb, xa, xp]
  refine anyCond m0 (fun e s => ∃ (L : St) (w : AV), s = st ++ (⟨[iA o.k, iA o.d, iA o.a, iA o.b, iA o.c, iA o.n, iA o.g], 0, 0⟩ :: L) ∧ e 1 = .ptr (st.length + 0) 0 ∧ e 3 = w ∧ OwnS s (st.length + 1) w 1 (rowsI (if decide (o.g ≠ -1) then [o.g] else []))) ?_ ?_
  · refine condO_intro ?_ ?_ <;> intro hq
    · simp only [kB, kZ, kD, xr, xu, xz, xl, xg, xk, xn, xo, xc, xd, xe, xf, xj, xm, xi, xh, reduceIte, reduceCtorEq, xw, xv, xy, xq, xb, xa, xp]
      refine opR_app1 [⟨[iA o.k, iA o.d, iA o.a, iA o.b, iA o.c, iA o.n, iA o.g], 0, 0⟩] (L := ([] : St)) (w := (.sc (.slice none 0 0))) (xs := []) (by simp only [kB, kZ, kD, xr, xu, xz, xl, xg, xk, xn, xo, xc, xd, xe, xf, xj, xm, xi, xh, reduceIte, reduceCtorEq, xw, xv, xy, xq, xb, xa, xp]) (by simp only [kB, kZ, kD, xr, xu, xz, xl, xg, xk, xn, xo, xc, xd, xe, xf, xj, xm, xi, xh, reduceIte, reduceCtorEq, xw, xv, xy, xq, xb, xa, xp]; rfl) (by simp) (own_nil _ _ _) (by simp) ?_
      intro w' L' hown'
      simp only [kB, kZ, kD, xr, xu, xz, xl, xg, xk, xn, xo, xc, xd, xe, xf, xj, xm, xi, xh, reduceIte, reduceCtorEq, xw, xv, xy, xq, xb, xa, xp]
      refine ⟨L', w', rfl, rfl, ?_⟩
      simpa [hq] using hown'
    · simp only [hq, kB, kZ, kD, xr, xu, xz, xl, xg, xk, xn, xo, xc, xd, xe, xf, xj, xm, xi, xh, reduceIte, reduceCtorEq, xw, xv, xy, xq, xb, xa, xp]
      exact ⟨([] : St), _, rfl, rfl, own_nil _ _ _⟩
  rintro e s ⟨L, w, rfl, k1, k3, hown⟩
  simp only [k1, k3, kB, kZ, kD, xr, xu, xz, xl, xg, xk, xn, xo, xc, xd, xe, xf, xj, xm, xi, xh, reduceIte, reduceCtorEq, xw, xv, xy, xq, xb, xa, xp]
  refine anyG (mS m0) (fun e s => ∃ (L : St) (v : AV) (lo hi : Nat), s = st ++ (⟨[iA o.k, iA o.d, iA o.a, iA o.b, iA o.c, iA o.n, iA o.g], 0, 0⟩ :: L) ∧ e 1 = .ptr (st.length + 0) 0 ∧ e 3 = w ∧ e 6 = v ∧ OwnS s (st.length + 1) w 1 (rowsI (if decide (o.g ≠ -1) then [o.g] else [])) ∧ IntsAt s lo hi v (restL o) ∧ ∀ b, boxOf v = some b → boxOf w ≠ some b) ?_ ?_
  · cases h1 : decide (o.k = 27)
    case true =>
      simp only [k1, k3, h1, kB, kZ, kD, xr, xu, xz, xl, xg, xk, xn, xo, xc, xd, xe, xf, xj, xm, xi, xh, reduceIte, reduceCtorEq, xw, xv, xy, xq, xb, xa, xp]
      have hr : restL o = [o.a] := by unfold restL; simp only [h1, Bool.true_or, Bool.or_true, if_true]
      rw [hr]
      have hb : (st ++ (⟨[iA o.k, iA o.d, iA o.a, iA o.b, iA o.c, iA o.n, iA o.g], 0, 0⟩ :: (L ++ [⟨[iA o.a], 0, 0⟩])))[st.length + (L.length + 1)]? = some ⟨(rowsI [o.a]).flatten, 0, 0⟩ := by
        rw [List.getElem?_append_right (by omega)]; simp
      refine ⟨_, _, _, _, rfl, rfl, ?_, ArrAt.ofBox hb (by decide) (by simp) rfl, ?_⟩
      · simpa using own_frame hown [⟨[iA o.a], 0, 0⟩]
      · intro b hb2 hw
        have := (hown.bnd b hw).2
        simp [boxOf] at hb2
        simp at this
        omega

    cases h2 : decide (o.k = 28)
    case true =>
      simp only [k1, k3, h1, h2, kB, kZ, kD, xr, xu, xz, xl, xg, xk, xn, xo, xc, xd, xe, xf, xj, xm, xi, xh, reduceIte, reduceCtorEq, xw, xv, xy, xq, xb, xa, xp]
      have hr : restL o = [o.a] := by unfold restL; simp only [h1, h2, Bool.true_or, Bool.or_true, if_true]
      rw [hr]
      have hb : (st ++ (⟨[iA o.k, iA o.d, iA o.a, iA o.b, iA o.c, iA o.n, iA o.g], 0, 0⟩ :: (L ++ [⟨[iA o.a], 0, 0⟩])))[st.length + (L.length + 1)]? = some ⟨(rowsI [o.a]).flatten, 0, 0⟩ := by
        rw [List.getElem?_append_right (by omega)]; simp
      refine ⟨_, _, _, _, rfl, rfl, ?_, ArrAt.ofBox hb (by decide) (by simp) rfl, ?_⟩
      · simpa using own_frame hown [⟨[iA o.a], 0, 0⟩]
      · intro b hb2 hw
        have := (hown.bnd b hw).2
        simp [boxOf] at hb2
        simp at this
        omega

    simp only [k1, k3, h1, h2, kB, kZ, kD, xr, xu, xz, xl, xg, xk, xn, xo, xc, xd, xe, xf, xj, xm, xi, xh, reduceIte, reduceCtorEq, xw, xv, xy, xq, xb, xa, xp]
    cases h3 : decide (o.k ≠ 26)
    · have hr : restL o = [] := by unfold restL; simp only [h1, h2, h3, Bool.or_self, Bool.false_eq_true, if_false]
      rw [hr]
      simp only [k1, k3, h3, kB, kZ, kD, xr, xu, xz, xl, xg, xk, xn, xo, xc, xd, xe, xf, xj, xm, xi, xh, reduceIte, reduceCtorEq, xw, xv, xy, xq, xb, xa, xp]
      exact ⟨L, _, 0, 0, rfl, rfl, hown, emptyArr _ _ _ _, fun b hb => by cases hb⟩
    · have ho : oneK o.k = true := by
        have h26 : decide (o.k = 26) = false := by simpa using h3
        unfold hasCls outK at hcl
        rw [h26, h1, h2] at hcl
        simpa using hcl
      have hr : restL o = onceL (operL o) := by unfold restL bareL; simp only [h1, h2, h3, ho, Bool.or_self, Bool.false_eq_true, if_false, if_true]
      rw [hr]
      simp only [k1, k3, h3, kB, kZ, kD, xr, xu, xz, xl, xg, xk, xn, xo, xc, xd, xe, xf, xj, xm, xi, xh, reduceIte, reduceCtorEq, xw, xv, xy, xq, xb, xa, xp]
      refine callO_own (w_r18_Reads h { o with g := -1 } ho rfl) ?_
      intro v m hv
      simp only [k1, k3, List.append_assoc, List.cons_append, List.nil_append, kB, kZ, kD, xr, xu, xz, xl, xg, xk, xn, xo, xc, xd, xe, xf, xj, xm, xi, xh, reduceIte, reduceCtorEq, xw, xv, xy, xq, xb, xa, xp]
      have hv2 : OwnS (st ++ (⟨[iA o.k, iA o.d, iA o.a, iA o.b, iA o.c, iA o.n, iA o.g], 0, 0⟩ :: (L ++ ⟨[iA o.k, iA o.d, iA o.a, iA o.b, iA o.c, iA o.n, .sc (.int .i64 (-1))], 0, 2⟩ :: m))) (st.length + (L.length + 1 + 1)) v 1 (rowsI (onceL (operL o))) := by simpa [operL] using hv
      refine ⟨_, v, _, _, rfl, rfl, by simpa using own_frame hown (⟨[iA o.k, iA o.d, iA o.a, iA o.b, iA o.c, iA o.n, .sc (.int .i64 (-1))], 0, 2⟩ :: m), hv2.arr, fun b hb hw => ?_⟩
      have h1 := (hown.bnd b hw).2
      have h2 := (hv2.bnd b hb).1
      simp at h1
      omega
  rintro e s ⟨L, v, lo, hi, rfl, k1, k3, k6, hown, hv, hdis⟩
  have hlv := hv.len
  simp only [List.length_map] at hlv
  simp only [k1, k3, k6, kB, kZ, kD, xr, xu, xz, xl, xg, xk, xn, xo, xc, xd, xe, xf, xj, xm, xi, xh, reduceIte, reduceCtorEq, xw, xv, xy, xq, xb, xa, xp]
  generalize restL o = rest at *
  have hlr : (if decide (o.g ≠ -1) then [o.g] else []).length ≤ 1 := by cases decide (o.g ≠ -1) <;> simp
  refine loop_inv (fun n e s' => ∃ (i : Nat) (L1 : St) (w2 : AV), i + n = rest.length ∧ s' = st ++ (⟨[iA o.k, iA o.d, iA o.a, iA o.b, iA o.c, iA o.n, iA o.g], 0, 0⟩ :: L1) ∧ e 1 = .ptr (st.length + 0) 0 ∧ e 3 = w2 ∧ e 6 = v ∧ e 8 = iA i ∧ OwnS s' (st.length + 1) w2 1 (rowsI ((if decide (o.g ≠ -1) then [o.g] else []) ++ (rest.take i).filter (keepP o))) ∧ IntsAt s' lo hi v rest ∧ ∀ b, boxOf v = some b → boxOf w2 ≠ some b) ?_ rest.length ?_
  case refine_2 =>
    exact ⟨0, L, w, by omega, rfl, k1, k3, k6, rfl, by simpa using hown, hv, hdis⟩
  clear hown hv hdis k1 k3 k6
  intro n e s' ⟨i, L1, w2, him, hs', k1, k3, k6, k8, hown, hv, hdis⟩
  subst hs'
  simp only [k1, k3, k6, k8, hlv, kB, kZ, kD, xr, xu, xz, xl, xg, xk, xn, xo, xc, xd, xe, xf, xj, xm, xi, xh, reduceIte, reduceCtorEq, xw, xv, xy, xq, xb, xa, xp]
  refine condO_intro ?_ ?_ <;> intro hc
  · have hil : i < rest.length := by have := of_decide_eq_true hc; omega
    obtain ⟨b1, o1, he1, _, ha1, _⟩ := hv.get i (by simpa using hil)
    have p1 := ha1 [] 0 (by omega)
    simp only [List.append_nil, List.getElem_map, Nat.add_zero, List.getElem?_cons_zero] at p1
    have hwr : IntKind.wrap .i64 ((i : Int) + 1) = ((i + 1 : Nat) : Int) := by rw [wrap_small (by omega) (by omega)]; omega
    have htk : rest.take (i + 1) = rest.take i ++ [rest[i]] := (List.take_append_getElem hil).symm
    have hfl : ((rest.take i).filter (keepP o)).length ≤ 3 := by
      have h1 := List.length_filter_le (keepP o) (rest.take i)
      have h2 : (rest.take i).length ≤ rest.length := by simp only [List.length_take]; omega
      omega
    cases hq : decide (o.g = -1)
    · cases hq2 : decide (rest[i] ≠ o.g)
      · have hp : [rest[i]].filter (keepP o) = [] := by simp only [keepP, List.filter_cons, hq, hq2, Bool.or_self, Bool.false_eq_true, if_false, List.filter_nil]
        simp only [k1, k3, k6, k8, hlv, he1, p1, hwr, List.append_nil, hq, hq2, kB, kZ, kD, xr, xu, xz, xl, xg, xk, xn, xo, xc, xd, xe, xf, xj, xm, xi, xh, reduceIte, reduceCtorEq, xw, xv, xy, xq, xb, xa, xp]
        refine ⟨n - 1, by omega, i + 1, L1, w2, by omega, rfl, rfl, rfl, ?_⟩
        exact ⟨by rw [htk, List.filter_append, hp, List.append_nil]; exact hown, hv, hdis⟩
      · have hp : [rest[i]].filter (keepP o) = [rest[i]] := by simp only [keepP, List.filter_cons, hq, hq2, Bool.false_or, if_true, List.filter_nil]
        simp only [k1, k3, k6, k8, hlv, he1, p1, hwr, List.append_nil, hq, hq2, kB, kZ, kD, xr, xu, xz, xl, xg, xk, xn, xo, xc, xd, xe, xf, xj, xm, xi, xh, reduceIte, reduceCtorEq, xw, xv, xy, xq, xb, xa, xp]
        have hb : (st ++ (⟨[iA o.k, iA o.d, iA o.a, iA o.b, iA o.c, iA o.n, iA o.g], 0, 0⟩ :: (L1 ++ [⟨[iA rest[i]], 0, 0⟩])))[st.length + (L1.length + 1)]? = some ⟨(rowsI [rest[i]]).flatten, 0, 0⟩ := by
          rw [List.getElem?_append_right (by omega)]; simp
        refine opR_append (vx := w2) (vy := .sl (st.length + (L1.length + 1)) 0 1 1 true) (lo := st.length + 1) (lo' := st.length + (L1.length + 1)) (hi' := st.length + (L1.length + 1) + 1) (rows := rowsI ((if decide (o.g ≠ -1) then [o.g] else []) ++ (rest.take i).filter (keepP o))) (rows2 := rowsI [rest[i]]) (by simp only [k3, kB, kZ, kD, xr, xu, xz, xl, xg, xk, xn, xo, xc, xd, xe, xf, xj, xm, xi, xh, reduceIte, reduceCtorEq, xw, xv, xy, xq, xb, xa, xp]) (by simp only [kB, kZ, kD, xr, xu, xz, xl, xg, xk, xn, xo, xc, xd, xe, xf, xj, xm, xi, xh, reduceIte, reduceCtorEq, xw, xv, xy, xq, xb, xa, xp]) (by simpa using own_frame hown [⟨[iA rest[i]], 0, 0⟩]) (by simp) (ArrAt.ofBox hb (by decide) (by simp) rfl) (by simp only [List.length_map, List.length_append] at hlr hfl ⊢; simp only [List.length_cons, List.length_nil]; omega) (by rfl) ?_
        intro w' s' hag hown' hor
        have hag2 : Agree (fun b => boxOf w2 = some b) (st ++ (⟨[iA o.k, iA o.d, iA o.a, iA o.b, iA o.c, iA o.n, iA o.g], 0, 0⟩ :: L1)) s' := by
          have := (Agree.app (fun _ => False) (st ++ (⟨[iA o.k, iA o.d, iA o.a, iA o.b, iA o.c, iA o.n, iA o.g], 0, 0⟩ :: L1)) [⟨[iA rest[i]], 0, 0⟩]).trans (by simpa using hag : Agree (fun b => boxOf w2 = some b) _ s')
          exact this.mono fun b _ hx => by
            rcases hx with hx | hx
            · exact hx.elim
            · exact hx
        obtain ⟨L', rfl⟩ := Agree.shape (st := st) (M := [⟨[iA o.k, iA o.d, iA o.a, iA o.b, iA o.c, iA o.n, iA o.g], 0, 0⟩]) (N := L1) hag2 (fun b hb => by have := (hown.bnd b hb).1; simpa using this)
        have hv' := hv.agree hag2 (fun b hb => hdis b hb)
        simp only [k1, k3, k6, k8, hwr, kB, kZ, kD, xr, xu, xz, xl, xg, xk, xn, xo, xc, xd, xe, xf, xj, xm, xi, xh, reduceIte, reduceCtorEq, xw, xv, xy, xq, xb, xa, xp]
        refine ⟨n - 1, by omega, i + 1, L', w', by omega, rfl, rfl, rfl, ?_⟩
        refine ⟨by rw [htk, List.filter_append, ← List.append_assoc, hp]; simpa using hown', hv', fun b hb hw => ?_⟩
        rcases hor with hor | hor
        · exact absurd hor.1 (by simp)
        · have h1 := hor.2.1
          rw [h1] at hw
          have h2 := (hv.boxlt hb)
          simp at h2 hw
          omega
    · have hp : [rest[i]].filter (keepP o) = [rest[i]] := by simp only [keepP, List.filter_cons, hq, Bool.true_or, if_true, List.filter_nil]
      simp only [k1, k3, k6, k8, hlv, he1, p1, hwr, List.append_nil, hq, kB, kZ, kD, xr, xu, xz, xl, xg, xk, xn, xo, xc, xd, xe, xf, xj, xm, xi, xh, reduceIte, reduceCtorEq, xw, xv, xy, xq, xb, xa, xp]
      have hb : (st ++ (⟨[iA o.k, iA o.d, iA o.a, iA o.b, iA o.c, iA o.n, iA o.g], 0, 0⟩ :: (L1 ++ [⟨[iA rest[i]], 0, 0⟩])))[st.length + (L1.length + 1)]? = some ⟨(rowsI [rest[i]]).flatten, 0, 0⟩ := by
        rw [List.getElem?_append_right (by omega)]; simp
      refine opR_append (vx := w2) (vy := .sl (st.length + (L1.length + 1)) 0 1 1 true) (lo := st.length + 1) (lo' := st.length + (L1.length + 1)) (hi' := st.length + (L1.length + 1) + 1) (rows := rowsI ((if decide (o.g ≠ -1) then [o.g] else []) ++ (rest.take i).filter (keepP o))) (rows2 := rowsI [rest[i]]) (by simp only [k3, kB, kZ, kD, xr, xu, xz, xl, xg, xk, xn, xo, xc, xd, xe, xf, xj, xm, xi, xh, reduceIte, reduceCtorEq, xw, xv, xy, xq, xb, xa, xp]) (by simp only [kB, kZ, kD, xr, xu, xz, xl, xg, xk, xn, xo, xc, xd, xe, xf, xj, xm, xi, xh, reduceIte, reduceCtorEq, xw, xv, xy, xq, xb, xa, xp]) (by simpa using own_frame hown [⟨[iA rest[i]], 0, 0⟩]) (by simp) (ArrAt.ofBox hb (by decide) (by simp) rfl) (by simp only [List.length_map, List.length_append] at hlr hfl ⊢; simp only [List.length_cons, List.length_nil]; omega) (by rfl) ?_
      intro w' s' hag hown' hor
      have hag2 : Agree (fun b => boxOf w2 = some b) (st ++ (⟨[iA o.k, iA o.d, iA o.a, iA o.b, iA o.c, iA o.n, iA o.g], 0, 0⟩ :: L1)) s' := by
        have := (Agree.app (fun _ => False) (st ++ (⟨[iA o.k, iA o.d, iA o.a, iA o.b, iA o.c, iA o.n, iA o.g], 0, 0⟩ :: L1)) [⟨[iA rest[i]], 0, 0⟩]).trans (by simpa using hag : Agree (fun b => boxOf w2 = some b) _ s')
        exact this.mono fun b _ hx => by
          rcases hx with hx | hx
          · exact hx.elim
          · exact hx
      obtain ⟨L', rfl⟩ := Agree.shape (st := st) (M := [⟨[iA o.k, iA o.d, iA o.a, iA o.b, iA o.c, iA o.n, iA o.g], 0, 0⟩]) (N := L1) hag2 (fun b hb => by have := (hown.bnd b hb).1; simpa using this)
      have hv' := hv.agree hag2 (fun b hb => hdis b hb)
      simp only [k1, k3, k6, k8, hwr, kB, kZ, kD, xr, xu, xz, xl, xg, xk, xn, xo, xc, xd, xe, xf, xj, xm, xi, xh, reduceIte, reduceCtorEq, xw, xv, xy, xq, xb, xa, xp]
      refine ⟨n - 1, by omega, i + 1, L', w', by omega, rfl, rfl, rfl, ?_⟩
      refine ⟨by rw [htk, List.filter_append, ← List.append_assoc, hp]; simpa using hown', hv', fun b hb hw => ?_⟩
      rcases hor with hor | hor
      · exact absurd hor.1 (by simp)
      · have h1 := hor.2.1
        rw [h1] at hw
        have h2 := (hv.boxlt hb)
        simp at h2 hw
        omega
  · have hi : i = rest.length := by have := of_decide_eq_false hc; omega
    subst hi
    rw [List.take_length] at hown
    simp only [k1, k3, k6, k8, hlv, kB, kZ, kD, xr, xu, xz, xl, xg, xk, xn, xo, xc, xd, xe, xf, xj, xm, xi, xh, reduceIte, reduceCtorEq, xw, xv, xy, xq, xb, xa, xp]
    exact ⟨_, _, rfl, rfl, hown.low (by omega)⟩
end
end Go.VX.Seat
end
section
set_option maxRecDepth 4000
namespace Go.VX.Seat
open Go.Proofs
theorem putL_step (g : Int) (B : List Int) (y : Int) : putL (g :: B.filter fun x => decide (x ≠ g)) y = g :: (putL B y).filter fun x => decide (x ≠ g) := by
  by_cases hy : y = g
  · subst hy
    rw [putL_pos (by simp)]
    by_cases hb : y ∈ B
    · rw [putL_pos (decide_eq_true hb)]
    · rw [putL_neg (decide_eq_false hb), List.filter_append]
      simp
  · by_cases hb : y ∈ B
    · rw [putL_pos (decide_eq_true hb), putL_pos (by simp [hb, hy])]
    · rw [putL_neg (decide_eq_false hb), putL_neg (by simp [hb, hy]), List.filter_append]
      simp [hy]
theorem foldl_put (g : Int) : ∀ (ys B : List Int), ys.foldl putL (g :: B.filter fun x => decide (x ≠ g)) = g :: (ys.foldl putL B).filter fun x => decide (x ≠ g)
  | [], B => rfl
  | y :: ys, B => by rw [List.foldl_cons, List.foldl_cons, putL_step, foldl_put g ys]
theorem once_guard (o : OpV) (ys : List Int) : onceL ((if decide (o.g ≠ -1) then [o.g] else []) ++ ys) = (if decide (o.g ≠ -1) then [o.g] else []) ++ (onceL ys).filter (keepP o) := by
  by_cases hg : o.g = -1
  · have h1 : decide (o.g ≠ -1) = false := by simp [hg]
    have h2 : (onceL ys).filter (keepP o) = onceL ys := List.filter_eq_self.2 fun x _ => by unfold keepP; simp [hg]
    rw [h2, h1]
    simp
  · have h1 : decide (o.g ≠ -1) = true := by simp [hg]
    have h2 : keepP o = fun x => decide (x ≠ o.g) := by funext x; unfold keepP; simp [hg]
    rw [h2, h1]
    simp only [if_true, List.cons_append, List.nil_append]
    exact foldl_put o.g ys []
theorem reads_eq (o : OpV) : onceL (rawM o) = rdsR o := by
  unfold rawM rdsR restL hasCls
  cases ho : outK o.k
  · cases h1 : oneK o.k
    · rfl
    · have e26 : decide (o.k = 26) = false ∧ decide (o.k = 27) = false ∧ decide (o.k = 28) = false := by
        unfold outK at ho
        simpa [and_assoc] using ho
      have e3 : decide (o.k ≠ 26) = true := by simpa using e26.1
      simp only [Bool.false_eq_true, if_false, if_true, e26.2.1, e26.2.2, e3, Bool.or_self, Bool.or_true, bareL, h1]
      exact once_guard o (operL o)
  · have hk : o.k = 26 ∨ o.k = 27 ∨ o.k = 28 := by
      unfold outK at ho
      simpa [or_assoc] using ho
    rcases hk with h | h | h
    · have e : decide (o.k ≠ 26) = false ∧ decide (o.k = 27) = false ∧ decide (o.k = 28) = false := by rw [h]; decide
      simp only [e.1, e.2.1, e.2.2, if_true, if_false, Bool.false_eq_true, Bool.or_self, Bool.true_or]
      exact once_guard o []
    · have e : decide (o.k ≠ 26) = true ∧ decide (o.k = 27) = true := by rw [h]; decide
      simp only [e.1, e.2, if_true, Bool.true_or]
      exact once_guard o [o.a]
    · have e : decide (o.k ≠ 26) = true ∧ decide (o.k = 28) = true := by rw [h]; decide
      simp only [e.1, e.2, if_true, Bool.true_or, Bool.or_true]
      exact once_guard o [o.a]
theorem c_rem (P : Program) (t : TypeId) (a b : Int) (hb : b ≠ 0) (ox oy : Operand) : closed P (do eqGuard .rem t ox oy (.int .i64 a) (.int .i64 b); binOp .rem t (.int .i64 a) (.int .i64 b)) = some (.int .i64 (Int.tmod a b)) := by
  have : closed P (do eqGuard .rem t ox oy (.int .i64 a) (.int .i64 b); binOp .rem t (.int .i64 a) (.int .i64 b)) = closed P (Op.intDiv .rem .i64 a b) := rfl
  rw [this]
  unfold Op.intDiv
  rw [if_neg hb]
  rfl
theorem okM_bnd {m : MachV} (h : okM m = true) : (1 ≤ m.u0 ∧ m.u0 ≤ 8) ∧ (1 ≤ m.u1 ∧ m.u1 ≤ 8) ∧ (1 ≤ m.u2 ∧ m.u2 ≤ 8) ∧ (1 ≤ m.u3 ∧ m.u3 ≤ 8) ∧ (1 ≤ m.regs ∧ m.regs ≤ 4096) ∧ (1 ≤ m.banks ∧ m.banks ≤ 8) ∧ (4 ≤ m.ports ∧ m.ports ≤ 32) := by
  unfold okM inB at h
  simp only [Bool.and_eq_true, decide_eq_true_eq] at h
  omega
def regM (m : MachV) (r : Int) : Bool := decide (0 ≤ r) && decide (r < m.regs)
section
variable {X : Cx} {st : St}
end
end Go.VX.Seat
end
section
set_option maxRecDepth 4000
namespace Go.VX.Seat
open Go.Proofs
open Go.VX.AV renaming cell? → xa, toV → xb
open Int renaming reduceAdd → xc, reduceLE → xd, reduceLT → xe, reduceNeg → xf, reduceToNat → xg
open Nat renaming reduceAdd → xh, reduceEqDiff → xi, reduceLeDiff → xj, reduceMul → xk, reduceSub → xl
open Go.VX.VOpd renaming ev → xm
open Go.VX renaming asInt? → xn, asNat? → xo, cellVal → xp, cellsV → xq, fillA → xr, partsEv → xu, resOf → xv, splice → xw, tupOf → xy, zeroes → xz
def upI (a b : Int) : Int := Int.tdiv (a + b - 1) b
def maxL (l : List Int) : Int := (l.drop 1).foldl max (l.headD 0)
structure UseV where
  m : MachV
  A : Nat → Int
  R : Nat → Int
def UseV.row (u : UseV) : List AV := [iA u.m.u0, iA u.m.u1, iA u.m.u2, iA u.m.u3, iA u.m.l0, iA u.m.l1, iA u.m.l2, iA u.m.l3, iA u.m.regs, iA u.m.banks, iA u.m.ports,
  iA (u.A 0), iA (u.A 1), iA (u.A 2), iA (u.A 3), iA (u.R 0), iA (u.R 1), iA (u.R 2), iA (u.R 3), iA (u.R 4), iA (u.R 5), iA (u.R 6), iA (u.R 7)]
def UseV.rs (u : UseV) : List Int := [u.R 0, u.R 1, u.R 2, u.R 3, u.R 4, u.R 5, u.R 6, u.R 7]
def fitsU (u : UseV) : Bool := decide (u.A 0 ≤ u.m.u0) && decide (u.A 1 ≤ u.m.u1) && decide (u.A 2 ≤ u.m.u2) && decide (u.A 3 ≤ u.m.u3) && decide (maxL u.rs ≤ u.m.ports)
def homeU (u : UseV) : Int := max (max (max (max (max 0 (upI (u.A 0) u.m.u0)) (upI (u.A 1) u.m.u1)) (upI (u.A 2) u.m.u2)) (upI (u.A 3) u.m.u3)) (upI (maxL u.rs) u.m.ports)
theorem c_quo (P : Program) (t : TypeId) (a b : Int) (hb : b ≠ 0) (ox oy : Operand) : closed P (do eqGuard .quo t ox oy (.int .i64 a) (.int .i64 b); binOp .quo t (.int .i64 a) (.int .i64 b)) = some (.int .i64 (IntKind.wrap .i64 (Int.tdiv a b))) := by
  have : closed P (do eqGuard .quo t ox oy (.int .i64 a) (.int .i64 b); binOp .quo t (.int .i64 a) (.int .i64 b)) = closed P (Op.intDiv .quo .i64 a b) := rfl
  rw [this]
  unfold Op.intDiv
  rw [if_neg hb]
  rfl
theorem up_bnd {a b : Int} (ha : 0 ≤ a) (hb : 1 ≤ b) : 0 ≤ upI a b ∧ upI a b ≤ a + b - 1 := by
  unfold upI
  rw [Int.tdiv_eq_ediv_of_nonneg (by omega)]
  refine ⟨Int.ediv_nonneg (by omega) (by omega), ?_⟩
  exact Int.ediv_le_self _ (by omega)
theorem v_slice_all {P : Program} {env : Env} {st : St} {n esz b o : Nat} {x : VOpd} (hx : x.ev env = .ptr b o) (h : (st.atN b o (n * esz)).isSome = true) : vop P (.slice (some n) esz x none none none) env st = some (.val (.sl b o n esz true), st) := by
  rw [v_slice, hx]
  simp [bnd, h]
theorem arr_part {s : St} {b o mode ver : Nat} {cs : List AV} {full : Bool} {l : List Int} {n : Nat} (h : s[b]? = some ⟨cs, mode, ver⟩) (hm : mode < 2) (hn : n = l.length) (hl : ∀ i (hi : i < l.length), cs[o + i]? = some (iA l[i])) (hb : o + l.length ≤ cs.length) : IntsAt s b (b + 1) (.sl b o n 1 full) l where
  len := by rw [hn]; simp [lenA]
  size := fun b' o' n' e f hv => by
    cases hv
    refine ⟨rfl, ?_⟩
    rw [atN_box h hm _ _ (by omega)]
    simp
  row := fun i hi => by
    simp only [List.length_map] at hi
    subst hn
    refine ⟨b, o + i * 1, ?_, by omega, by omega, ?_⟩
    · simp only [elemA, Int.toNat_natCast]
      rw [if_pos ⟨by omega, by omega, trivial⟩]
    · rw [atN_box h hm _ _ (by omega)]
      have h1 := hl i hi
      obtain ⟨h2, h3⟩ := List.getElem?_eq_some_iff.1 h1
      rw [Nat.mul_one, List.drop_eq_getElem_cons h2, h3]
      simp
section
variable {X : Cx} {st : St}
theorem j_slices_Max (h : On X) {lo hi : Nat} {v : AV} {l : List Int} (hv : IntsAt st lo hi v l) (hne : 0 < l.length) (hlen : (l.length : Int) < 4611686018427387904) :
    J X.P X.F X.H (.call 114 [v] st (.ret (iA (maxL l))) st) := by
  refine pure_intro (by rw [h.F]; rfl) rfl ?_
  have l1 := hv.len
  simp only [List.length_map] at l1
  have d0 : decide ((l.length : Int) < 1) = false := decide_eq_false (by omega)
  obtain ⟨b0, o0, he0, _, ha0, _⟩ := hv.get 0 (by simpa using hne)
  have p0 := ha0 [] 0 (by omega)
  simp only [List.getElem_map, Nat.add_zero, List.getElem?_cons_zero, Int.natCast_zero] at p0 he0
  simp only [v_slices_Max_int, l1, d0, he0, p0, kB, kZ, kD, xr, xu, xz, xl, xg, xk, xn, xo, xc, xd, xe, xf, xj, xm, xi, xh, reduceIte, reduceCtorEq, xw, xv, xy, xq, xb, xa, xp]
  refine loop_live [0] (fun mm e => ∃ i : Nat, 1 ≤ i ∧ i + mm = l.length ∧ e 4 = iA i ∧ e 3 = iA (((l.take i).drop 1).foldl max (l.headD 0))) (l.length - 1) ?_ ?_
  · refine ⟨1, by omega, by omega, by simp only [kB, kZ, kD, xr, xu, xz, xl, xg, xk, xn, xo, xc, xd, xe, xf, xj, xm, xi, xh, reduceIte, reduceCtorEq, xw, xv, xy, xq, xb, xa, xp], ?_⟩
    simp only [kB, kZ, kD, xr, xu, xz, xl, xg, xk, xn, xo, xc, xd, xe, xf, xj, xm, xi, xh, reduceIte, reduceCtorEq, xw, xv, xy, xq, xb, xa, xp]
    cases l with
    | nil => simp at hne
    | cons x l => rfl
  · intro mm e hL ⟨i, hi1, him, q4, q3⟩
    simp only [kB, kZ, kD, xr, xu, xz, xl, xg, xk, xn, xo, xc, xd, xe, xf, xj, xm, xi, xh, reduceIte, reduceCtorEq, xw, xv, xy, xq, xb, xa, xp] at hL
    simp only [hL, q4, q3, l1, kB, kZ, kD, xr, xu, xz, xl, xg, xk, xn, xo, xc, xd, xe, xf, xj, xm, xi, xh, reduceIte, reduceCtorEq, xw, xv, xy, xq, xb, xa, xp]
    refine condO_intro ?_ ?_ <;> intro hc
    · have hil : i < l.length := by have := of_decide_eq_true hc; omega
      obtain ⟨b1, o1, he1, _, ha1, _⟩ := hv.get i (by simpa using hil)
      have p1 := ha1 [] 0 (by omega)
      simp only [List.getElem_map, Nat.add_zero, List.getElem?_cons_zero] at p1
      have hwr : IntKind.wrap .i64 ((i : Int) + 1) = ((i + 1 : Nat) : Int) := by rw [wrap_small (by omega) (by omega)]; omega
      have hst : ((l.take (i + 1)).drop 1).foldl max (l.headD 0) = max (((l.take i).drop 1).foldl max (l.headD 0)) l[i] := by
        rw [← List.take_append_getElem hil, List.drop_append_of_le_length (by simp; omega), List.foldl_append]
        rfl
      simp only [hL, q4, q3, l1, he1, p1, hwr, kB, kZ, kD, xr, xu, xz, xl, xg, xk, xn, xo, xc, xd, xe, xf, xj, xm, xi, xh, reduceIte, reduceCtorEq, xw, xv, xy, xq, xb, xa, xp]
      exact ⟨mm - 1, by omega, i + 1, by omega, by omega, rfl, by rw [hst]⟩
    · have hi : i = l.length := by have := of_decide_eq_false hc; omega
      subst hi
      rw [List.take_length] at q3
      simp only [hL, q4, q3, l1, kB, kZ, kD, xr, xu, xz, xl, xg, xk, xn, xo, xc, xd, xe, xf, xj, xm, xi, xh, reduceIte, reduceCtorEq, xw, xv, xy, xq, xb, xa, xp]
      first | exact ⟨_, rfl⟩ | exact ⟨rfl, _, rfl⟩ | exact ⟨trivial, _, rfl⟩ | exact ⟨[], (List.append_nil _).symm⟩
theorem rs_cells (u : UseV) : ∀ i (hi : i < u.rs.length), u.row[15 + i]? = some (iA u.rs[i]) := fun i hi => by
  match i, hi with
  | 0, _ => rfl
  | 1, _ => rfl
  | 2, _ => rfl
  | 3, _ => rfl
  | 4, _ => rfl
  | 5, _ => rfl
  | 6, _ => rfl
  | 7, _ => rfl
theorem j_Fits (h : On X) (u : UseV) : J X.P X.F X.H (.call 80 [.agg u.row] st (.ret (bA (fitsU u))) st) := by
  refine pure_intro (by rw [h.F]; rfl) rfl ?_
  have w1 : IntKind.wrap .i64 (0 + 1) = 1 := rfl
  have w2 : IntKind.wrap .i64 (1 + 1) = 2 := rfl
  have w3 : IntKind.wrap .i64 (2 + 1) = 3 := rfl
  have w4 : IntKind.wrap .i64 (3 + 1) = 4 := rfl
  have hrow := rs_cells u
  simp only [v__machine_Use_Fits, UseV.row, kB, kZ, kD, xr, xu, xz, xl, xg, xk, xn, xo, xc, xd, xe, xf, xj, xm, xi, xh, reduceIte, reduceCtorEq, xw, xv, xy, xq, xb, xa, xp]
  refine loop_unroll ?_
  simp only [w1, w2, w3, w4, kB, kZ, kD, xr, xu, xz, xl, xg, xk, xn, xo, xc, xd, xe, xf, xj, xm, xi, xh, reduceIte, reduceCtorEq, xw, xv, xy, xq, xb, xa, xp]
  cases h0 : decide (u.m.u0 < u.A 0)
  case true =>
    have e : fitsU u = false := by
      have : decide (u.A 0 ≤ u.m.u0) = false := decide_eq_false (by have := of_decide_eq_true h0; omega)
      unfold fitsU
      simp only [this, Bool.false_and, Bool.and_false]
    simp only [h0, e, kB, kZ, kD, xr, xu, xz, xl, xg, xk, xn, xo, xc, xd, xe, xf, xj, xm, xi, xh, reduceIte, reduceCtorEq, xw, xv, xy, xq, xb, xa, xp]
    first | exact ⟨_, rfl⟩ | exact ⟨rfl, _, rfl⟩ | exact ⟨trivial, _, rfl⟩ | exact ⟨[], (List.append_nil _).symm⟩
  simp only [h0, w1, w2, w3, w4, kB, kZ, kD, xr, xu, xz, xl, xg, xk, xn, xo, xc, xd, xe, xf, xj, xm, xi, xh, reduceIte, reduceCtorEq, xw, xv, xy, xq, xb, xa, xp]
  refine loop_unroll ?_
  simp only [w1, w2, w3, w4, kB, kZ, kD, xr, xu, xz, xl, xg, xk, xn, xo, xc, xd, xe, xf, xj, xm, xi, xh, reduceIte, reduceCtorEq, xw, xv, xy, xq, xb, xa, xp]
  cases h1 : decide (u.m.u1 < u.A 1)
  case true =>
    have e : fitsU u = false := by
      have : decide (u.A 1 ≤ u.m.u1) = false := decide_eq_false (by have := of_decide_eq_true h1; omega)
      unfold fitsU
      simp only [this, Bool.false_and, Bool.and_false]
    simp only [h1, e, kB, kZ, kD, xr, xu, xz, xl, xg, xk, xn, xo, xc, xd, xe, xf, xj, xm, xi, xh, reduceIte, reduceCtorEq, xw, xv, xy, xq, xb, xa, xp]
    first | exact ⟨_, rfl⟩ | exact ⟨rfl, _, rfl⟩ | exact ⟨trivial, _, rfl⟩ | exact ⟨[], (List.append_nil _).symm⟩
  simp only [h1, w1, w2, w3, w4, kB, kZ, kD, xr, xu, xz, xl, xg, xk, xn, xo, xc, xd, xe, xf, xj, xm, xi, xh, reduceIte, reduceCtorEq, xw, xv, xy, xq, xb, xa, xp]
  refine loop_unroll ?_
  simp only [w1, w2, w3, w4, kB, kZ, kD, xr, xu, xz, xl, xg, xk, xn, xo, xc, xd, xe, xf, xj, xm, xi, xh, reduceIte, reduceCtorEq, xw, xv, xy, xq, xb, xa, xp]
  cases h2 : decide (u.m.u2 < u.A 2)
  case true =>
    have e : fitsU u = false := by
      have : decide (u.A 2 ≤ u.m.u2) = false := decide_eq_false (by have := of_decide_eq_true h2; omega)
      unfold fitsU
      simp only [this, Bool.false_and, Bool.and_false]
    simp only [h2, e, kB, kZ, kD, xr, xu, xz, xl, xg, xk, xn, xo, xc, xd, xe, xf, xj, xm, xi, xh, reduceIte, reduceCtorEq, xw, xv, xy, xq, xb, xa, xp]
    first | exact ⟨_, rfl⟩ | exact ⟨rfl, _, rfl⟩ | exact ⟨trivial, _, rfl⟩ | exact ⟨[], (List.append_nil _).symm⟩
  simp only [h2, w1, w2, w3, w4, kB, kZ, kD, xr, xu, xz, xl, xg, xk, xn, xo, xc, xd, xe, xf, xj, xm, xi, xh, reduceIte, reduceCtorEq, xw, xv, xy, xq, xb, xa, xp]
  refine loop_unroll ?_
  simp only [w1, w2, w3, w4, kB, kZ, kD, xr, xu, xz, xl, xg, xk, xn, xo, xc, xd, xe, xf, xj, xm, xi, xh, reduceIte, reduceCtorEq, xw, xv, xy, xq, xb, xa, xp]
  cases h3 : decide (u.m.u3 < u.A 3)
  case true =>
    have e : fitsU u = false := by
      have : decide (u.A 3 ≤ u.m.u3) = false := decide_eq_false (by have := of_decide_eq_true h3; omega)
      unfold fitsU
      simp only [this, Bool.false_and, Bool.and_false]
    simp only [h3, e, kB, kZ, kD, xr, xu, xz, xl, xg, xk, xn, xo, xc, xd, xe, xf, xj, xm, xi, xh, reduceIte, reduceCtorEq, xw, xv, xy, xq, xb, xa, xp]
    first | exact ⟨_, rfl⟩ | exact ⟨rfl, _, rfl⟩ | exact ⟨trivial, _, rfl⟩ | exact ⟨[], (List.append_nil _).symm⟩
  simp only [h3, w1, w2, w3, w4, kB, kZ, kD, xr, xu, xz, xl, xg, xk, xn, xo, xc, xd, xe, xf, xj, xm, xi, xh, reduceIte, reduceCtorEq, xw, xv, xy, xq, xb, xa, xp]
  refine loop_unroll ?_
  simp only [kB, kZ, kD, xr, xu, xz, xl, xg, xk, xn, xo, xc, xd, xe, xf, xj, xm, xi, xh, reduceIte, reduceCtorEq, xw, xv, xy, xq, xb, xa, xp]
  rw [v_slice_all (b := st.length + 0) (o := 15) (by simp only [kB, kZ, kD, xr, xu, xz, xl, xg, xk, xn, xo, xc, xd, xe, xf, xj, xm, xi, xh, reduceIte, reduceCtorEq, xw, xv, xy, xq, xb, xa, xp]) (by simp only [kB, kZ, kD, xr, xu, xz, xl, xg, xk, xn, xo, xc, xd, xe, xf, xj, xm, xi, xh, reduceIte, reduceCtorEq, xw, xv, xy, xq, xb, xa, xp]; rfl)]
  simp only [kB, kZ, kD, xr, xu, xz, xl, xg, xk, xn, xo, xc, xd, xe, xf, xj, xm, xi, xh, reduceIte, reduceCtorEq, xw, xv, xy, xq, xb, xa, xp]
  refine callO_same (j_slices_Max (l := u.rs) h (arr_part (s := st ++ [⟨u.row, 0, 0⟩]) (b := st.length + 0) (mode := 0) (ver := 0) (by simp) (by decide) rfl hrow (by simp [UseV.rs, UseV.row])) (by simp [UseV.rs]) (by simp [UseV.rs])) ?_
  have e : fitsU u = decide (maxL u.rs ≤ u.m.ports) := by
    have g0 : decide (u.A 0 ≤ u.m.u0) = true := decide_eq_true (by have := of_decide_eq_false h0; omega)
    have g1 : decide (u.A 1 ≤ u.m.u1) = true := decide_eq_true (by have := of_decide_eq_false h1; omega)
    have g2 : decide (u.A 2 ≤ u.m.u2) = true := decide_eq_true (by have := of_decide_eq_false h2; omega)
    have g3 : decide (u.A 3 ≤ u.m.u3) = true := decide_eq_true (by have := of_decide_eq_false h3; omega)
    unfold fitsU
    simp only [g0, g1, g2, g3, Bool.true_and]
  simp only [e, kB, kZ, kD, xr, xu, xz, xl, xg, xk, xn, xo, xc, xd, xe, xf, xj, xm, xi, xh, reduceIte, reduceCtorEq, xw, xv, xy, xq, xb, xa, xp]
  first | exact ⟨_, rfl⟩ | exact ⟨rfl, _, rfl⟩ | exact ⟨trivial, _, rfl⟩ | exact ⟨[], (List.append_nil _).symm⟩
end
end Go.VX.Seat
end
section
set_option maxRecDepth 4000
namespace Go.VX.Seat
open Go.Proofs
open Go.VX.AV renaming cell? → xa, toV → xb
open Int renaming reduceAdd → xc, reduceLE → xd, reduceLT → xe, reduceNeg → xf, reduceToNat → xg
open Nat renaming reduceAdd → xh, reduceEqDiff → xi, reduceLeDiff → xj, reduceMul → xk, reduceSub → xl
open Go.VX.VOpd renaming ev → xm
open Go.VX renaming asInt? → xn, asNat? → xo, cellVal → xp, cellsV → xq, fillA → xr, partsEv → xu, resOf → xv, splice → xw, tupOf → xy, zeroes → xz
def incr (A : Nat → Int) (c : Nat) : Nat → Int := fun j => if j = c then A j + 1 else A j
def bankI (b r : Int) : Nat := (Int.tmod r b).toNat
def withU (u : UseV) (o : OpV) : UseV := ⟨u.m, incr u.A (clsM o.k).toNat, (rdsR o).foldl (fun R r => incr R (bankI u.m.banks r)) u.R⟩
theorem row_len (u : UseV) : u.row.length = 23 := rfl
theorem row_A (u : UseV) : ∀ c : Nat, c < 4 → u.row[11 + c]? = some (iA (u.A c))
  | 0, _ => rfl
  | 1, _ => rfl
  | 2, _ => rfl
  | 3, _ => rfl
theorem row_R (u : UseV) : ∀ c : Nat, c < 8 → u.row[15 + c]? = some (iA (u.R c))
  | 0, _ => rfl
  | 1, _ => rfl
  | 2, _ => rfl
  | 3, _ => rfl
  | 4, _ => rfl
  | 5, _ => rfl
  | 6, _ => rfl
  | 7, _ => rfl
theorem splice_A (u : UseV) : ∀ c : Nat, c < 4 → splice u.row (11 + c) [iA (u.A c + 1)] = (⟨u.m, incr u.A c, u.R⟩ : UseV).row
  | 0, _ => rfl
  | 1, _ => rfl
  | 2, _ => rfl
  | 3, _ => rfl
theorem splice_R (u : UseV) : ∀ c : Nat, c < 8 → splice u.row (15 + c) [iA (u.R c + 1)] = (⟨u.m, u.A, incr u.R c⟩ : UseV).row
  | 0, _ => rfl
  | 1, _ => rfl
  | 2, _ => rfl
  | 3, _ => rfl
  | 4, _ => rfl
  | 5, _ => rfl
  | 6, _ => rfl
  | 7, _ => rfl
theorem incr_bnd {R : Nat → Int} {n : Int} (h : ∀ j, 0 ≤ R j ∧ R j ≤ n) (c : Nat) : ∀ j, 0 ≤ incr R c j ∧ incr R c j ≤ n + 1 := fun j => by
  have := h j
  unfold incr
  split <;> omega
theorem bankI_lt {b r : Int} (hb : 1 ≤ b ∧ b ≤ 8) (hr : 0 ≤ r) : bankI b r < 8 ∧ Int.tmod r b = (bankI b r : Int) := by
  unfold bankI
  rw [Int.tmod_eq_emod_of_nonneg hr]
  have h1 := Int.emod_nonneg r (show b ≠ 0 by omega)
  have h2 := Int.emod_lt_of_pos r (show 0 < b by omega)
  omega
section
variable {X : Cx} {st : St}
theorem j_With (h : On X) (hg : GlobAt st) (u : UseV) (o : OpV) (hc : hasCls o.k = true) (hb : 1 ≤ u.m.banks ∧ u.m.banks ≤ 8) (hr : ∀ r ∈ rdsR o, 0 ≤ r) (hA : ∀ j, 0 ≤ u.A j ∧ u.A j ≤ 1000000) (hR : ∀ j, 0 ≤ u.R j ∧ u.R j ≤ 1000000) :
    J X.P X.F X.H (.call 79 [.agg u.row, .agg o.row] st (.ret (.agg (withU u o).row)) st) := by
  refine pure_intro (by rw [h.F]; rfl) rfl ?_
  obtain ⟨c, hc4, hcl, _⟩ := lsAt u.m o.k hc
  have hct : (clsM o.k).toNat = c := by rw [hcl]; simp
  have hrow0 : u.row[0]? = some (iA u.m.u0) := rfl
  simp only [v__machine_Use_With, OpV.row, kB, kZ, kD, xr, xu, xz, xl, xg, xk, xn, xo, xc, xd, xe, xf, xj, xm, xi, xh, reduceIte, reduceCtorEq, xw, xv, xy, xq, xb, xa, xp]
  refine callO_same (j_machine_Class h (hg.ext (Ext.of _ _)) o.k) ?_
  rw [hcl]
  have hc5 : (0 : Int) ≤ (c : Int) ∧ (c : Int) < 4 := by omega
  have hle : 11 + c + 1 ≤ u.row.length := by rw [row_len]; omega
  have hwA : IntKind.wrap .i64 (u.A c + 1) = u.A c + 1 := by have := hA c; exact wrap_small (by omega) (by omega)
  simp only [if_pos hc5, row_A u c hc4, hle, hwA, splice_A u c hc4, kB, kZ, kD, xr, xu, xz, xl, xg, xk, xn, xo, xc, xd, xe, xf, xj, xm, xi, xh, reduceIte, reduceCtorEq, xv, xy, xq, xb, xa, xp]
  have hwu : withU u o = ⟨u.m, incr u.A c, (rdsR o).foldl (fun R r => incr R (bankI u.m.banks r)) u.R⟩ := by unfold withU; rw [hct]
  rw [hwu]
  refine callO_own (w_machine_Reads h (hg.ext (Ext.of _ _)) o) ?_
  intro w m1 hw
  rw [reads_eq] at hw
  simp only [List.append_assoc, List.cons_append, List.nil_append, kB, kZ, kD, xr, xu, xz, xl, xg, xk, xn, xo, xc, xd, xe, xf, xj, xm, xi, xh, reduceIte, reduceCtorEq, xv, xy, xq, xb, xa, xp]
  have hw2 : IntsAt (st ++ (⟨(⟨u.m, incr u.A c, u.R⟩ : UseV).row, 0, 1⟩ :: ⟨[iA o.k, iA o.d, iA o.a, iA o.b, iA o.c, iA o.n, iA o.g], 0, 0⟩ :: ⟨[iA 0, iA 0, iA 0, iA 0, iA 0, iA 0, iA 0, iA 0, iA 0, iA 0, iA 0, iA 0, iA 0, iA 0, iA 0, iA 0, iA 0, iA 0, iA 0, iA 0, iA 0, iA 0, iA 0], 0, 0⟩ :: m1)) (st.length + 3) (st.length + 3 + m1.length) w (rdsR o) ∧ ∀ b, boxOf w = some b → st.length + 3 ≤ b := by
    have h1 := hw.arr.wide' (lo' := st.length + 3) (hi' := st.length + 3 + m1.length) (by simp) (by simp; omega)
    exact ⟨by simpa using h1, fun b hb => by have := (hw.bnd b hb).1; simpa using this⟩
  clear hw
  obtain ⟨hw2, hwb⟩ := hw2
  have lw := hw2.len
  simp only [List.length_map] at lw
  have hll : (rdsR o).length ≤ 4 := by
    rw [← reads_eq]
    have h1 := foldl_putL_len (rawM o) []
    have h2 := rawM_len o
    unfold onceL
    simp at h1
    omega
  simp only [lw, kB, kZ, kD, xr, xu, xz, xl, xg, xk, xn, xo, xc, xd, xe, xf, xj, xm, xi, xh, reduceIte, reduceCtorEq, xv, xy, xq, xb, xa, xp]
  generalize rdsR o = rl at *
  generalize incr u.A c = A1 at *
  refine loop_inv (fun n e s' => ∃ (i ver : Nat) (R' : Nat → Int), i + n = rl.length ∧ s' = st ++ (⟨(⟨u.m, A1, R'⟩ : UseV).row, 0, ver⟩ :: ⟨[iA o.k, iA o.d, iA o.a, iA o.b, iA o.c, iA o.n, iA o.g], 0, 0⟩ :: ⟨[iA 0, iA 0, iA 0, iA 0, iA 0, iA 0, iA 0, iA 0, iA 0, iA 0, iA 0, iA 0, iA 0, iA 0, iA 0, iA 0, iA 0, iA 0, iA 0, iA 0, iA 0, iA 0, iA 0], 0, 0⟩ :: m1) ∧ e 2 = .ptr (st.length + 0) 0 ∧ e 4 = .ptr (st.length + 2) 0 ∧ e 23 = w ∧ e 24 = iA rl.length ∧ e 25 = iA i ∧ R' = (rl.take i).foldl (fun R r => incr R (bankI u.m.banks r)) u.R ∧ ∀ j, 0 ≤ R' j ∧ R' j ≤ 1000000 + i) ?_ rl.length ?_
  case refine_2 =>
    exact ⟨0, 1, u.R, by omega, by simp, rfl, rfl, rfl, rfl, rfl, rfl, fun j => by have := hR j; omega⟩
  intro n e s' ⟨i, ver, R', him, hs', k2, k4, k23, k24, k25, hR', hRb⟩
  subst hs'
  simp only [k2, k4, k23, k24, k25, kB, kZ, kD, xr, xu, xz, xl, xg, xk, xn, xo, xc, xd, xe, xf, xj, xm, xi, xh, reduceIte, reduceCtorEq, xv, xy, xq, xb, xa, xp]
  refine condO_intro ?_ ?_ <;> intro hcc
  · have hil : i < rl.length := by have := of_decide_eq_true hcc; omega
    have hw3 := hw2.agree (Agree.swap st [] ⟨(⟨u.m, A1, u.R⟩ : UseV).row, 0, 1⟩ ⟨(⟨u.m, A1, R'⟩ : UseV).row, 0, ver⟩ (⟨[iA o.k, iA o.d, iA o.a, iA o.b, iA o.c, iA o.n, iA o.g], 0, 0⟩ :: ⟨[iA 0, iA 0, iA 0, iA 0, iA 0, iA 0, iA 0, iA 0, iA 0, iA 0, iA 0, iA 0, iA 0, iA 0, iA 0, iA 0, iA 0, iA 0, iA 0, iA 0, iA 0, iA 0, iA 0], 0, 0⟩ :: m1)) (fun b hb h1 => by have := hwb b hb; simp at h1; omega)
    obtain ⟨b1, o1, he1, _, ha1, _⟩ := hw3.get i (by simpa using hil)
    have p1 := ha1 [] 0 (by omega)
    simp only [List.append_nil, List.getElem_map, Nat.add_zero, List.getElem?_cons_zero, List.nil_append] at p1
    have hwr : IntKind.wrap .i64 ((i : Int) + 1) = ((i + 1 : Nat) : Int) := by rw [wrap_small (by omega) (by omega)]; omega
    obtain ⟨hj8, hjm⟩ := bankI_lt hb (hr rl[i] (List.getElem_mem hil))
    obtain ⟨j, hj⟩ : ∃ j, bankI u.m.banks rl[i] = j := ⟨_, rfl⟩
    rw [hj] at hj8 hjm
    have hj5 : (0 : Int) ≤ (j : Int) ∧ (j : Int) < 8 := by omega
    have hle2 : 15 + j + 1 ≤ (⟨u.m, A1, R'⟩ : UseV).row.length := by rw [row_len]; omega
    have hwR : IntKind.wrap .i64 (R' j + 1) = R' j + 1 := by have := hRb j; exact wrap_small (by omega) (by omega)
    have hrow9 : (⟨u.m, A1, R'⟩ : UseV).row[9]? = some (iA u.m.banks) := rfl
    simp only [k2, k4, k23, k24, k25, he1, p1, hrow9, c_rem _ _ _ u.m.banks (show u.m.banks ≠ 0 by omega), hjm, if_pos hj5, row_R ⟨u.m, A1, R'⟩ j hj8, hle2, hwR, splice_R ⟨u.m, A1, R'⟩ j hj8, hwr, kB, kZ, kD, xr, xu, xz, xl, xg, xk, xn, xo, xc, xd, xe, xf, xj, xm, xi, xh, reduceIte, reduceCtorEq, xv, xy, xq, xb, xa, xp]
    refine ⟨n - 1, by omega, i + 1, ver + 1, incr R' j, by omega, rfl, rfl, ?_, fun j2 => by have := incr_bnd hRb j j2; omega⟩
    rw [hR', ← List.take_append_getElem hil, List.foldl_append]
    simp only [List.foldl_cons, List.foldl_nil, hj]
  · have hi : i = rl.length := by have := of_decide_eq_false hcc; omega
    subst hi
    rw [List.take_length] at hR'
    rw [← hR']
    simp only [k2, k4, k23, k24, k25, UseV.row, kB, kZ, kD, xr, xu, xz, xl, xg, xk, xn, xo, xc, xd, xe, xf, xj, xm, xi, xh, reduceIte, reduceCtorEq, xw, xv, xy, xq, xb, xa, xp]
    exact ⟨_, rfl⟩
end
end Go.VX.Seat
end
section
set_option maxRecDepth 4000
namespace Go.VX.Seat
open Go.Proofs
theorem foldl_max_bnd {n : Int} : ∀ (l : List Int) (a : Int), 0 ≤ a ∧ a ≤ n → (∀ x ∈ l, 0 ≤ x ∧ x ≤ n) → 0 ≤ l.foldl max a ∧ l.foldl max a ≤ n
  | [], a, h, _ => h
  | x :: l, a, h, hl => by
    rw [List.foldl_cons]
    refine foldl_max_bnd l _ ?_ fun y hy => hl y (List.mem_cons_of_mem _ hy)
    have := hl x List.mem_cons_self
    omega
theorem maxL_rs {u : UseV} {n : Int} (h : ∀ j, 0 ≤ u.R j ∧ u.R j ≤ n) : 0 ≤ maxL u.rs ∧ maxL u.rs ≤ n := by
  unfold maxL UseV.rs
  refine foldl_max_bnd _ _ (h 0) fun x hx => ?_
  simp at hx
  rcases hx with rfl | rfl | rfl | rfl | rfl | rfl | rfl <;> exact h _
section
variable {X : Cx} {st : St}
theorem j_NewUse (h : On X) (m : MachV) : J X.P X.F X.H (.call 78 [.agg m.row] st (.ret (.agg (⟨m, fun _ => 0, fun _ => 0⟩ : UseV).row)) st) := by
  refine pure_intro (by rw [h.F]; rfl) rfl ?_
  simp only [v_machine_NewUse, MachV.row, UseV.row, kB, kZ, kD, fillA, partsEv, zeroes, Nat.reduceSub, Int.reduceToNat, Nat.reduceMul, asInt?, asNat?, Int.reduceAdd, Int.reduceLE, Int.reduceLT, Int.reduceNeg, Nat.reduceLeDiff, VOpd.ev, Nat.reduceEqDiff, Nat.reduceAdd, reduceIte, reduceCtorEq, splice, resOf, tupOf, cellsV, AV.toV, AV.cell?, cellVal]
  first | exact ⟨_, rfl⟩ | exact ⟨rfl, _, rfl⟩ | exact ⟨trivial, _, rfl⟩ | exact ⟨[], (List.append_nil _).symm⟩
end
def okOp (m : MachV) (o : OpV) : Bool := hasCls o.k && (rdsR o).all (regM m)
def wrongM (m : MachV) (l : List OpV) : Int := if decide (400 < (l.length : Int)) then 3 else if l.all (okOp m) then 0 else 2
def useErr (m : MachV) (l : List OpV) : Int := if okM m then wrongM m l else 2
def zeroUse (m : MachV) : UseV := ⟨m, fun _ => 0, fun _ => 0⟩
def useU (m : MachV) (l : List OpV) : UseV := l.foldl withU (zeroUse m)
theorem useU_m (m : MachV) : ∀ (l : List OpV) (u : UseV), u.m = m → (l.foldl withU u).m = m
  | [], u, h => h
  | o :: l, u, h => useU_m m l _ h
end Go.VX.Seat
end
section
set_option maxRecDepth 4000
namespace Go.VX.Seat
open Go.Proofs
theorem rdsR_len (o : OpV) : (rdsR o).length ≤ 4 := by
  rw [← reads_eq]
  have h1 := foldl_putL_len (rawM o) []
  have h2 := rawM_len o
  unfold onceL
  simp at h1
  omega
theorem foldl_incr_bnd (b : Int) : ∀ (rl : List Int) (R : Nat → Int) (n : Int), (∀ j, 0 ≤ R j ∧ R j ≤ n) → ∀ j, 0 ≤ (rl.foldl (fun R r => incr R (bankI b r)) R) j ∧ (rl.foldl (fun R r => incr R (bankI b r)) R) j ≤ n + rl.length
  | [], R, n, h, j => by have := h j; simpa using this
  | r :: rl, R, n, h, j => by
    have := foldl_incr_bnd b rl _ (n + 1) (incr_bnd h (bankI b r)) j
    simp only [List.foldl_cons, List.length_cons]
    omega
theorem useU_bnd (m : MachV) : ∀ (l : List OpV) (u : UseV) (a r : Int), (∀ j, 0 ≤ u.A j ∧ u.A j ≤ a) → (∀ j, 0 ≤ u.R j ∧ u.R j ≤ r) → (∀ j, 0 ≤ (l.foldl withU u).A j ∧ (l.foldl withU u).A j ≤ a + l.length) ∧ (∀ j, 0 ≤ (l.foldl withU u).R j ∧ (l.foldl withU u).R j ≤ r + 4 * l.length)
  | [], u, a, r, h1, h2 => ⟨fun j => by have := h1 j; simpa using this, fun j => by have := h2 j; simpa using this⟩
  | o :: l, u, a, r, h1, h2 => by
    have hl := rdsR_len o
    have := useU_bnd m l (withU u o) (a + 1) (r + 4) (incr_bnd h1 _) (fun j => by have := foldl_incr_bnd u.m.banks (rdsR o) u.R r h2 j; show _ ∧ _; unfold withU; simp only; omega)
    simp only [List.foldl_cons, List.length_cons]
    exact ⟨fun j => by have := this.1 j; omega, fun j => by have := this.2 j; omega⟩
theorem row_take (u : UseV) : u.row.take 23 = u.row := rfl
theorem row_all (u : UseV) : u.row.all AV.isCell = true := rfl
theorem splice_row (u : UseV) {cs : List AV} (h : cs.length = 23) : splice cs 0 u.row = u.row := by
  unfold splice
  rw [row_len, List.drop_eq_nil_of_le (by omega)]
  simp
section
variable {X : Cx} {st : St}
end
end Go.VX.Seat
end
section
set_option maxRecDepth 4000
namespace Go.VX.Seat
open Go.Proofs
theorem useErr_ok {m : MachV} {l : List OpV} (h : useErr m l = 0) : okM m = true ∧ l.length ≤ 400 ∧ l.all (okOp m) = true := by
  unfold useErr wrongM at h
  cases ho : okM m
  · rw [ho] at h; simp at h
  · rw [ho] at h
    cases h4 : decide (400 < (l.length : Int))
    · rw [h4] at h
      have := of_decide_eq_false h4
      cases ha : l.all (okOp m)
      · rw [ha] at h; simp at h
      · exact ⟨rfl, by omega, rfl⟩
    · rw [h4] at h; simp at h
theorem useU_bnds {m : MachV} {l : List OpV} (hl : l.length ≤ 400) : (∀ j, 0 ≤ (useU m l).A j ∧ (useU m l).A j ≤ 1000000) ∧ (∀ j, 0 ≤ (useU m l).R j ∧ (useU m l).R j ≤ 1000000) := by
  have := useU_bnd m l (zeroUse m) 0 0 (fun _ => ⟨Int.le_refl _, Int.le_refl _⟩) (fun _ => ⟨Int.le_refl _, Int.le_refl _⟩)
  exact ⟨fun j => by have := this.1 j; unfold useU; omega, fun j => by have := this.2 j; unfold useU; omega⟩
section
variable {X : Cx} {st : St}
end
end Go.VX.Seat
end
section
set_option maxRecDepth 4000
namespace Go.VX.Seat
open Go.Proofs
section
variable {X : Cx} {st : St}
end
end Go.VX.Seat
end
section
set_option maxRecDepth 4000
namespace Go.VX.Seat
open Go.Proofs
theorem up_zero {b : Int} (hb : 1 ≤ b) : upI 0 b = 0 := by
  unfold upI
  rw [Int.tdiv_eq_ediv_of_nonneg (by omega)]
  exact Int.ediv_eq_zero_of_lt (by omega) (by omega)
section
variable {X : Cx} {st : St}
end
end Go.VX.Seat
end
section
set_option maxRecDepth 4000
namespace Go.VX.Seat
open Go.Proofs
theorem up_le {a b k : Int} (ha : 0 ≤ a) (hb : 1 ≤ b) (h : a ≤ k * b) : upI a b ≤ k := by
  unfold upI
  rw [Int.tdiv_eq_ediv_of_nonneg (by omega)]
  have : (a + b - 1) / b < k + 1 := Int.ediv_lt_of_lt_mul (by omega) (by rw [Int.add_mul]; omega)
  omega
theorem le_up {a b : Int} (ha : 0 ≤ a) (hb : 1 ≤ b) : a ≤ upI a b * b := by
  unfold upI
  rw [Int.tdiv_eq_ediv_of_nonneg (by omega)]
  have h1 := Int.mul_ediv_add_emod (a + b - 1) b
  have h2 := Int.emod_lt_of_pos (a + b - 1) (show 0 < b by omega)
  have h3 : b * ((a + b - 1) / b) = (a + b - 1) / b * b := Int.mul_comm _ _
  omega
end Go.VX.Seat
end
section
set_option maxRecDepth 4000
namespace Go.VX.Seat
open Go.Proofs
open Go.VX.AV renaming cell? → xa, toV → xb
open Int renaming reduceAdd → xc, reduceLE → xd, reduceLT → xe, reduceNeg → xf, reduceToNat → xg
open Nat renaming reduceAdd → xh, reduceEqDiff → xi, reduceLeDiff → xj, reduceMul → xk, reduceSub → xl
open Go.VX.VOpd renaming ev → xm
open Go.VX renaming asInt? → xn, asNat? → xo, cellVal → xp, cellsV → xq, fillA → xr, partsEv → xu, resOf → xv, splice → xw, tupOf → xy, zeroes → xz
def rcells (n : Nat) (R : Nat → Int) : List AV := (List.range n).map fun j => iA (R j)
def acells (A : Nat → Int) : List AV := [iA (A 0), iA (A 1), iA (A 2), iA (A 3)]
theorem rcells_len (n : Nat) (R : Nat → Int) : (rcells n R).length = n := by simp [rcells]
theorem rcells_get {n : Nat} {R : Nat → Int} {j : Nat} (h : j < n) : (rcells n R)[j]? = some (iA (R j)) := by
  unfold rcells
  rw [List.getElem?_map, List.getElem?_range h]
  rfl
theorem rcells_splice {n : Nat} {R : Nat → Int} {j : Nat} (h : j < n) : splice (rcells n R) j [iA (R j + 1)] = rcells n (incr R j) := by
  refine List.ext_getElem? fun i => ?_
  unfold splice
  have hl := rcells_len n R
  by_cases hi : i < n
  · rw [rcells_get hi]
    rcases Nat.lt_trichotomy i j with h1 | h1 | h1
    · rw [List.getElem?_append_left (by simp only [List.length_append, List.length_take, hl]; omega), List.getElem?_append_left (by simp only [List.length_take, hl]; omega), List.getElem?_take_of_lt h1, rcells_get hi]
      unfold incr; rw [if_neg (by omega)]
    · subst h1
      rw [List.getElem?_append_left (by simp only [List.length_append, List.length_take, hl, List.length_cons]; omega), List.getElem?_append_right (by simp only [List.length_take, hl]; omega)]
      simp only [List.length_take, hl, Nat.min_eq_left (Nat.le_of_lt h), Nat.sub_self, List.getElem?_cons_zero]
      unfold incr; rw [if_pos rfl]
    · rw [List.getElem?_append_right (by simp only [List.length_append, List.length_take, hl, List.length_cons, List.length_nil]; omega)]
      simp only [List.length_append, List.length_take, hl, Nat.min_eq_left (Nat.le_of_lt h), List.length_cons, List.length_nil, List.getElem?_drop]
      rw [show j + (0 + 1) + (i - (j + (0 + 1))) = i by omega, rcells_get hi]
      unfold incr; rw [if_neg (by omega)]
  · rw [List.getElem?_eq_none (by simp [hl]; omega), List.getElem?_eq_none (by rw [rcells_len]; omega)]
theorem rcells_zero (n : Nat) : (List.replicate n [iA 0]).flatten = rcells n (fun _ => 0) := by
  unfold rcells
  induction n with
  | zero => rfl
  | succ n ih => rw [List.replicate_succ', List.range_succ, List.map_append, List.flatten_append, ih]; rfl
theorem acells_get (A : Nat → Int) : ∀ c : Nat, c < 4 → (acells A)[c]? = some (iA (A c))
  | 0, _ => rfl
  | 1, _ => rfl
  | 2, _ => rfl
  | 3, _ => rfl
theorem acells_splice (A : Nat → Int) : ∀ c : Nat, c < 4 → splice (acells A) c [iA (A c + 1)] = acells (incr A c)
  | 0, _ => rfl
  | 1, _ => rfl
  | 2, _ => rfl
  | 3, _ => rfl
theorem acells_len (A : Nat → Int) : (acells A).length = 4 := rfl
theorem useU_take {m : MachV} {l : List OpV} {i : Nat} (h : i < l.length) : useU m (l.take (i + 1)) = withU (useU m (l.take i)) l[i] := by
  unfold useU
  rw [← List.take_append_getElem h, List.foldl_append]
  rfl
section
variable {X : Cx} {st : St}
set_option maxHeartbeats 1000000 in
theorem w_r19_counts (h : On X) (m : MachV) {lo hi : Nat} {v : AV} {l : List OpV} (hok : okM m = true) (hw0 : wrongM m l = 0) (hv : OpsAt st lo hi v l) :
    wpF X 140 [.agg m.row, v] st fun r s => ∃ L, r = .ret (.tup [.agg (acells (useU m l).A), .sl (st.length + 3) 0 m.banks.toNat 1 true]) ∧ s = st ++ L ∧ ∃ v, L[3]? = some ⟨rcells m.banks.toNat (useU m l).R, 0, v⟩ := by
  refine wpF_go (fn := v_r19_counts) (by rw [h.F]; rfl) ?_
  have l1 := hv.len
  simp only [List.length_map] at l1
  have hb := okM_bnd hok
  obtain ⟨_, hl400, hall⟩ := useErr_ok (m := m) (l := l) (by unfold useErr; rw [hok, hw0]; rfl)
  obtain ⟨k, hk⟩ : ∃ k : Nat, m.banks = (k : Int) := ⟨m.banks.toNat, by omega⟩
  have hk0 : (0 : Int) ≤ (k : Int) := by omega
  have hkn : m.banks.toNat = k := by omega
  have hk8 : k ≤ 8 := by omega
  have hk1 : 1 ≤ k := by omega
  have hk9 : k * 8 ≤ 1000000000 ∧ k ≤ 1000000000 := by omega
  have hrow9 : m.row[9]? = some (iA m.banks) := rfl
  rw [hkn]
  simp only [v_r19_counts, l1, hrow9, hk, hk0, hk9, Nat.le_refl, and_self, if_true, beq_self_eq_true, rcells_zero, kB, kZ, kD, xr, xu, xz, xl, xg, xk, xn, xo, xc, xd, xe, xf, xj, xm, xi, xh, reduceIte, reduceCtorEq, xv, xy, xq, xb, xa, xp]
  refine loop_inv (fun n e s' => ∃ (i v1 v2 : Nat) (L : St), i + n = l.length ∧ s' = st ++ (⟨m.row, 0, 0⟩ :: ⟨acells fun _ => 0, 0, 0⟩ :: ⟨acells (useU m (l.take i)).A, 0, v1⟩ :: ⟨rcells k (useU m (l.take i)).R, 0, v2⟩ :: L) ∧ e 1 = v ∧ e 2 = .ptr (st.length + 0) 0 ∧ e 4 = .ptr (st.length + 1) 0 ∧ e 6 = .ptr (st.length + 2) 0 ∧ e 7 = .sl (st.length + 3) 0 k 1 true ∧ e 8 = iA i) ?_ l.length ?_
  case refine_2 =>
    exact ⟨0, 0, 0, [], by omega, rfl, rfl, rfl, rfl, rfl, rfl, rfl⟩
  intro n e s' ⟨i, v1, v2, L, him, hs', k1, k2, k4, k6, k7, k8⟩
  subst hs'
  simp only [k1, k2, k4, k6, k7, k8, l1, kB, kZ, kD, xr, xu, xz, xl, xg, xk, xn, xo, xc, xd, xe, xf, xj, xm, xi, xh, reduceIte, reduceCtorEq, xv, xy, xq, xb, xa, xp]
  refine condO_intro ?_ ?_ <;> intro hcc
  · have hil : i < l.length := by have := of_decide_eq_true hcc; omega
    have hopi : okOp m l[i] = true := List.all_eq_true.1 hall _ (List.getElem_mem hil)
    have hkc : hasCls l[i].k = true := by unfold okOp at hopi; simp only [Bool.and_eq_true] at hopi; exact hopi.1
    have hregs : ∀ r ∈ rdsR l[i], 0 ≤ r := fun r hr => by
      unfold okOp at hopi; simp only [Bool.and_eq_true] at hopi
      have := List.all_eq_true.1 hopi.2 r hr
      unfold regM at this; simp at this; omega
    obtain ⟨c, hc4, hcl, _⟩ := lsAt m l[i].k hkc
    have hct : (clsM l[i].k).toNat = c := by rw [hcl]; simp
    have hc5 : (0 : Int) ≤ (c : Int) ∧ (c : Int) < 4 := by omega
    have hub := useU_bnds (m := m) (l := l.take i) (by simp; omega)
    obtain ⟨b1, o1, he1, hn1, ha1, _⟩ := hv.get i (by simpa using hil)
    have ha0 := fun L => ha1 L 0 (by omega)
    simp only [List.getElem_map, OpV.row, List.getElem?_cons_zero] at hn1 ha0
    obtain ⟨U, hU⟩ : ∃ U, useU m (l.take i) = U := ⟨_, rfl⟩
    have hnext : useU m (l.take (i + 1)) = withU U l[i] := by rw [useU_take hil, hU]
    have hUm : U.m = m := by rw [← hU]; exact useU_m m _ _ rfl
    rw [hU] at hub ⊢
    have hwA : IntKind.wrap .i64 (U.A c + 1) = U.A c + 1 := by have := hub.1 c; exact wrap_small (by omega) (by omega)
    have hle : c + 1 ≤ (acells U.A).length := by rw [acells_len]; omega
    simp only [k1, k2, k4, k6, k7, k8, he1, hn1, ha0, kB, kZ, kD, xr, xu, xz, xl, xg, xk, xn, xo, xc, xd, xe, xf, xj, xm, xi, xh, reduceIte, reduceCtorEq, xv, xy, xq, xb, xa, xp]
    refine callO_same (j_r19_Class h l[i].k) ?_
    rw [hcl]
    simp only [k1, k2, k4, k6, k7, k8, he1, hn1, ha0, if_pos hc5, acells_get U.A c hc4, hle, hwA, acells_splice U.A c hc4, kB, kZ, kD, xr, xu, xz, xl, xg, xk, xn, xo, xc, xd, xe, xf, xj, xm, xi, xh, reduceIte, reduceCtorEq, xv, xy, xq, xb, xa, xp]
    refine callO_own (w_r19_Reads h l[i]) ?_
    intro w m1 hw
    have lw := hw.arr.len
    simp only [List.length_map] at lw
    have hll := rdsR_len l[i]
    have hwb : ∀ b, boxOf w = some b → st.length + 4 ≤ b := fun b hb => by have := (hw.bnd b hb).1; simp at this; omega
    obtain ⟨A1, hA1⟩ : ∃ A1, incr U.A c = A1 := ⟨_, rfl⟩
    have hw2 : ∀ (R : Nat → Int) (v : Nat), ArrAt (st ++ (⟨m.row, 0, 0⟩ :: ⟨acells fun _ => 0, 0, 0⟩ :: ⟨acells A1, 0, v1 + 1⟩ :: ⟨rcells k R, 0, v⟩ :: (L ++ m1))) _ _ w 1 (rowsI (rdsR l[i])) := fun R v => by
      have h0 := hw.arr
      rw [hA1] at h0
      simp only [List.append_assoc, List.cons_append] at h0
      exact h0.agree (Agree.swap st [⟨m.row, 0, 0⟩, ⟨acells fun _ => 0, 0, 0⟩, ⟨acells A1, 0, v1 + 1⟩] ⟨rcells k U.R, 0, v2⟩ ⟨rcells k R, 0, v⟩ (L ++ m1)) (fun b hb h1 => by have := hwb b hb; simp at h1; omega)
    rw [hA1]
    have hbk : 1 ≤ m.banks ∧ m.banks ≤ 8 := by omega
    simp only [k1, k2, k4, k6, k7, k8, List.append_assoc, List.cons_append, List.nil_append, kB, kZ, kD, xr, xu, xz, xl, xg, xk, xn, xo, xc, xd, xe, xf, xj, xm, xi, xh, reduceIte, reduceCtorEq, xv, xy, xq, xb, xa, xp]
    have hnA : (withU U l[i]).A = A1 := by unfold withU; rw [hct]; exact hA1
    have hnR : (withU U l[i]).R = (rdsR l[i]).foldl (fun R r => incr R (bankI m.banks r)) U.R := by unfold withU; rw [hUm]
    generalize rdsR l[i] = rl at *
    refine anyLoop (mB (mB m0)) (fun e s' => ∃ v3, s' = st ++ (⟨m.row, 0, 0⟩ :: ⟨acells fun _ => 0, 0, 0⟩ :: ⟨acells A1, 0, v1 + 1⟩ :: ⟨rcells k (rl.foldl (fun R r => incr R (bankI m.banks r)) U.R), 0, v3⟩ :: (L ++ m1)) ∧ e 1 = v ∧ e 2 = .ptr (st.length + 0) 0 ∧ e 4 = .ptr (st.length + 1) 0 ∧ e 6 = .ptr (st.length + 2) 0 ∧ e 7 = .sl (st.length + 3) 0 k 1 true ∧ e 8 = iA i) ?_ ?_
    · refine loop_inv (fun n e s' => ∃ (q v3 : Nat) (R : Nat → Int), q + n = rl.length ∧ s' = st ++ (⟨m.row, 0, 0⟩ :: ⟨acells fun _ => 0, 0, 0⟩ :: ⟨acells A1, 0, v1 + 1⟩ :: ⟨rcells k R, 0, v3⟩ :: (L ++ m1)) ∧ e 1 = v ∧ e 2 = .ptr (st.length + 0) 0 ∧ e 4 = .ptr (st.length + 1) 0 ∧ e 6 = .ptr (st.length + 2) 0 ∧ e 7 = .sl (st.length + 3) 0 k 1 true ∧ e 8 = iA i ∧ e 11 = w ∧ e 12 = iA q ∧
        R = (rl.take q).foldl (fun R r => incr R (bankI m.banks r)) U.R ∧ ∀ j, 0 ≤ R j ∧ R j ≤ 1000000 + q) ?_ rl.length ?_
      case refine_2 =>
        refine ⟨0, v2, U.R, by omega, by simp, ?_, ?_, ?_, ?_, ?_, ?_, ?_, ?_, rfl, fun j => by have := hub.2 j; omega⟩
        all_goals simp only [k1, k2, k4, k6, k7, k8, kB, kZ, kD, xr, xu, xz, xl, xg, xk, xn, xo, xc, xd, xe, xf, xj, xm, xi, xh, reduceIte, reduceCtorEq, xv, xy, xq, xb, xa, xp]
        all_goals rfl
      intro n2 e2 s2 ⟨q, v3, R, hqn, hs2, q1, q2, q4, q6, q7, q8, q11, q12, hR, hRb⟩
      subst hs2
      simp only [q1, q2, q4, q6, q7, q8, q11, q12, lw, kB, kZ, kD, xr, xu, xz, xl, xg, xk, xn, xo, xc, xd, xe, xf, xj, xm, xi, xh, reduceIte, reduceCtorEq, xv, xy, xq, xb, xa, xp]
      refine condO_intro ?_ ?_ <;> intro hc2
      · have hql : q < rl.length := by have := of_decide_eq_true hc2; omega
        obtain ⟨b2, o2, he2, _, ha2, _⟩ := (hw2 R v3).get q (by simpa using hql)
        have p2 := ha2 [] 0 (by omega)
        simp only [List.append_nil, List.getElem_map, Nat.add_zero, List.getElem?_cons_zero] at p2
        have hwr : IntKind.wrap .i64 ((q : Int) + 1) = ((q + 1 : Nat) : Int) := by rw [wrap_small (by omega) (by omega)]; omega
        obtain ⟨hj8, hjm⟩ := bankI_lt hbk (hregs rl[q] (List.getElem_mem hql))
        obtain ⟨j, hj⟩ : ∃ j, bankI m.banks rl[q] = j := ⟨_, rfl⟩
        rw [hj] at hj8 hjm
        have hjk : j < k := by
          rw [Int.tmod_eq_emod_of_nonneg (hregs rl[q] (List.getElem_mem hql))] at hjm
          have := Int.emod_lt_of_pos rl[q] (show 0 < m.banks by omega)
          omega
        have hj5 : (0 : Int) ≤ (j : Int) ∧ (j : Int) < (k : Int) := by omega
        have hle2 : j + 1 ≤ (rcells k R).length := by rw [rcells_len]; omega
        have hwR : IntKind.wrap .i64 (R j + 1) = R j + 1 := by have := hRb j; exact wrap_small (by omega) (by omega)
        simp only [q1, q2, q4, q6, q7, q8, q11, q12, he2, p2, hrow9, c_rem _ _ _ m.banks (show m.banks ≠ 0 by omega), hjm, if_pos hj5, rcells_get hjk, hle2, hwR, rcells_splice hjk, hwr, kB, kZ, kD, xr, xu, xz, xl, xg, xk, xn, xo, xc, xd, xe, xf, xj, xm, xi, xh, reduceIte, reduceCtorEq, xv, xy, xq, xb, xa, xp]
        refine ⟨n2 - 1, by omega, q + 1, v3 + 1, incr R j, by omega, rfl, rfl, ?_, fun j2 => by have := incr_bnd hRb j j2; omega⟩
        rw [hR, ← List.take_append_getElem hql, List.foldl_append]
        simp only [List.foldl_cons, List.foldl_nil, hj]
      · have hq : q = rl.length := by have := of_decide_eq_false hc2; omega
        subst hq
        rw [List.take_length] at hR
        simp only [q1, q2, q4, q6, q7, q8, q11, q12, lw, kB, kZ, kD, xr, xu, xz, xl, xg, xk, xn, xo, xc, xd, xe, xf, xj, xm, xi, xh, reduceIte, reduceCtorEq, xv, xy, xq, xb, xa, xp]
        exact ⟨v3, by rw [hR]⟩
    intro e2 s2 ⟨v3, hs2, q1, q2, q4, q6, q7, q8⟩
    subst hs2
    have hwr : IntKind.wrap .i64 ((i : Int) + 1) = ((i + 1 : Nat) : Int) := by rw [wrap_small (by omega) (by omega)]; omega
    simp only [q1, q2, q4, q6, q7, q8, hwr, kB, kZ, kD, xr, xu, xz, xl, xg, xk, xn, xo, xc, xd, xe, xf, xj, xm, xi, xh, reduceIte, reduceCtorEq, xv, xy, xq, xb, xa, xp]
    exact ⟨n - 1, by omega, i + 1, v1 + 1, v3, L ++ m1, by omega, by rw [hnext, hnA, hnR], rfl⟩
  · have hi : i = l.length := by have := of_decide_eq_false hcc; omega
    subst hi
    rw [List.take_length]
    simp only [k1, k2, k4, k6, k7, k8, acells, kB, kZ, kD, xr, xu, xz, xl, xg, xk, xn, xo, xc, xd, xe, xf, xj, xm, xi, xh, reduceIte, reduceCtorEq, xw, xv, xy, xq, xb, xa, xp]
    exact ⟨_, rfl, v2, rfl⟩
end
end Go.VX.Seat
end
section
set_option maxRecDepth 4000
namespace Go.VX.Seat
open Go.Proofs
open Go.VX.AV renaming cell? → xa, toV → xb
open Int renaming reduceAdd → xc, reduceLE → xd, reduceLT → xe, reduceNeg → xf, reduceToNat → xg
open Nat renaming reduceAdd → xh, reduceEqDiff → xi, reduceLeDiff → xj, reduceMul → xk, reduceSub → xl
open Go.VX.VOpd renaming ev → xm
open Go.VX renaming asInt? → xn, asNat? → xo, cellVal → xp, cellsV → xq, fillA → xr, partsEv → xu, resOf → xv, splice → xw, tupOf → xy, zeroes → xz
theorem up_mono {a a' b : Int} (ha : 0 ≤ a) (h : a ≤ a') (hb : 1 ≤ b) : upI a b ≤ upI a' b := by
  refine up_le ha hb ?_
  have := le_up (show 0 ≤ a' by omega) hb
  omega
theorem up_max {a a' b : Int} (ha : 0 ≤ a) (ha' : 0 ≤ a') (hb : 1 ≤ b) : upI (max a a') b = max (upI a b) (upI a' b) := by
  rcases Int.le_total a a' with h | h
  · have := up_mono ha h hb
    rw [Int.max_eq_right h, Int.max_eq_right this]
  · have := up_mono ha' h hb
    rw [Int.max_eq_left h, Int.max_eq_left this]
theorem up_le_one_iff {a b : Int} (ha : 0 ≤ a) (hb : 1 ≤ b) : upI a b ≤ 1 ↔ a ≤ b := by
  constructor
  · intro h
    have h1 := le_up ha hb
    have h2 : upI a b * b ≤ 1 * b := Int.mul_le_mul_of_nonneg_right h (by omega)
    omega
  · intro h
    exact up_le ha hb (by omega)
theorem fits_home {u : UseV} (hok : okM u.m = true) (hA : ∀ j, 0 ≤ u.A j) (hR : ∀ j, 0 ≤ u.R j ∧ u.R j ≤ 1000000) : fitsU u = decide (homeU u ≤ 1) := by
  have hb := okM_bnd hok
  have hm := maxL_rs hR
  have h0 := up_le_one_iff (hA 0) (show 1 ≤ u.m.u0 by omega)
  have h1 := up_le_one_iff (hA 1) (show 1 ≤ u.m.u1 by omega)
  have h2 := up_le_one_iff (hA 2) (show 1 ≤ u.m.u2 by omega)
  have h3 := up_le_one_iff (hA 3) (show 1 ≤ u.m.u3 by omega)
  have h4 := up_le_one_iff hm.1 (show 1 ≤ u.m.ports by omega)
  unfold fitsU homeU
  rw [Bool.eq_iff_iff]
  simp only [Bool.and_eq_true, decide_eq_true_eq]
  omega
theorem foldl_incr_hi {b : Int} (hb : 1 ≤ b) {j : Nat} (hj : b ≤ (j : Int)) : ∀ (rl : List Int) (R : Nat → Int), (∀ r ∈ rl, 0 ≤ r) → (rl.foldl (fun R r => incr R (bankI b r)) R) j = R j
  | [], R, _ => rfl
  | r :: rl, R, h => by
    rw [List.foldl_cons, foldl_incr_hi hb hj rl _ fun x hx => h x (List.mem_cons_of_mem _ hx)]
    have hr := h r List.mem_cons_self
    unfold incr bankI
    rw [Int.tmod_eq_emod_of_nonneg hr]
    have h1 := Int.emod_nonneg r (show b ≠ 0 by omega)
    have h2 := Int.emod_lt_of_pos r (show 0 < b by omega)
    rw [if_neg (by omega)]
theorem useU_hi {m : MachV} (hb : 1 ≤ m.banks) {j : Nat} (hj : m.banks ≤ (j : Int)) : ∀ (l : List OpV) (u : UseV), u.m = m → l.all (okOp m) = true → u.R j = 0 → (l.foldl withU u).R j = 0
  | [], u, _, _, h => h
  | o :: l, u, hm, ha, h => by
    rw [List.foldl_cons]
    simp only [List.all_cons, Bool.and_eq_true] at ha
    refine useU_hi hb hj l _ hm ha.2 ?_
    show ((rdsR o).foldl (fun R r => incr R (bankI u.m.banks r)) u.R) j = 0
    rw [hm, foldl_incr_hi hb hj _ _ fun r hr => ?_, h]
    have h1 := ha.1
    unfold okOp at h1
    simp only [Bool.and_eq_true] at h1
    have := List.all_eq_true.1 h1.2 r hr
    unfold regM at this
    simp at this
    omega
def homeA (u : UseV) : Int := max (max (max (max 0 (upI (u.A 0) u.m.u0)) (upI (u.A 1) u.m.u1)) (upI (u.A 2) u.m.u2)) (upI (u.A 3) u.m.u3)
def homeF (u : UseV) (n : Nat) : Int := (List.range n).foldl (fun a j => max a (upI (u.R j) u.m.ports)) (homeA u)
theorem homeF_succ (u : UseV) (n : Nat) : homeF u (n + 1) = max (homeF u n) (upI (u.R n) u.m.ports) := by
  unfold homeF
  rw [List.range_succ, List.foldl_append]
  rfl
theorem homeF_nn {u : UseV} (hp : 1 ≤ u.m.ports) (hR : ∀ j, 0 ≤ u.R j) : ∀ n, 0 ≤ homeF u n
  | 0 => by show 0 ≤ homeA u; unfold homeA; omega
  | n + 1 => by
    rw [homeF_succ]
    have := homeF_nn hp hR n
    omega
theorem homeF_hi {u : UseV} {k : Nat} (hp : 1 ≤ u.m.ports) (hR : ∀ j, 0 ≤ u.R j) (hi : ∀ j, k ≤ j → u.R j = 0) : ∀ d, homeF u (k + d) = homeF u k
  | 0 => rfl
  | d + 1 => by
    have := homeF_nn hp hR (k + d)
    rw [← Nat.add_assoc, homeF_succ, hi _ (by omega), up_zero hp, Int.max_eq_left this, homeF_hi hp hR hi d]
theorem home_eq {u : UseV} {k : Nat} (hp : 1 ≤ u.m.ports) (hR : ∀ j, 0 ≤ u.R j) (hk : 1 ≤ k ∧ k ≤ 8) (hi : ∀ j, k ≤ j → u.R j = 0) : homeF u k = homeU u := by
  rw [← homeF_hi hp hR hi (8 - k), show k + (8 - k) = 8 by omega]
  have hu : homeU u = max (homeA u) (upI (maxL u.rs) u.m.ports) := rfl
  have h : maxL u.rs = max (max (max (max (max (max (max (u.R 0) (u.R 1)) (u.R 2)) (u.R 3)) (u.R 4)) (u.R 5)) (u.R 6)) (u.R 7) := rfl
  have r0 := hR 0
  have r1 := hR 1
  have r2 := hR 2
  have r3 := hR 3
  have r4 := hR 4
  have r5 := hR 5
  have r6 := hR 6
  rw [hu, h, up_max (by omega) (hR 7) hp, up_max (by omega) (hR 6) hp, up_max (by omega) (hR 5) hp, up_max (by omega) (hR 4) hp, up_max (by omega) (hR 3) hp, up_max (by omega) (hR 2) hp, up_max (hR 0) (hR 1) hp]
  iterate 8 rw [homeF_succ]
  simp only [Int.max_assoc]
  rfl
theorem callO_app {X : Cx} {env : Env} {st : St} {Q : Post3} {K : Env → St → Post3 → Prop} {f : FuncId} {args : List AV} {dst : Option Nat} {keep : List VOpd} {w : AV} {R : St → Prop} (hw : wpF X f args st fun r s => ∃ L, r = .ret w ∧ s = st ++ L ∧ R L)
    (h : ∀ L, R L → K (env.put dst w) (st ++ L) Q) : callO X f args dst keep K env st Q := by
  refine wpF.mono hw ?_
  rintro r s ⟨L, rfl, rfl, h1⟩
  exact ⟨kept_app _ _ _ _, h L h1⟩
section
variable {X : Cx} {st : St}
set_option maxHeartbeats 1000000 in
theorem j_r19_Home (h : On X) (m : MachV) {lo hi : Nat} {v : AV} {l : List OpV} (hok : okM m = true) (hw0 : wrongM m l = 0) (hv : OpsAt st lo hi v l) :
    J X.P X.F X.H (.call 115 [.agg m.row, v] st (.ret (iA (homeU (useU m l)))) st) := by
  refine pure_intro (by rw [h.F]; rfl) rfl ?_
  have l1 := hv.len
  simp only [List.length_map] at l1
  have hb := okM_bnd hok
  obtain ⟨_, hl400, hall⟩ := useErr_ok (m := m) (l := l) (by unfold useErr; rw [hok, hw0]; rfl)
  have hub := useU_bnds (m := m) (l := l) hl400
  obtain ⟨k, hk⟩ : ∃ k : Nat, m.banks = (k : Int) := ⟨m.banks.toNat, by omega⟩
  have hkn : m.banks.toNat = k := by omega
  have hum : (useU m l).m = m := useU_m m l _ rfl
  have hhome := home_eq (u := useU m l) (k := k) (by rw [hum]; omega) (fun j => (hub.2 j).1) (by omega) (fun j hj => useU_hi (m := m) (by omega) (by omega) l (zeroUse m) rfl hall rfl)
  have hcnt := fun hv' => w_r19_counts (st := st ++ [⟨m.row, 0, 0⟩]) h m hok hw0 (lo := lo) (hi := hi) (v := v) hv'
  rw [hkn] at hcnt
  obtain ⟨U, hU⟩ : ∃ U, useU m l = U := ⟨_, rfl⟩
  rw [hU] at hub hum hhome hcnt ⊢
  subst hum
  have w1 : IntKind.wrap .i64 (0 + 1) = 1 := rfl
  have w2 : IntKind.wrap .i64 (1 + 1) = 2 := rfl
  have w3 : IntKind.wrap .i64 (2 + 1) = 3 := rfl
  have w4 : IntKind.wrap .i64 (3 + 1) = 4 := rfl
  have q : ∀ a b : Int, 0 ≤ a ∧ a ≤ 1000000 → 1 ≤ b ∧ b ≤ 32 → IntKind.wrap .i64 (a + b) = a + b ∧ IntKind.wrap .i64 (a + b - 1) = a + b - 1 ∧ IntKind.wrap .i64 (Int.tdiv (a + b - 1) b) = upI a b := fun a b ha hb => by
    have h1 := up_bnd ha.1 hb.1
    have h2 := wrap_small (n := upI a b) (by omega) (by omega)
    exact ⟨wrap_small (by omega) (by omega), wrap_small (by omega) (by omega), h2⟩
  obtain ⟨a0, b0, c0⟩ := q _ U.m.u0 (hub.1 0) (by omega)
  obtain ⟨a1, b1, c1⟩ := q _ U.m.u1 (hub.1 1) (by omega)
  obtain ⟨a2, b2, c2⟩ := q _ U.m.u2 (hub.1 2) (by omega)
  obtain ⟨a3, b3, c3⟩ := q _ U.m.u3 (hub.1 3) (by omega)
  simp only [v_r19_Home, l1, MachV.row, kB, kZ, kD, xr, xu, xz, xl, xg, xk, xn, xo, xc, xd, xe, xf, xj, xm, xi, xh, reduceIte, reduceCtorEq, xw, xv, xy, xq, xb, xa, xp]
  refine callO_app (hcnt (hv.mono _)) ?_
  intro L ⟨ver, hL⟩
  have hL3 : 3 < L.length := (List.getElem?_eq_some_iff.1 hL).1
  have hbox : ∀ (b : Box) (T : St), (st ++ (b :: (L ++ T)))[st.length + 4]? = some ⟨rcells k U.R, 0, ver⟩ := fun b T => by
    rw [List.getElem?_append_right (by omega), show st.length + 4 - st.length = 3 + 1 by omega, List.getElem?_cons_succ, List.getElem?_append_left hL3]
    exact hL
  have hIs : ∀ (b : Box) (T : St), IntsAt (st ++ (b :: (L ++ T))) (st.length + 4) (st.length + 4 + 1) (.sl (st.length + 4) 0 k 1 true) ((List.range k).map U.R) := fun b T =>
    arr_part (hbox b T) (by decide) (by simp) (fun i hi => by rw [Nat.zero_add]; simp at hi; rw [rcells_get hi]; simp) (by rw [rcells_len]; simp)
  clear hbox hL hcnt
  simp only [acells, MachV.row, List.append_assoc, List.cons_append, List.nil_append, kB, kZ, kD, xr, xu, xz, xl, xg, xk, xn, xo, xc, xd, xe, xf, xj, xm, xi, xh, reduceIte, reduceCtorEq, xw, xv, xy, xq, xb, xa, xp]
  refine loop_unroll ?_
  simp only [w1, w2, w3, w4, a0, a1, a2, a3, b0, b1, b2, b3, c0, c1, c2, c3, c_quo _ _ _ U.m.u0 (show U.m.u0 ≠ 0 by omega), kB, kZ, kD, xr, xu, xz, xl, xg, xk, xn, xo, xc, xd, xe, xf, xj, xm, xi, xh, reduceIte, reduceCtorEq, xw, xv, xy, xq, xb, xa, xp]
  refine loop_unroll ?_
  simp only [w1, w2, w3, w4, a0, a1, a2, a3, b0, b1, b2, b3, c0, c1, c2, c3, c_quo _ _ _ U.m.u1 (show U.m.u1 ≠ 0 by omega), kB, kZ, kD, xr, xu, xz, xl, xg, xk, xn, xo, xc, xd, xe, xf, xj, xm, xi, xh, reduceIte, reduceCtorEq, xw, xv, xy, xq, xb, xa, xp]
  refine loop_unroll ?_
  simp only [w1, w2, w3, w4, a0, a1, a2, a3, b0, b1, b2, b3, c0, c1, c2, c3, c_quo _ _ _ U.m.u2 (show U.m.u2 ≠ 0 by omega), kB, kZ, kD, xr, xu, xz, xl, xg, xk, xn, xo, xc, xd, xe, xf, xj, xm, xi, xh, reduceIte, reduceCtorEq, xw, xv, xy, xq, xb, xa, xp]
  refine loop_unroll ?_
  simp only [w1, w2, w3, w4, a0, a1, a2, a3, b0, b1, b2, b3, c0, c1, c2, c3, c_quo _ _ _ U.m.u3 (show U.m.u3 ≠ 0 by omega), kB, kZ, kD, xr, xu, xz, xl, xg, xk, xn, xo, xc, xd, xe, xf, xj, xm, xi, xh, reduceIte, reduceCtorEq, xw, xv, xy, xq, xb, xa, xp]
  refine loop_unroll ?_
  simp only [w1, w2, w3, w4, a0, a1, a2, a3, b0, b1, b2, b3, c0, c1, c2, c3, kB, kZ, kD, xr, xu, xz, xl, xg, xk, xn, xo, xc, xd, xe, xf, xj, xm, xi, xh, reduceIte, reduceCtorEq, xw, xv, xy, xq, xb, xa, xp]
  refine loop_live [2, 6] (fun mm e => ∃ i : Nat, i + mm = k ∧ e 9 = iA i ∧ e 7 = iA (homeF U i)) k ?_ ?_
  · exact ⟨0, by omega, by simp only [kB, kZ, kD, xr, xu, xz, xl, xg, xk, xn, xo, xc, xd, xe, xf, xj, xm, xi, xh, reduceIte, reduceCtorEq, xw, xv, xy, xq, xb, xa, xp], by simp only [kB, kZ, kD, xr, xu, xz, xl, xg, xk, xn, xo, xc, xd, xe, xf, xj, xm, xi, xh, reduceIte, reduceCtorEq, xw, xv, xy, xq, xb, xa, xp]; rfl⟩
  · intro mm e hLv ⟨i, him, q9, q7⟩
    simp only [kB, kZ, kD, xr, xu, xz, xl, xg, xk, xn, xo, xc, xd, xe, xf, xj, xm, xi, xh, reduceIte, reduceCtorEq, xw, xv, xy, xq, xb, xa, xp] at hLv
    obtain ⟨q2, q6⟩ := hLv
    have q6' : e 6 = .sl (st.length + 4) 0 k 1 true := q6
    simp only [q2, q6', q7, q9, kB, kZ, kD, xr, xu, xz, xl, xg, xk, xn, xo, xc, xd, xe, xf, xj, xm, xi, xh, reduceIte, reduceCtorEq, xw, xv, xy, xq, xb, xa, xp]
    refine condO_intro ?_ ?_ <;> intro hc
    · have hik : i < k := by have := of_decide_eq_true hc; omega
      obtain ⟨b1, o1, he1, _, ha1, _⟩ := (hIs ⟨[iA U.m.u0, iA U.m.u1, iA U.m.u2, iA U.m.u3, iA U.m.l0, iA U.m.l1, iA U.m.l2, iA U.m.l3, iA U.m.regs, iA U.m.banks, iA U.m.ports], 0, 0⟩ [⟨[iA (U.A 0), iA (U.A 1), iA (U.A 2), iA (U.A 3)], 0, 1⟩]).get i (by simpa using hik)
      have p1 := ha1 [] 0 (by omega)
      simp only [List.append_nil, List.getElem_map, Nat.add_zero, List.getElem?_cons_zero, List.getElem_range] at p1
      obtain ⟨aa, bb, cc⟩ := q _ U.m.ports (hub.2 i) (by omega)
      have hwr : IntKind.wrap .i64 ((i : Int) + 1) = ((i + 1 : Nat) : Int) := by rw [wrap_small (by omega) (by omega)]; omega
      simp only [q2, q6', q7, q9, he1, p1, aa, bb, cc, hwr, c_quo _ _ _ U.m.ports (show U.m.ports ≠ 0 by omega), kB, kZ, kD, xr, xu, xz, xl, xg, xk, xn, xo, xc, xd, xe, xf, xj, xm, xi, xh, reduceIte, reduceCtorEq, xw, xv, xy, xq, xb, xa, xp]
      exact ⟨mm - 1, by omega, i + 1, by omega, rfl, by rw [homeF_succ]⟩
    · have hi : i = k := by have := of_decide_eq_false hc; omega
      subst hi
      rw [hhome] at q7
      simp only [q2, q6', q7, q9, kB, kZ, kD, xr, xu, xz, xl, xg, xk, xn, xo, xc, xd, xe, xf, xj, xm, xi, xh, reduceIte, reduceCtorEq, xw, xv, xy, xq, xb, xa, xp]
      first | exact ⟨_, rfl⟩ | exact ⟨rfl, _, rfl⟩ | exact ⟨trivial, _, rfl⟩ | exact ⟨[], (List.append_nil _).symm⟩
theorem j_r19_Together (h : On X) (m : MachV) {lo hi : Nat} {v : AV} {l : List OpV} (hok : okM m = true) (hw0 : wrongM m l = 0) (hv : OpsAt st lo hi v l) :
    J X.P X.F X.H (.call 82 [.agg m.row, v] st (.ret (bA (fitsU (useU m l)))) st) := by
  refine pure_intro (by rw [h.F]; rfl) rfl ?_
  obtain ⟨_, hl400, hall⟩ := useErr_ok (m := m) (l := l) (by unfold useErr; rw [hok, hw0]; rfl)
  have hub := useU_bnds (m := m) (l := l) hl400
  have hum : (useU m l).m = m := useU_m m l _ rfl
  rw [fits_home (by rw [hum]; exact hok) (fun j => (hub.1 j).1) hub.2]
  simp only [v_r19_Together, MachV.row, kB, kZ, kD, xr, xu, xz, xl, xg, xk, xn, xo, xc, xd, xe, xf, xj, xm, xi, xh, reduceIte, reduceCtorEq, xw, xv, xy, xq, xb, xa, xp]
  refine callO_same (j_r19_Home h m hok hw0 (hv.mono _)) ?_
  simp only [kB, kZ, kD, xr, xu, xz, xl, xg, xk, xn, xo, xc, xd, xe, xf, xj, xm, xi, xh, reduceIte, reduceCtorEq, xw, xv, xy, xq, xb, xa, xp]
  first | exact ⟨_, rfl⟩ | exact ⟨rfl, _, rfl⟩ | exact ⟨trivial, _, rfl⟩ | exact ⟨[], (List.append_nil _).symm⟩
end
end Go.VX.Seat
end
section
set_option maxRecDepth 4000
namespace Go.VX.Seat
open Go.Proofs
open Go.VX.AV renaming cell? → xa, toV → xb
open Int renaming reduceAdd → xc, reduceLE → xd, reduceLT → xe, reduceNeg → xf, reduceToNat → xg
open Nat renaming reduceAdd → xh, reduceEqDiff → xi, reduceLeDiff → xj, reduceMul → xk, reduceSub → xl
open Go.VX.VOpd renaming ev → xm
open Go.VX renaming asInt? → xn, asNat? → xo, cellVal → xp, cellsV → xq, fillA → xr, partsEv → xu, resOf → xv, splice → xw, tupOf → xy, zeroes → xz
theorem putL_mem : ∀ {l acc : List Int} {x : Int}, x ∈ l.foldl putL acc → x ∈ acc ∨ x ∈ l
  | [], acc, x, h => .inl h
  | y :: r, acc, x, h => by
    rw [List.foldl_cons] at h
    rcases putL_mem h with h | h
    · unfold putL at h
      split at h
      · exact .inl h
      · rcases List.mem_append.1 h with h | h
        · exact .inl h
        · exact .inr (by rw [List.mem_singleton.1 h]; exact List.mem_cons_self ..)
    · exact .inr (List.mem_cons_of_mem _ h)
theorem mem_if {b : Bool} {x y : Int} (h : y ∈ (if b = true then [x] else [])) : b = true ∧ y = x := by
  cases b
  · simp at h
  · exact ⟨rfl, by simpa using h⟩
theorem wrongE_ok {C : CodV} {o : OpV} (h : wrongE C o = 0) : (1 ≤ o.k ∧ o.k ≤ 28) ∧ (usA o.k = true → regOkA C.regs o.a = true) ∧ (usB o.k = true → regOkA C.regs o.b = true) ∧ (usC o.k = true → regOkA C.regs o.c = true) ∧ (decide (o.g ≠ -1) = true → regOkA C.regs o.g = true) := by
  unfold wrongE at h
  split at h
  · cases h
  · rename_i hk
    split at h
    · cases h
    · rename_i hr
      simp only [Bool.not_eq_true, Bool.or_eq_false_iff, noneA_eq] at hk hr
      have k1 := of_decide_eq_false hk.1
      have k2 := of_decide_eq_false hk.2
      have f : ∀ b c : Bool, (b && !c) = false → b = true → c = true := by decide
      exact ⟨by omega, f _ _ hr.1.1.1.2, f _ _ hr.1.1.2, f _ _ hr.1.2, f _ _ hr.2⟩
theorem okOp_of {C : CodV} {o : OpV} {m : MachV} (h : wrongE C o = 0) (hm : C.regs ≤ m.regs) : okOp m o = true ∧ (hasCls o.k = true ∧ ∀ r ∈ rdsR o, 0 ≤ r) := by
  obtain ⟨hk, hA, hB, hC, hG⟩ := wrongE_ok h
  have hcls : hasCls o.k = true := by
    unfold hasCls outK oneK
    simp
    omega
  have hrd : ∀ r ∈ rdsR o, regOkA C.regs r = true := by
    intro r hr
    rw [← reads_eq] at hr
    rcases putL_mem hr with hr | hr
    · cases hr
    · unfold rawM at hr
      cases hout : outK o.k
      · rw [hout] at hr
        have h25 : 1 ≤ o.k ∧ o.k ≤ 25 := by
          unfold outK at hout
          simp at hout
          omega
        obtain ⟨_, e2, e3, e4, _, _, e7⟩ := kinds_one h25.1 h25.2
        rw [e7] at hr
        simp only [Bool.false_eq_true, if_false, if_true] at hr
        unfold readL operL at hr
        rcases List.mem_append.1 hr with hr | hr
        · obtain ⟨q, rfl⟩ := mem_if hr
          exact hG q
        · rcases List.mem_append.1 hr with hr | hr
          · rcases List.mem_append.1 hr with hr | hr
            · obtain ⟨q, rfl⟩ := mem_if hr
              exact hA (by rw [e2]; exact q)
            · obtain ⟨q, rfl⟩ := mem_if hr
              exact hB (by rw [e3]; exact q)
          · obtain ⟨q, rfl⟩ := mem_if hr
            exact hC (by rw [e4]; exact q)
      · rw [hout] at hr
        simp only [if_true] at hr
        have hk2 : o.k = 26 ∨ o.k = 27 ∨ o.k = 28 := by
          unfold outK at hout
          simp at hout
          omega
        rcases List.mem_append.1 hr with hr | hr
        · obtain ⟨q, rfl⟩ := mem_if hr
          exact hG q
        · obtain ⟨q, rfl⟩ := mem_if hr
          refine hA ?_
          have := of_decide_eq_true q
          rcases hk2 with e | e | e
          · exact absurd e this
          · rw [e]; rfl
          · rw [e]; rfl
  have hreg : ∀ r, regOkA C.regs r = true → 0 ≤ r ∧ r < m.regs := fun r hr => by
    unfold regOkA at hr
    simp at hr
    omega
  refine ⟨?_, hcls, fun r hr => (hreg r (hrd r hr)).1⟩
  unfold okOp
  rw [hcls, Bool.true_and, List.all_eq_true]
  intro r hr
  have := hreg r (hrd r hr)
  unfold regM
  simp
  omega
theorem opsR_zero {C : CodV} : ∀ {l : List OpV}, opsR C l = 0 → ∀ o ∈ l, wrongE C o = 0
  | [], _, o, h => by cases h
  | a :: r, h, o, ho => by
    unfold opsR at h
    split at h
    · rename_i q
      exact absurd h (of_decide_eq_true q)
    · rename_i q
      rcases List.mem_cons.1 ho with rfl | ho
      · simpa using q
      · exact opsR_zero h o ho
theorem wrdsR_zero {C : CodV} : ∀ {l : List WrdV}, wrdsR C l = 0 → ∀ w ∈ l, w.ops.length ≤ 400 ∧ opsR C w.ops = 0
  | [], _, w, hw => by cases hw
  | a :: r, h, w, hw => by
    unfold wrdsR at h
    split at h
    · cases h
    · split at h
      · cases h
      · rename_i h2
        split at h
        · rename_i h3
          exact absurd h (of_decide_eq_true h3)
        · rename_i h3
          rcases List.mem_cons.1 hw with rfl | hw
          · have h3 : opsR C w.ops = 0 := by simpa using h3
            have h2 : ¬ 400 < (w.ops.length : Int) := by simpa using h2
            exact ⟨by omega, h3⟩
          · exact wrdsR_zero h w hw
structure CodOk (C : CodV) : Prop where
  lim : limR C = false
  siz : C.sizes.any badSize = false
  hed : hedR C = false
  n60 : C.words.length ≤ 60000 ∧ C.words.length ≠ 0
  wds : wrdsR C C.words = 0
  lst : lastRW C.words = true
  tot : totW C.words ≤ 80000
theorem chkR_ok {C : CodV} (h : chkR C = 0) : CodOk C := by
  unfold chkR at h
  cases h1 : limR C
  · cases h2 : C.sizes.any badSize
    · cases h3 : hedR C
      · cases h4 : (decide (60000 < (C.words.length : Int)) || decide ((C.words.length : Int) = 0))
        · cases h5 : decide (wrdsR C C.words ≠ 0)
          · cases h6 : lastRW C.words
            · rw [h1, h2, h3, h4, h5, h6] at h; cases h
            · cases h7 : decide (80000 < (totW C.words : Int))
              · have q := Bool.or_eq_false_iff.1 h4
                have a := of_decide_eq_false q.1
                have b := of_decide_eq_false q.2
                have c := of_decide_eq_false h5
                have d := of_decide_eq_false h7
                exact ⟨h1, h2, h3, by omega, by omega, h6, by omega⟩
              · rw [h1, h2, h3, h4, h5, h6, h7] at h; cases h
          · have := of_decide_eq_true h5
            rw [h1, h2, h3, h4, h5] at h
            exact absurd h this
        · rw [h1, h2, h3, h4] at h; cases h
      · rw [h1, h2, h3] at h; cases h
    · rw [h1, h2] at h; cases h
  · rw [h1] at h; cases h
def fitE (C : CodV) (m : MachV) : Int :=
  if decide (chkR C ≠ 0) then chkR C else
  if decide (chkM m ≠ 0) then chkM m else
  if decide (m.regs < C.regs) then 3 else
  if C.words.all (fun w => fitsU (useU m w.ops)) then 0 else 7
theorem chkM_ok {m : MachV} (h : chkM m = 0) : okM m = true := by
  unfold chkM at h
  cases ho : okM m
  · rw [ho] at h; cases h
  · rfl
section
variable {X : Cx} {st : St}
set_option maxHeartbeats 4000000 in
theorem j_r26_Fits (h : On X) {lo hi : Nat} {v : AV} {C : CodV} (hv : CodAt st lo hi v C) (m : MachV) :
    J X.P X.F X.H (.call 31 [v, .agg m.row] st (.ret (iA (fitE C m))) st) := by
  refine pure_intro (by rw [h.F]; rfl) rfl ?_
  have hm := fun L => hv.mono L
  obtain ⟨s, bl, rfl, hs, hb⟩ := hv
  obtain ⟨f, hb, hbo⟩ := hb
  have l2 : lenA bl = some C.words.length := by
    have := hb.len
    simpa using this
  simp only [v_r26_Fits, MachV.row, kB, kZ, kD, xr, xu, xz, xl, xg, xk, xn, xo, xc, xd, xe, xf, xj, xm, xi, xh, reduceIte, reduceCtorEq, xw, xv, xy, xq, xb, xa, xp]
  refine callO_same (j_r26_Check h (hm _)) ?_
  cases h0 : decide (chkR C ≠ 0)
  case true =>
    have hr : fitE C m = chkR C := by unfold fitE; rw [h0]; rfl
    rw [hr]
    simp only [h0, kB, kZ, kD, xr, xu, xz, xl, xg, xk, xn, xo, xc, xd, xe, xf, xj, xm, xi, xh, reduceIte, reduceCtorEq, xw, xv, xy, xq, xb, xa, xp]
    first | exact ⟨_, rfl⟩ | exact ⟨rfl, _, rfl⟩ | exact ⟨trivial, _, rfl⟩ | exact ⟨[], (List.append_nil _).symm⟩
  have hC := chkR_ok (C := C) (by have := of_decide_eq_false h0; omega)
  simp only [h0, kB, kZ, kD, xr, xu, xz, xl, xg, xk, xn, xo, xc, xd, xe, xf, xj, xm, xi, xh, reduceIte, reduceCtorEq, xw, xv, xy, xq, xb, xa, xp]
  refine callO_same (j_r19_Check h m) ?_
  cases h1 : decide (chkM m ≠ 0)
  case true =>
    have hr : fitE C m = chkM m := by unfold fitE; rw [h0, h1]; rfl
    rw [hr]
    simp only [h1, kB, kZ, kD, xr, xu, xz, xl, xg, xk, xn, xo, xc, xd, xe, xf, xj, xm, xi, xh, reduceIte, reduceCtorEq, xw, xv, xy, xq, xb, xa, xp]
    first | exact ⟨_, rfl⟩ | exact ⟨rfl, _, rfl⟩ | exact ⟨trivial, _, rfl⟩ | exact ⟨[], (List.append_nil _).symm⟩
  have hok := chkM_ok (m := m) (by have := of_decide_eq_false h1; omega)
  simp only [h1, kB, kZ, kD, xr, xu, xz, xl, xg, xk, xn, xo, xc, xd, xe, xf, xj, xm, xi, xh, reduceIte, reduceCtorEq, xw, xv, xy, xq, xb, xa, xp]
  cases h2 : decide (m.regs < C.regs)
  case true =>
    have hr : fitE C m = 3 := by unfold fitE; rw [h0, h1, h2]; rfl
    rw [hr]
    simp only [h2, kB, kZ, kD, xr, xu, xz, xl, xg, xk, xn, xo, xc, xd, xe, xf, xj, xm, xi, xh, reduceIte, reduceCtorEq, xw, xv, xy, xq, xb, xa, xp]
    first | exact ⟨_, rfl⟩ | exact ⟨rfl, _, rfl⟩ | exact ⟨trivial, _, rfl⟩ | exact ⟨[], (List.append_nil _).symm⟩
  have hrg := of_decide_eq_false h2
  have hr : fitE C m = if C.words.all (fun w => fitsU (useU m w.ops)) then 0 else 7 := by unfold fitE; rw [h0, h1, h2]; rfl
  rw [hr]
  have hn := hC.n60
  simp only [h2, kB, kZ, kD, xr, xu, xz, xl, xg, xk, xn, xo, xc, xd, xe, xf, xj, xm, xi, xh, reduceIte, reduceCtorEq, xw, xv, xy, xq, xb, xa, xp]
  refine loop_inv (fun n e s' => ∃ i : Nat, i + n = C.words.length ∧ s' = st ++ [⟨[s, iA C.params, iA C.regs, iA C.code, iA C.spill, bl], 0, 0⟩, ⟨[iA m.u0, iA m.u1, iA m.u2, iA m.u3, iA m.l0, iA m.l1, iA m.l2, iA m.l3, iA m.regs, iA m.banks, iA m.ports], 0, 0⟩] ∧ e 2 = .ptr (st.length + 0) 0 ∧ e 3 = .ptr (st.length + 1) 0 ∧ e 7 = iA i ∧ (C.words.take i).all (fun w => fitsU (useU m w.ops)) = true) ?_ C.words.length ?_
  case refine_2 => exact ⟨0, by omega, rfl, rfl, rfl, rfl, rfl⟩
  rintro n e s' ⟨i, him, rfl, k2, k3, k7, hpre⟩
  simp only [k2, k3, k7, l2, kB, kZ, kD, xr, xu, xz, xl, xg, xk, xn, xo, xc, xd, xe, xf, xj, xm, xi, xh, reduceIte, reduceCtorEq, xw, xv, xy, xq, xb, xa, xp]
  refine condO_intro ?_ ?_ <;> intro hc
  · have hil : i < C.words.length := by have := of_decide_eq_true hc; omega
    obtain ⟨b1, o1, he1, _, ha1, _⟩ := hb.get i (by simpa using hil)
    have p1 := fun L => ha1 L 0 (by omega)
    simp only [List.getElem_mapIdx, WrdV.row, List.getElem?_cons_zero] at p1
    obtain ⟨hl400, hO⟩ := wrdsR_zero hC.wds _ (List.getElem_mem hil)
    have hall : (C.words[i].ops).all (okOp m) = true := List.all_eq_true.2 fun o ho => (okOp_of (opsR_zero hO o ho) (by omega)).1
    have hw0 : wrongM m C.words[i].ops = 0 := by
      unfold wrongM
      rw [decide_eq_false (by omega), hall]
      rfl
    have hstep : (C.words.take (i + 1)).all (fun w => fitsU (useU m w.ops)) = fitsU (useU m C.words[i].ops) := by
      rw [← List.take_append_getElem hil, List.all_append, hpre]
      simp
    have hbad : fitsU (useU m C.words[i].ops) = false → C.words.all (fun w => fitsU (useU m w.ops)) = false := fun q => List.all_eq_false.2 ⟨_, List.getElem_mem hil, by rw [q]; decide⟩
    simp only [k2, k3, k7, l2, he1, p1, kB, kZ, kD, xr, xu, xz, xl, xg, xk, xn, xo, xc, xd, xe, xf, xj, xm, xi, xh, reduceIte, reduceCtorEq, xw, xv, xy, xq, xb, xa, xp]
    refine callO_same (j_r19_Together h m hok hw0 ((hbo i hil).mono _)) ?_
    cases hf : fitsU (useU m C.words[i].ops)
    · rw [hbad hf]
      simp only [k2, k3, k7, kB, kZ, kD, xr, xu, xz, xl, xg, xk, xn, xo, xc, xd, xe, xf, xj, xm, xi, xh, reduceIte, reduceCtorEq, xw, xv, xy, xq, xb, xa, xp]
      first | exact ⟨_, rfl⟩ | exact ⟨rfl, _, rfl⟩ | exact ⟨trivial, _, rfl⟩ | exact ⟨[], (List.append_nil _).symm⟩
    · have hwr : IntKind.wrap .i64 ((i : Int) + 1) = ((i + 1 : Nat) : Int) := by rw [wrap_small (by omega) (by omega)]; omega
      simp only [k2, k3, k7, hwr, kB, kZ, kD, xr, xu, xz, xl, xg, xk, xn, xo, xc, xd, xe, xf, xj, xm, xi, xh, reduceIte, reduceCtorEq, xw, xv, xy, xq, xb, xa, xp]
      exact ⟨n - 1, by omega, i + 1, by omega, rfl, by rw [hstep]; exact hf⟩
  · have hi : i = C.words.length := by have := of_decide_eq_false hc; omega
    subst hi
    rw [List.take_length] at hpre
    rw [hpre]
    simp only [k2, k3, k7, kB, kZ, kD, xr, xu, xz, xl, xg, xk, xn, xo, xc, xd, xe, xf, xj, xm, xi, xh, reduceIte, reduceCtorEq, xw, xv, xy, xq, xb, xa, xp]
    first | exact ⟨_, rfl⟩ | exact ⟨rfl, _, rfl⟩ | exact ⟨trivial, _, rfl⟩ | exact ⟨[], (List.append_nil _).symm⟩
end
end Go.VX.Seat
end
section
set_option maxRecDepth 4000
namespace Go.VX.Seat
open Go.Proofs
open Go.VX.AV renaming cell? → xa, toV → xb
open Int renaming reduceAdd → xc, reduceLE → xd, reduceLT → xe, reduceNeg → xf, reduceToNat → xg
open Nat renaming reduceAdd → xh, reduceEqDiff → xi, reduceLeDiff → xj, reduceMul → xk, reduceSub → xl
open Go.VX.VOpd renaming ev → xm
open Go.VX renaming asInt? → xn, asNat? → xo, cellVal → xp, cellsV → xq, fillA → xr, partsEv → xu, resOf → xv, splice → xw, tupOf → xy, zeroes → xz
theorem append_full {P : Program} {env : Env} {s : St} {lo lo' hi' esz bytes b : Nat} {z : Box} {x y : VOpd} {rows2 : List (List AV)} (hx : x.ev env = .sl b 0 0 esz true) (hb : s[b]? = some z) (hm : z.mode < 2) (hlo : lo ≤ b) (hy : ArrAt s lo' hi' (y.ev env) esz rows2)
    (hsz : rows2.length * (bytes + 1) ≤ 1000000000) :
    ∃ w M, vop P (.append esz bytes x y) env s = some (.val w, s ++ M) ∧ OwnS (s ++ M) lo w esz rows2 ∧ ∀ n, boxOf w = some n → n = b ∨ s.length ≤ n := by
  have l2 := hy.len
  have q2 := srcLen_len l2
  have q4 := srcCells_arr hy
  have hbl := (List.getElem?_eq_some_iff.1 hb).1
  have q0 : srcLen (.sl b 0 0 esz true) = some 0 := rfl
  have q3 : srcCells s esz 0 (.sl b 0 0 esz true) = some [] := by
    simp [srcCells, St.atN, hb, Nat.not_le_of_lt hm]
  by_cases hne : rows2 = []
  · subst hne
    refine ⟨.sl b 0 0 esz true, [], ?_, ?_, fun n hn => by cases hn; exact .inl rfl⟩
    · simp only [List.length_nil] at q2 q4
      simp only [vop, hx, q0, q2, q3, q4]
      rw [if_pos (by simp)]
      simp
    · rw [List.append_nil]
      exact own_empty hb hm hlo
  · have hm2 : rows2.length ≠ 0 := fun h => hne (List.length_eq_zero_iff.1 h)
    refine ⟨.sl s.length 0 (0 + rows2.length) esz false, [⟨[] ++ rows2.flatten, 0, 0⟩], ?_, ?_, fun n hn => by cases hn; exact .inr (Nat.le_refl _)⟩
    · simp only [vop, hx, q0, q2, q3, q4]
      rw [if_pos (by simpa using hsz)]
      simp only [hm2, if_false, if_true]
    · have hbx : (s ++ [⟨[] ++ rows2.flatten, 0, 0⟩])[s.length]? = some ⟨rows2.flatten, 0, 0⟩ := by
        rw [List.getElem?_append_right (by omega)]; simp
      refine ⟨(ArrAt.ofBox hbx (by decide) hy.rowlen (by simp)).wide' (by omega) (by simp), fun n hn => ?_, fun b' o n e full hw => ?_⟩
      · cases hn
        simp
        omega
      · cases hw
        exact .inr (by rw [hbx]; rfl)
theorem opR_appendF {X : Cx} {K : Env → St → Post3 → Prop} {Q : Post3} {d : Option Nat} {k : List VOpd} {env : Env} {s : St} {lo lo' hi' esz bytes b : Nat} {z : Box} {x y : VOpd} {rows2 : List (List AV)} {vy : AV} (ex : x.ev env = .sl b 0 0 esz true) (ey : y.ev env = vy) (hb : s[b]? = some z) (hm : z.mode < 2) (hlo : lo ≤ b) (hy : ArrAt s lo' hi' vy esz rows2)
    (hsz : rows2.length * (bytes + 1) ≤ 1000000000)
    (h : ∀ w M, OwnS (s ++ M) lo w esz rows2 → (∀ n, boxOf w = some n → n = b ∨ s.length ≤ n) → K (env.put d w) (s ++ M) Q) : opR X K d k env s Q (vop X.P (.append esz bytes x y) env s) := by
  subst ey
  obtain ⟨w, M, hv, h1, h2⟩ := append_full (P := X.P) ex hb hm hlo hy hsz
  rw [hv]
  exact ⟨kept_app _ _ _ _, h w M h1 h2⟩
def cutC (C : CodV) (n k : Nat) : CodV := { C with sizes := C.sizes.take 17, words := (C.words.take n).map fun w => { w with ops := w.ops.take k } }
section
variable {X : Cx} {st : St}
set_option maxHeartbeats 2000000 in
theorem w_r26_Cut (h : On X) {lo hi : Nat} {v : AV} {U : CodV} (hv : CodAt st lo hi v U) (n k : Nat) (hn : n ≤ 1000000) (hk : k ≤ 2000000) :
    wpF X 32 [v, iA n, iA k] st fun r s => NewC st s r (cutC U n k) := by
  refine wpF_go (fn := v_r26_Cut) (by rw [h.F]; rfl) ?_
  obtain ⟨s, bl, rfl, hs, hb⟩ := hv
  have l1 := hs.len
  have l2 : lenA bl = some U.words.length := by
    obtain ⟨f, hb, _⟩ := hb
    have := hb.len
    simpa using this
  have hcs := isCell_len l1
  have hcb := isCell_len l2
  simp only [List.length_map] at l1
  simp only [v_r26_Cut, l1, l2, hcs, hcb, kB, kZ, kD, xr, xu, xz, xl, xg, xk, xn, xo, xc, xd, xe, xf, xj, xm, xi, xh, reduceIte, reduceCtorEq, xw, xv, xy, xq, xb, xa, xp]
  have hmin : (min (U.sizes.length : Int) 17) = ((min U.sizes.length 17 : Nat) : Int) := by omega
  refine opR_pre (vx := s) (n := min U.sizes.length 17) (lo := lo) (hi := hi) (rows := U.sizes.map fun n => [iA n]) (by simp only [kB, kZ, kD, xr, xu, xz, xl, xg, xk, xn, xo, xc, xd, xe, xf, xj, xm, xi, xh, reduceIte, reduceCtorEq, xw, xv, xy, xq, xb, xa, xp]) (by rw [hmin]; simp only [kB, kZ, kD, xr, xu, xz, xl, xg, xk, xn, xo, xc, xd, xe, xf, xj, xm, xi, xh, reduceIte, reduceCtorEq, xw, xv, xy, xq, xb, xa, xp]; rw [if_pos (by omega)]) (hs.mono _) (by simp; omega) ?_
  intro sz1 hsz1
  have ht : U.sizes.take (min U.sizes.length 17) = U.sizes.take 17 := by
    rcases Nat.le_total U.sizes.length 17 with h | h
    · rw [Nat.min_eq_left h, List.take_length, List.take_of_length_le h]
    · rw [Nat.min_eq_right h]
  rw [← List.map_take, ht] at hsz1
  simp only [kB, kZ, kD, xr, xu, xz, xl, xg, xk, xn, xo, xc, xd, xe, xf, xj, xm, xi, xh, reduceIte, reduceCtorEq, xw, xv, xy, xq, xb, xa, xp]
  refine opR_appendF (b := st.length + 2) (z := ⟨[], 0, 0⟩) (vy := sz1) (lo := st.length + 2) (by simp only [kB, kZ, kD, xr, xu, xz, xl, xg, xk, xn, xo, xc, xd, xe, xf, xj, xm, xi, xh, reduceIte, reduceCtorEq, xw, xv, xy, xq, xb, xa, xp]) (by simp only [kB, kZ, kD, xr, xu, xz, xl, xg, xk, xn, xo, xc, xd, xe, xf, xj, xm, xi, xh, reduceIte, reduceCtorEq, xw, xv, xy, xq, xb, xa, xp]) (by simp) (by decide) (Nat.le_refl _) (rows2 := (U.sizes.take 17).map fun n => [iA n]) (by have := hsz1.mono [⟨[.sc (.slice none 0 0), iA 0, iA 0, iA 0, iA 0, .sc (.slice none 0 0)], 0, 0⟩]; simp only [List.append_assoc, List.cons_append, List.nil_append] at this; exact this) (by simp; omega) ?_
  intro sz M hown hszb
  have hcsz := isCell_len hown.arr.len
  have hcoz := cellsOf_len hown.arr.len
  simp only [hcsz, hcoz, List.append_assoc, List.cons_append, List.nil_append, kB, kZ, kD, xr, xu, xz, xl, xg, xk, xn, xo, xc, xd, xe, xf, xj, xm, xi, xh, reduceIte, reduceCtorEq, xw, xv, xy, xq, xb, xa, xp]
  have hY0 : OwnS (st ++ (⟨[s, iA U.params, iA U.regs, iA U.code, iA U.spill, bl], 0, 0⟩ :: ⟨[.sc (.slice none 0 0), iA 0, iA 0, iA 0, iA 0, .sc (.slice none 0 0)], 0, 0⟩ :: ⟨[], 0, 0⟩ :: ⟨[sz, iA U.params, iA U.regs, iA U.code, iA U.spill, .sc (.slice none 0 0)], 0, 1⟩ :: M)) (st.length + 2) sz 1 ((U.sizes.take 17).map fun n => [iA n]) := by
    have h1 := hown
    simp only [List.append_assoc, List.cons_append, List.nil_append] at h1
    exact h1.agree (Agree.swap st [⟨[s, iA U.params, iA U.regs, iA U.code, iA U.spill, bl], 0, 0⟩, ⟨[.sc (.slice none 0 0), iA 0, iA 0, iA 0, iA 0, .sc (.slice none 0 0)], 0, 0⟩, ⟨[], 0, 0⟩] ⟨[.sc (.slice none 0 0), iA 0, iA 0, iA 0, iA 0, .sc (.slice none 0 0)], 0, 0⟩ ⟨[sz, iA U.params, iA U.regs, iA U.code, iA U.spill, .sc (.slice none 0 0)], 0, 1⟩ M) (fun b hb h2 => by
      rcases hszb b hb with e | e <;> simp at h2 e <;> omega)
  have hszn : ∀ b, boxOf sz = some b → b ≠ st.length + 3 := fun b hb => by
    rcases hszb b hb with e | e <;> (try simp only [List.length_append, List.length_cons, List.length_nil] at e) <;> omega
  clear hown hszb hsz1
  refine loop_inv (fun m e s' => ∃ (L : St) (ver : Nat) (blv : AV) (i : Nat) (f : Nat → AV),
    s' = st ++ (⟨[s, iA U.params, iA U.regs, iA U.code, iA U.spill, bl], 0, 0⟩ :: ⟨[.sc (.slice none 0 0), iA 0, iA 0, iA 0, iA 0, .sc (.slice none 0 0)], 0, 0⟩ :: ⟨[], 0, 0⟩ :: ⟨[sz, iA U.params, iA U.regs, iA U.code, iA U.spill, blv], 0, ver⟩ :: L) ∧
    e 1 = iA n ∧ e 2 = iA k ∧ e 3 = .ptr (st.length + 0) 0 ∧ e 6 = .ptr (st.length + 1) 0 ∧ e 7 = .ptr (st.length + 3) 0 ∧ e 8 = iA i ∧
    m + i = U.words.length ∧ i ≤ n ∧
    OwnW s' (st.length + 4) blv f ((U.words.take i).map fun w => { w with ops := w.ops.take k }) ∧ OwnY s' (st.length + 2) sz blv f (U.sizes.take 17) ((U.words.take i).map fun w => { w with ops := w.ops.take k })) ?_ U.words.length ?_
  case refine_2 =>
    refine ⟨M, 1, .sc (.slice none 0 0), 0, fun _ => .sc (.slice none 0 0), rfl, ?_, ?_, ?_, ?_, ?_, ?_, by omega, by omega, ?_, ?_⟩
    iterate 6 (first | rfl | (simp only [kB, kZ, kD, xr, xu, xz, xl, xg, xk, xn, xo, xc, xd, xe, xf, xj, xm, xi, xh, reduceIte, reduceCtorEq, xw, xv, xy, xq, xb, xa, xp]; done))
    · exact ⟨own_nil _ _ _, fun h => absurd rfl h, fun i hi => absurd hi (by simp), fun i hi => absurd hi (by simp), fun i j hi => absurd hi (by simp)⟩
    · exact ⟨hY0, fun b hb => ⟨by simp [boxOf], fun i hi => absurd hi (by simp)⟩⟩
  clear hY0 M
  intro m e s' ⟨L, ver, blv, i, f, hs', k1, k2, k3, k6, k7, k8, him, hin, hB, hZ⟩
  subst hs'
  obtain ⟨f0, hb1, hbo⟩ := hb
  simp only [k1, k2, k3, k6, k7, k8, l2, kB, kZ, kD, xr, xu, xz, xl, xg, xk, xn, xo, xc, xd, xe, xf, xj, xm, xi, xh, reduceIte, reduceCtorEq, xw, xv, xy, xq, xb, xa, xp]
  refine gO_t ?_ ?_ <;> intro hc
  · have hil : i < U.words.length := by have := of_decide_eq_true hc; omega
    obtain ⟨b1, o1, he1, hn1, ha1, _⟩ := hb1.get i (by simpa using hil)
    simp only [List.getElem_mapIdx, WrdV.row] at hn1 ha1
    have ha0 := fun L => ha1 L 0 (by omega)
    have haa := fun L => ha1 L 1 (by omega)
    simp only [kB, kZ, kD, xr, xu, xz, xl, xg, xk, xn, xo, xc, xd, xe, xf, xj, xm, xi, xh, reduceIte, reduceCtorEq, xw, xv, xy, xq, xb, xa, xp] at ha0 haa
    have l3 := (hbo i hil).len
    simp only [List.length_map] at l3
    have hcell := isCell_len l3
    simp only [hc, k1, k2, k3, k6, k7, k8, l2, he1, hn1, ha0, haa, l3, hcell, kB, kZ, kD, xr, xu, xz, xl, xg, xk, xn, xo, xc, xd, xe, xf, xj, xm, xi, xh, reduceIte, reduceCtorEq, xw, xv, xy, xq, xb, xa, xp]
    refine condO_intro ?_ ?_ <;> intro hc2
    · have hin2 : i < n := by have := of_decide_eq_true hc2; omega
      simp only [hc, k1, k2, k3, k6, k7, k8, l2, he1, hn1, ha0, haa, l3, hcell, kB, kZ, kD, xr, xu, xz, xl, xg, xk, xn, xo, xc, xd, xe, xf, xj, xm, xi, xh, reduceIte, reduceCtorEq, xw, xv, xy, xq, xb, xa, xp]
      have hml : min (U.words[i].ops.length : Int) (k : Int) = ((min U.words[i].ops.length k : Nat) : Int) := by omega
      have hmt : U.words[i].ops.take (min U.words[i].ops.length k) = U.words[i].ops.take k := by
        rcases Nat.le_total U.words[i].ops.length k with h | h
        · rw [Nat.min_eq_left h, List.take_length, List.take_of_length_le h]
        · rw [Nat.min_eq_right h]
      refine opR_pre (vx := f0 i) (n := min U.words[i].ops.length k) (lo := lo) (hi := hi) (rows := U.words[i].ops.map OpV.row) (by simp only [kB, kZ, kD, xr, xu, xz, xl, xg, xk, xn, xo, xc, xd, xe, xf, xj, xm, xi, xh, reduceIte, reduceCtorEq, xw, xv, xy, xq, xb, xa, xp]) (by rw [hml]; simp only [kB, kZ, kD, xr, xu, xz, xl, xg, xk, xn, xo, xc, xd, xe, xf, xj, xm, xi, xh, reduceIte, reduceCtorEq, xw, xv, xy, xq, xb, xa, xp]; rw [if_pos (by omega)]) ((hbo i hil).mono _) (by simp; omega) ?_
      intro w1 hw1
      rw [← List.map_take, hmt] at hw1
      have htl : (U.words[i].ops.take k).length ≤ 2000000 := by simp only [List.length_take]; omega
      simp only [kB, kZ, kD, xr, xu, xz, xl, xg, xk, xn, xo, xc, xd, xe, xf, xj, xm, xi, xh, reduceIte, reduceCtorEq, xw, xv, xy, xq, xb, xa, xp]
      refine opR_appendF (b := st.length + (L.length + 1 + 1 + 1 + 1)) (z := ⟨[], 0, 0⟩) (vy := w1) (lo := st.length + (L.length + 1 + 1 + 1 + 1)) (by simp only [kB, kZ, kD, xr, xu, xz, xl, xg, xk, xn, xo, xc, xd, xe, xf, xj, xm, xi, xh, reduceIte, reduceCtorEq, xw, xv, xy, xq, xb, xa, xp]) (by simp only [kB, kZ, kD, xr, xu, xz, xl, xg, xk, xn, xo, xc, xd, xe, xf, xj, xm, xi, xh, reduceIte, reduceCtorEq, xw, xv, xy, xq, xb, xa, xp]) (by simp) (by decide) (Nat.le_refl _) hw1 (by simp only [List.length_map]; omega) ?_
      intro w M2 hown hwb
      have hwl := hown.arr.len
      simp only [List.length_map] at hwl
      have hwc := isCell_len hwl
      have hwo := cellsOf_len hwl
      simp only [hwc, hwo, k1, k2, k3, k6, k7, k8, List.append_assoc, List.cons_append, List.nil_append, kB, kZ, kD, xr, xu, xz, xl, xg, xk, xn, xo, xc, xd, xe, xf, xj, xm, xi, xh, reduceIte, reduceCtorEq, xw, xv, xy, xq, xb, xa, xp]
      have hag0 : Agree (fun _ => False) (st ++ (⟨[s, iA U.params, iA U.regs, iA U.code, iA U.spill, bl], 0, 0⟩ :: ⟨[.sc (.slice none 0 0), iA 0, iA 0, iA 0, iA 0, .sc (.slice none 0 0)], 0, 0⟩ :: ⟨[], 0, 0⟩ :: ⟨[sz, iA U.params, iA U.regs, iA U.code, iA U.spill, blv], 0, ver⟩ :: L)) (st ++ (⟨[s, iA U.params, iA U.regs, iA U.code, iA U.spill, bl], 0, 0⟩ :: ⟨[.sc (.slice none 0 0), iA 0, iA 0, iA 0, iA 0, .sc (.slice none 0 0)], 0, 0⟩ :: ⟨[], 0, 0⟩ :: ⟨[sz, iA U.params, iA U.regs, iA U.code, iA U.spill, blv], 0, ver⟩ :: (L ++ (⟨[], 0, 0⟩ :: (M2 ++ [⟨[w, iA U.words[i].catch_], 0, 0⟩]))))) := by
        simpa using Agree.app (fun _ => False) (st ++ (⟨[s, iA U.params, iA U.regs, iA U.code, iA U.spill, bl], 0, 0⟩ :: ⟨[.sc (.slice none 0 0), iA 0, iA 0, iA 0, iA 0, .sc (.slice none 0 0)], 0, 0⟩ :: ⟨[], 0, 0⟩ :: ⟨[sz, iA U.params, iA U.regs, iA U.code, iA U.spill, blv], 0, ver⟩ :: L)) (⟨[], 0, 0⟩ :: (M2 ++ [⟨[w, iA U.words[i].catch_], 0, 0⟩]))
      have hw2 : OwnS (st ++ (⟨[s, iA U.params, iA U.regs, iA U.code, iA U.spill, bl], 0, 0⟩ :: ⟨[.sc (.slice none 0 0), iA 0, iA 0, iA 0, iA 0, .sc (.slice none 0 0)], 0, 0⟩ :: ⟨[], 0, 0⟩ :: ⟨[sz, iA U.params, iA U.regs, iA U.code, iA U.spill, blv], 0, ver⟩ :: (L ++ (⟨[], 0, 0⟩ :: (M2 ++ [⟨[w, iA U.words[i].catch_], 0, 0⟩]))))) (st.length + (L.length + 1 + 1 + 1 + 1)) w 7 ((U.words[i].ops.take k).map OpV.row) := by
        have h1 := own_frame hown [⟨[w, iA U.words[i].catch_], 0, 0⟩]
        simpa using h1
      have hB2 := hB.agree hag0 (fun _ _ _ h => h)
      have hl1 : (st ++ (⟨[s, iA U.params, iA U.regs, iA U.code, iA U.spill, bl], 0, 0⟩ :: ⟨[.sc (.slice none 0 0), iA 0, iA 0, iA 0, iA 0, .sc (.slice none 0 0)], 0, 0⟩ :: ⟨[], 0, 0⟩ :: ⟨[sz, iA U.params, iA U.regs, iA U.code, iA U.spill, blv], 0, ver⟩ :: L) : St).length = st.length + (L.length + 1 + 1 + 1 + 1) := by simp
      have hl2 : (st ++ (⟨[s, iA U.params, iA U.regs, iA U.code, iA U.spill, bl], 0, 0⟩ :: ⟨[.sc (.slice none 0 0), iA 0, iA 0, iA 0, iA 0, .sc (.slice none 0 0)], 0, 0⟩ :: ⟨[], 0, 0⟩ :: ⟨[sz, iA U.params, iA U.regs, iA U.code, iA U.spill, blv], 0, ver⟩ :: (L ++ (⟨[], 0, 0⟩ :: (M2 ++ [⟨[w, iA U.words[i].catch_], 0, 0⟩])))) : St).length = st.length + (L.length + (M2.length + 1 + 1) + 1 + 1 + 1 + 1) := by simp
      obtain ⟨nb, hnb⟩ : ∃ nb : WrdV, nb = { U.words[i] with ops := U.words[i].ops.take k } := ⟨_, rfl⟩
      have hrow : nb.row w = [w, iA U.words[i].catch_] := by rw [hnb]; rfl
      have hdl : ((U.words.take i).map fun w : WrdV => { w with ops := w.ops.take k }).length = i := by simp; omega
      refine opR_append (vx := blv) (vy := .sl (st.length + (L.length + (M2.length + 1) + 1 + 1 + 1 + 1)) 0 1 2 true) (lo := st.length + 4) (lo' := st.length + (L.length + (M2.length + 1) + 1 + 1 + 1 + 1)) (hi' := st.length + (L.length + (M2.length + 1) + 1 + 1 + 1 + 1) + 1) (rows := wrdRows ((U.words.take i).map fun w => { w with ops := w.ops.take k }) f) (rows2 := [nb.row w]) (by simp only [kB, kZ, kD, xr, xu, xz, xl, xg, xk, xn, xo, xc, xd, xe, xf, xj, xm, xi, xh, reduceIte, reduceCtorEq, xw, xv, xy, xq, xb, xa, xp]) (by simp only [kB, kZ, kD, xr, xu, xz, xl, xg, xk, xn, xo, xc, xd, xe, xf, xj, xm, xi, xh, reduceIte, reduceCtorEq, xw, xv, xy, xq, xb, xa, xp]) hB2.own (by rw [hl2]; omega) (ArrAt.ofBox (mode := 0) (ver := 0) ?_ (by decide) (by rw [hrow]; simp) rfl) ?_ (by rw [hrow]; simp only [hwc, kB, kZ, kD, xr, xu, xz, xl, xg, xk, xn, xo, xc, xd, xe, xf, xj, xm, xi, xh, reduceIte, reduceCtorEq, xw, xv, xy, xq, xb, xa, xp]) ?_
      · rw [hrow]
        simp
      · rw [wrdRows_length, hdl]
        simp only [List.length_cons, List.length_nil]
        omega
      intro bl2 s3 hag3 hown3 hor3
      obtain ⟨_, hbox3, hex3⟩ : [nb.row w] ≠ [] ∧ boxOf bl2 = some (st ++ (⟨[s, iA U.params, iA U.regs, iA U.code, iA U.spill, bl], 0, 0⟩ :: ⟨[.sc (.slice none 0 0), iA 0, iA 0, iA 0, iA 0, .sc (.slice none 0 0)], 0, 0⟩ :: ⟨[], 0, 0⟩ :: ⟨[sz, iA U.params, iA U.regs, iA U.code, iA U.spill, blv], 0, ver⟩ :: (L ++ (⟨[], 0, 0⟩ :: (M2 ++ [⟨[w, iA U.words[i].catch_], 0, 0⟩])))) : St).length ∧ ExactBox s3 bl2 2 (wrdRows ((U.words.take i).map fun w => { w with ops := w.ops.take k }) f ++ [nb.row w]) := by
        rcases hor3 with h | h
        · exact absurd h.1 (by simp)
        · exact h
      rw [hl2] at hbox3
      have hw3 := hw2.agree hag3 (fun b hb hx => by
        have h1 := (hw2.bnd b hb).1
        have h2 := (hB.own.bnd b hx.2).2
        rw [hl1] at h2; omega)
      have hag4 : Agree (fun n => boxOf blv = some n) (st ++ (⟨[s, iA U.params, iA U.regs, iA U.code, iA U.spill, bl], 0, 0⟩ :: ⟨[.sc (.slice none 0 0), iA 0, iA 0, iA 0, iA 0, .sc (.slice none 0 0)], 0, 0⟩ :: ⟨[], 0, 0⟩ :: ⟨[sz, iA U.params, iA U.regs, iA U.code, iA U.spill, blv], 0, ver⟩ :: L)) s3 := (hag0.trans hag3).mono fun n _ h => by
        rcases h with h | h
        · exact h.elim
        · exact h.2
      have hB3 := OwnW.snoc (b := nb) hB hag4 (fun n _ h => h) (by rw [hnb]; exact hw3.low (by omega)) (fun n hn => by have := (hw2.bnd n hn).1; rw [hl1]; omega) hown3 hex3 (fun n hn => by
        rw [hbox3] at hn
        cases hn
        refine ⟨by rw [hl1]; omega, fun h => ?_⟩
        have := (hw2.bnd _ h).2
        rw [hl2] at this
        omega)
      have hZ3 := OwnY.snoc (b := nb) (w := w) (bl' := bl2) hZ hag4 (fun n _ h => h) (fun n hn => by have := (hw2.bnd n hn).1; rw [hl1]; omega) (fun n hn => by
        rw [hbox3] at hn
        cases hn
        rw [hl1]; omega)
      obtain ⟨L3, rfl⟩ : ∃ L3, s3 = st ++ (⟨[s, iA U.params, iA U.regs, iA U.code, iA U.spill, bl], 0, 0⟩ :: ⟨[.sc (.slice none 0 0), iA 0, iA 0, iA 0, iA 0, .sc (.slice none 0 0)], 0, 0⟩ :: ⟨[], 0, 0⟩ :: ⟨[sz, iA U.params, iA U.regs, iA U.code, iA U.spill, blv], 0, ver⟩ :: L3) := by
        have := Agree.shape (st := st) (M := [⟨[s, iA U.params, iA U.regs, iA U.code, iA U.spill, bl], 0, 0⟩, ⟨[.sc (.slice none 0 0), iA 0, iA 0, iA 0, iA 0, .sc (.slice none 0 0)], 0, 0⟩, ⟨[], 0, 0⟩, ⟨[sz, iA U.params, iA U.regs, iA U.code, iA U.spill, blv], 0, ver⟩]) (N := L ++ (⟨[], 0, 0⟩ :: (M2 ++ [⟨[w, iA U.words[i].catch_], 0, 0⟩]))) (by simpa using hag3) (fun b hb => by have := (hB.own.bnd b hb).1; simp; omega)
        simpa using this
      have hbl := hown3.arr.len
      have hblc := isCell_len hbl
      have hblo := cellsOf_len hbl
      have hnext : (U.words.take (i + 1)).map (fun w : WrdV => { w with ops := w.ops.take k }) = (U.words.take i).map (fun w => { w with ops := w.ops.take k }) ++ [nb] := by
        rw [hnb, ← List.take_append_getElem hil, List.map_append]
        rfl
      have hwr : IntKind.wrap .i64 ((i : Int) + 1) = ((i + 1 : Nat) : Int) := by rw [wrap_small (by omega) (by omega)]; omega
      have hag5 := Agree.swap st [⟨[s, iA U.params, iA U.regs, iA U.code, iA U.spill, bl], 0, 0⟩, ⟨[.sc (.slice none 0 0), iA 0, iA 0, iA 0, iA 0, .sc (.slice none 0 0)], 0, 0⟩, ⟨[], 0, 0⟩] ⟨[sz, iA U.params, iA U.regs, iA U.code, iA U.spill, blv], 0, ver⟩ ⟨[sz, iA U.params, iA U.regs, iA U.code, iA U.spill, bl2], 0, (ver + 1)⟩ L3
      simp only [k1, k2, k3, k6, k7, k8, hblc, hblo, hwr, kB, kZ, kD, xr, xu, xz, xl, xg, xk, xn, xo, xc, xd, xe, xf, xj, xm, xi, xh, reduceIte, reduceCtorEq, xw, xv, xy, xq, xb, xa, xp]
      refine ⟨m - 1, by omega, L3, ver + 1, bl2, i + 1, (fun j => if j = ((U.words.take i).map fun w : WrdV => { w with ops := w.ops.take k }).length then w else f j), rfl, rfl, by omega, by omega, ?_, ?_⟩
      · rw [hnext]; exact hB3.agree hag5 (fun b hb _ h => by simp at h; omega)
      · rw [hnext]; exact ⟨hZ3.own.agree hag5 (fun b hb h => by have := hszn b hb; simp at h; omega), hZ3.sep⟩
    · have hin3 : i = n := by have := of_decide_eq_false hc2; omega
      have hout : (U.words.take i).map (fun w : WrdV => { w with ops := w.ops.take k }) = (U.words.take n).map fun w => { w with ops := w.ops.take k } := by
        rw [hin3]
      have hbvc := isCell_len hB.own.arr.len
      have hag := Agree.swap st [⟨[s, iA U.params, iA U.regs, iA U.code, iA U.spill, bl], 0, 0⟩] ⟨[.sc (.slice none 0 0), iA 0, iA 0, iA 0, iA 0, .sc (.slice none 0 0)], 0, 0⟩ ⟨[sz, iA U.params, iA U.regs, iA U.code, iA U.spill, blv], 0, 1⟩ (⟨[], 0, 0⟩ :: ⟨[sz, iA U.params, iA U.regs, iA U.code, iA U.spill, blv], 0, ver⟩ :: L)
      simp only [hc, hc2, k1, k2, k3, k6, k7, k8, l2, hcsz, hbvc, List.append_nil, kB, kZ, kD, xr, xu, xz, xl, xg, xk, xn, xo, xc, xd, xe, xf, xj, xm, xi, xh, reduceIte, reduceCtorEq, xw, xv, xy, xq, xb, xa, xp]
      rw [hout] at hB hZ
      exact ⟨_, rfl, ⟨_, rfl⟩, ⟨sz, blv, f, rfl, (hZ.agree hag (fun b hb _ h => by simp at h; omega)).low (by omega), (hB.agree hag (fun b hb _ h => by simp at h; omega)).low (by omega)⟩⟩
  · have hi3 : i = U.words.length := by have := of_decide_eq_false hc; omega
    have hout : (U.words.take i).map (fun w : WrdV => { w with ops := w.ops.take k }) = (U.words.take n).map fun w => { w with ops := w.ops.take k } := by
      rw [hi3, List.take_length, List.take_of_length_le (by omega)]
    have hbvc := isCell_len hB.own.arr.len
    have hag := Agree.swap st [⟨[s, iA U.params, iA U.regs, iA U.code, iA U.spill, bl], 0, 0⟩] ⟨[.sc (.slice none 0 0), iA 0, iA 0, iA 0, iA 0, .sc (.slice none 0 0)], 0, 0⟩ ⟨[sz, iA U.params, iA U.regs, iA U.code, iA U.spill, blv], 0, 1⟩ (⟨[], 0, 0⟩ :: ⟨[sz, iA U.params, iA U.regs, iA U.code, iA U.spill, blv], 0, ver⟩ :: L)
    simp only [hc, k1, k2, k3, k6, k7, k8, l2, hcsz, hbvc, List.append_nil, kB, kZ, kD, xr, xu, xz, xl, xg, xk, xn, xo, xc, xd, xe, xf, xj, xm, xi, xh, reduceIte, reduceCtorEq, xw, xv, xy, xq, xb, xa, xp]
    rw [hout] at hB hZ
    exact ⟨_, rfl, ⟨_, rfl⟩, ⟨sz, blv, f, rfl, (hZ.agree hag (fun b hb _ h => by simp at h; omega)).low (by omega), (hB.agree hag (fun b hb _ h => by simp at h; omega)).low (by omega)⟩⟩
end
end Go.VX.Seat
end
section
set_option maxRecDepth 4000
namespace Go.VX.Seat
open Go.Proofs
theorem OpV.eq_iff (x y : OpV) : x = y ↔ opEq x.k x.d x.a x.b x.c x.n x.g y.k y.d y.a y.b y.c y.n y.g = true := by
  rw [opEq_iff]
  cases x; cases y
  simp
section
variable {X : Cx} {st : St}
theorem BlkV.eq_iff (x y : BlkV) : x = y ↔ (x.ops = y.ops ∧ endEq x.e.k x.e.a x.e.t x.e.e y.e.k y.e.a y.e.t y.e.e = true ∧ x.catch_ = y.catch_) := by
  rw [endEq_iff]
  cases x; cases y
  simp only [BlkV.mk.injEq]
  rename_i o1 e1 c1 o2 e2 c2
  cases e1; cases e2
  simp
end
end Go.VX.Seat
end
section
set_option maxRecDepth 4000
namespace Go.VX.Seat
open Go.Proofs
theorem cod_ext {U V : CodV} (h1 : U.sizes = V.sizes) (h2 : U.params = V.params) (h3 : U.regs = V.regs) (h4 : U.code = V.code) (h5 : U.spill = V.spill) (h6 : U.words = V.words) : U = V := by
  cases U; cases V; simp_all
def FitsC (U : CodV) : Prop := (U.sizes.length : Int) < 4611686018427387904 ∧ (U.words.length : Int) < 4611686018427387904 ∧ ∀ b ∈ U.words, (b.ops.length : Int) < 4611686018427387904
section
variable {X : Cx} {st : St}
end
end Go.VX.Seat
end
section
set_option maxRecDepth 4000
namespace Go.VX.Seat
open Go.Proofs
theorem preA_box26 {v w : AV} {esz n : Nat} (h : preA v esz n = some w) : boxOf w = boxOf v := by
  unfold preA at h
  split at h
  · split at h
    · cases h; rfl
    · cases h
  · split at h
    · cases h; rfl
    · cases h
  · cases h
theorem opR_preW {X : Cx} {K : Env → St → Post3 → Prop} {Q : Post3} {d : Option Nat} {k : List VOpd} {env : Env} {s : St} {lo hi esz n : Nat} {x y : VOpd} {rows : List (List AV)} {vx : AV} (ex : x.ev env = vx) (ey : asNat? (y.ev env) = some n) (hx : ArrAt s lo hi vx esz rows) (hn : n ≤ rows.length)
    (h : ∀ w, ArrAt s lo hi w esz (rows.take n) → boxOf w = boxOf vx → keptA env s s k = true ∧ K (env.put d w) s Q) : opR X K d k env s Q (vop X.P (.slice none esz x none (some y) none) env s) := by
  subst ex
  obtain ⟨w, hw, ha⟩ := hx.pre n hn
  rw [v_slice_pre X.P env s esz x y n ey, hw]
  exact h w ha (preA_box26 hw)
structure WrdM (s : St) (lo : Nat) (bl : AV) (f : Nat → AV) (l : List WrdV) : Prop where
  arr : ArrAt s lo s.length bl 2 (wrdRows l f)
  box : ExactBox s bl 2 (wrdRows l f)
  ops : ∀ i (h : i < l.length), OpsAt s lo s.length (f i) l[i].ops
  sep : ∀ i, i < l.length → ∀ b, boxOf bl = some b → boxOf (f i) ≠ some b
  bnd : ∀ b, boxOf bl = some b → lo ≤ b ∧ b < s.length
  fbnd : ∀ i, i < l.length → ∀ b, boxOf (f i) = some b → lo ≤ b ∧ b < s.length
theorem OwnW.wm {s : St} {lo : Nat} {bl : AV} {f : Nat → AV} {l : List WrdV} (h : OwnW s lo bl f l) : WrdM s lo bl f l := ⟨h.own.arr, h.box, fun i hi => (h.ops i hi).arr, h.sep1, h.own.bnd, fun i hi => (h.ops i hi).bnd⟩
theorem WrdM.wrds {s : St} {lo : Nat} {bl : AV} {f : Nat → AV} {l : List WrdV} (h : WrdM s lo bl f l) : WrdsAt s lo s.length bl l := ⟨f, h.arr, h.ops⟩
theorem wrdRows_row (l : List WrdV) (f : Nat → AV) : ∀ r ∈ wrdRows l f, r.length = 2 := fun r hr => by
  unfold wrdRows at hr
  obtain ⟨i, h, rfl⟩ := List.mem_iff_getElem.1 hr
  simp [WrdV.row]
theorem wrdRows_get (l : List WrdV) (f : Nat → AV) (i : Nat) (h : i < (wrdRows l f).length) : (wrdRows l f)[i] = (l[i]'(by rw [wrdRows_length] at h; exact h)).row (f i) := by simp [wrdRows]
theorem wrdRows_put (l : List WrdV) (f : Nat → AV) (i : Nat) (h : i < l.length) (w : AV) (o : List OpV) :
    wrdRows (l.set i { l[i] with ops := o }) (fun j => if j = i then w else f j) = (wrdRows l f).set i [w, iA l[i].catch_] := by
  refine List.ext_getElem (by simp [wrdRows]) fun j h1 h2 => ?_
  rw [wrdRows_get]
  simp only [List.getElem_set]
  by_cases hj : i = j
  · subst hj
    simp [WrdV.row]
  · simp only [if_neg hj, if_neg (fun e => hj e.symm : ¬ j = i)]
    rw [wrdRows_get]
theorem WrdM.agree {X : Nat → Prop} {s s' : St} {lo : Nat} {bl : AV} {f : Nat → AV} {l : List WrdV} (h : WrdM s lo bl f l) (ha : Agree X s s') (hx : ∀ b, lo ≤ b → b < s.length → ¬ X b) : WrdM s' lo bl f l where
  arr := (h.arr.agree ha fun b hb => hx b (h.bnd b hb).1 (h.bnd b hb).2).wide ha.len
  box := h.box.agree ha fun b hb => hx b (h.bnd b hb).1 (h.bnd b hb).2
  ops := fun i hi => ((h.ops i hi).agree ha fun b hb => hx b (h.fbnd i hi b hb).1 (h.fbnd i hi b hb).2).wide ha.len
  sep := h.sep
  bnd := fun b hb => ⟨(h.bnd b hb).1, Nat.lt_of_lt_of_le (h.bnd b hb).2 ha.len⟩
  fbnd := fun i hi b hb => ⟨(h.fbnd i hi b hb).1, Nat.lt_of_lt_of_le (h.fbnd i hi b hb).2 ha.len⟩
theorem WrdM.put {s : St} {lo b ver : Nat} {full : Bool} {bl w : AV} {f : Nat → AV} {l : List WrdV} (h : WrdM s lo bl f l) (i : Nat) (hi : i < l.length) (hbl : bl = .sl b 0 l.length 2 full) (hb : s[b]? = some ⟨(wrdRows l f).flatten, 0, ver⟩) {o : List OpV}
    (hw : OpsAt s lo s.length w o) (hwb : boxOf w = boxOf (f i)) :
    WrdM (s.set b ⟨splice (wrdRows l f).flatten (i * 2 + 0) [w], 0, ver + 1⟩) lo bl (fun j => if j = i then w else f j) (l.set i { l[i] with ops := o }) := by
  have hbx : boxOf bl = some b := by rw [hbl]; rfl
  have hbl2 := (h.bnd b hbx).2
  have hir : i < (wrdRows l f).length := by rw [wrdRows_length]; exact hi
  have e1 : splice (wrdRows l f).flatten (i * 2 + 0) [w] = (wrdRows (l.set i { l[i] with ops := o }) (fun j => if j = i then w else f j)).flatten := by
    rw [flatten_set (wrdRows_row l f) i 0 hir [w] (by simp), wrdRows_put l f i hi w o, wrdRows_get]
    rfl
  rw [e1]
  have hag := Agree.set s b ⟨(wrdRows (l.set i { l[i] with ops := o }) (fun j => if j = i then w else f j)).flatten, 0, ver + 1⟩
  have hb' : (s.set b ⟨(wrdRows (l.set i { l[i] with ops := o }) (fun j => if j = i then w else f j)).flatten, 0, ver + 1⟩)[b]? = some ⟨(wrdRows (l.set i { l[i] with ops := o }) (fun j => if j = i then w else f j)).flatten, 0, ver + 1⟩ := List.getElem?_set_self hbl2
  have hlen : (wrdRows (l.set i { l[i] with ops := o }) (fun j => if j = i then w else f j)).length = l.length := by rw [wrdRows_length]; simp
  exact {
    arr := by
      rw [hbl]
      exact (ArrAt.ofBox (full := full) hb' (by decide) (wrdRows_row _ _) hlen.symm).wide' (h.bnd b hbx).1 (by simp; omega)
    box := fun _ => ⟨b, full, ver + 1, by rw [hlen]; exact hbl, hb'⟩
    ops := fun j hj => by
      simp only [List.length_set] at hj
      by_cases hji : j = i
      · subst hji
        simp only [if_true, List.getElem_set_self]
        exact (hw.agree hag fun c hc e => h.sep _ hi b hbx (by rw [← hwb, hc, e])).wide (by simp)
      · simp only [if_neg hji, List.getElem_set_ne (fun e => hji e.symm)]
        exact ((h.ops j hj).agree hag fun c hc e => h.sep j hj b hbx (by rw [hc, e])).wide (by simp)
    sep := fun j hj c hc => by
      simp only [List.length_set] at hj
      by_cases hji : j = i
      · subst hji
        simp only [if_true]
        rw [hwb]
        exact h.sep _ hi c hc
      · simp only [if_neg hji]
        exact h.sep j hj c hc
    bnd := fun c hc => by simpa using h.bnd c hc
    fbnd := fun j hj c hc => by
      simp only [List.length_set] at hj
      by_cases hji : j = i
      · subst hji
        simp only [if_true] at hc
        rw [hwb] at hc
        simpa using h.fbnd _ hi c hc
      · simp only [if_neg hji] at hc
        simpa using h.fbnd j hj c hc }
end Go.VX.Seat
end
section
set_option maxRecDepth 4000
namespace Go.VX.Seat
open Go.Proofs
open Go.VX.AV renaming cell? → xa, toV → xb
open Int renaming reduceAdd → xc, reduceLE → xd, reduceLT → xe, reduceNeg → xf, reduceToNat → xg
open Nat renaming reduceAdd → xh, reduceEqDiff → xi, reduceLeDiff → xj, reduceMul → xk, reduceSub → xl
open Go.VX.VOpd renaming ev → xm
open Go.VX renaming asInt? → xn, asNat? → xo, cellVal → xp, cellsV → xq, fillA → xr, partsEv → xu, resOf → xv, splice → xw, tupOf → xy, zeroes → xz
def trimO (l : List OpV) : List OpV := (if decide ((l.length : Int) ≤ 400) then l.take 20 else l).take 401
def trimW (w : WrdV) : WrdV := { w with ops := trimO w.ops }
def cut26 (C : CodV) : CodV :=
  if decide (40 < (C.words.length : Int)) && decide ((C.words.length : Int) ≤ 60000) then cutC C 40 20
  else { cutC C 60001 1048576 with words := (cutC C 60001 1048576).words.map trimW }
structure Tr26 (st : St) (C Z T : Box) (ml : Nat) (sz bl : AV) (zs : List Int) (L : St) (f : Nat → AV) (l : List WrdV) : Prop where
  t : L[ml]? = some T
  w : WrdM (st ++ (C :: Z :: L)) (st.length + 2) bl f l
  z : ArrAt (st ++ (C :: Z :: L)) (st.length + 2) (st ++ (C :: Z :: L)).length sz 1 (zs.map fun n => [iA n])
theorem Tr26.get {st : St} {C Z T : Box} {ml : Nat} {sz bl : AV} {zs : List Int} {L : St} {f : Nat → AV} {l : List WrdV} (h : Tr26 st C Z T ml sz bl zs L f l) (i : Nat) (hi : i < l.length) {b : Nat} (hb : boxOf bl = some b) :
    elemA bl 2 (i : Int) = some (.ptr b (i * 2)) ∧ St.at1 (st ++ (C :: Z :: L)) b (i * 2 + 0) = some (f i) ∧ lenA (f i) = some l[i].ops.length := by
  have hir : i < (wrdRows l f).length := by rw [wrdRows_length]; exact hi
  obtain ⟨b', full, ver, hbl, hbx⟩ := h.w.box (fun e => by rw [e] at hir; simp at hir)
  have e : b' = b := by rw [hbl] at hb; cases hb; rfl
  subst e
  obtain ⟨b1, o1, he1, _, ha1, _⟩ := h.w.arr.get i hir
  have hel : elemA bl 2 (i : Int) = some (.ptr b' (i * 2)) := by
    rw [hbl, elemA_sl, if_pos ⟨by omega, by omega, rfl⟩]
    simp
  rw [hel] at he1
  cases he1
  have h1 := ha1 [] 0 (by omega)
  rw [List.append_nil, wrdRows_get] at h1
  refine ⟨hel, h1, ?_⟩
  have := (h.w.ops i hi).len
  simpa using this
theorem Tr26.step {st : St} {C Z T : Box} {ml : Nat} {sz bl : AV} {zs : List Int} {L : St} {f : Nat → AV} {l : List WrdV} (h : Tr26 st C Z T ml sz bl zs L f l) (i : Nat) (hi : i < l.length) {b : Nat} (hb : boxOf bl = some b) (hb3 : b ≠ st.length + (ml + 1 + 1)) (hzb : boxOf sz ≠ some b)
    {w : AV} {o : List OpV} (hw : OpsAt (st ++ (C :: Z :: L)) (st.length + 2) (st ++ (C :: Z :: L)).length w o) (hwb : boxOf w = boxOf (f i)) (hwc : w.isCell = true) :
    ∃ L', St.put (st ++ (C :: Z :: L)) b (i * 2 + 0) [w] = some (st ++ (C :: Z :: L')) ∧ Tr26 st C Z T ml sz bl zs L' (fun j => if j = i then w else f j) (l.set i { l[i] with ops := o }) := by
  have hir : i < (wrdRows l f).length := by rw [wrdRows_length]; exact hi
  obtain ⟨b', full, ver, hbl, hbx⟩ := h.w.box (fun e => by rw [e] at hir; simp at hir)
  have e : b' = b := by rw [hbl] at hb; cases hb; rfl
  subst e
  have hbb := h.w.bnd b' hb
  have hfl : (wrdRows l f).flatten.length = (wrdRows l f).length * 2 := by
    have : ∀ (r : List (List AV)), (∀ x ∈ r, x.length = 2) → r.flatten.length = r.length * 2 := fun r => by
      induction r with
      | nil => intro _; rfl
      | cons x r ih => intro hr; rw [List.flatten_cons, List.length_append, hr x (by simp), ih fun y hy => hr y (by simp [hy]), List.length_cons]; omega
    exact this _ (wrdRows_row l f)
  have hput := put_box (vs := [w]) (o := i * 2 + 0) hbx (by rw [hfl]; simp; omega) (by simp [hwc])
  rw [wrdRows_length] at hbl
  have hW := h.w.put i hi hbl hbx hw hwb
  have hag := Agree.set (st ++ (C :: Z :: L)) b' ⟨splice (wrdRows l f).flatten (i * 2 + 0) [w], 0, ver + 1⟩
  obtain ⟨L', hL'⟩ := Agree.shape (st := st) (M := [C, Z]) (N := L) hag (fun c hc => by rw [hc]; simpa using hbb.1)
  simp only [List.cons_append, List.nil_append] at hL'
  rw [hL'] at hput hW hag
  refine ⟨L', hput, ?_, hW, ?_⟩
  · have hml := (List.getElem?_eq_some_iff.1 h.t).1
    have h1 := hag.eq (st.length + (ml + 1 + 1)) (by simp; omega) (fun e => hb3 e.symm)
    rw [List.getElem?_append_right (by omega), List.getElem?_append_right (by omega), Nat.add_sub_cancel_left, List.getElem?_cons_succ, List.getElem?_cons_succ, List.getElem?_cons_succ, List.getElem?_cons_succ] at h1
    rw [h1]
    exact h.t
  · exact (h.z.agree hag fun c hc e => hzb (by rw [hc, e])).wide hag.len
section
variable {X : Cx} {st : St}
set_option maxHeartbeats 2000000 in
theorem w_l26_cut (h : On X) {lo hi : Nat} {v : AV} {U : CodV} (hv : CodAt st lo hi v U) :
    wpF X 10 [v] st fun r s => ∃ w, r = .ret w ∧ (∃ m, s = st ++ m) ∧ ∃ lo hi, st.length ≤ lo ∧ CodAt s lo hi w (cut26 U) := by
  refine wpF_go (fn := v_l26_cut) (by rw [h.F]; rfl) ?_
  have hm := fun L => CodAt.mono hv L
  obtain ⟨s, bl, rfl, hs, hb⟩ := hv
  have l2 : lenA bl = some U.words.length := by
    obtain ⟨f, hb, _⟩ := hb
    have := hb.len
    simpa using this
  clear hs hb
  simp only [v_l26_cut, l2, kB, kZ, kD, xr, xu, xz, xl, xg, xk, xn, xo, xc, xd, xe, xf, xj, xm, xi, xh, reduceIte, reduceCtorEq, xw, xv, xy, xq, xb, xa, xp]
  have hcut : cut26 U = if decide (40 < (U.words.length : Int)) && decide ((U.words.length : Int) ≤ 60000) then cutC U 40 20 else { cutC U 60001 1048576 with words := (cutC U 60001 1048576).words.map trimW } := rfl
  rw [hcut]
  clear hcut
  cases hc1 : decide (40 < (U.words.length : Int)) && decide ((U.words.length : Int) ≤ 60000)
  case true =>
    rw [if_pos rfl]
    simp only [Bool.and_eq_true] at hc1
    simp only [hc1.1, hc1.2, l2, kB, kZ, kD, xr, xu, xz, xl, xg, xk, xn, xo, xc, xd, xe, xf, xj, xm, xi, xh, reduceIte, reduceCtorEq, xw, xv, xy, xq, xb, xa, xp]
    refine callO_newC (w_r26_Cut h (hm _) 40 20 (by omega) (by omega)) ?_
    intro w m hw
    obtain ⟨sz, bl2, f, rfl, hz2, hb2⟩ := hw.ex
    have hszc := isCell_len hz2.own.arr.len
    have hblc := isCell_len hb2.own.arr.len
    simp only [hszc, hblc, kB, kZ, kD, xr, xu, xz, xl, xg, xk, xn, xo, xc, xd, xe, xf, xj, xm, xi, xh, reduceIte, reduceCtorEq, xw, xv, xy, xq, xb, xa, xp]
    have hag := Agree.swap st [⟨[s, iA U.params, iA U.regs, iA U.code, iA U.spill, bl], 0, 0⟩] ⟨[.sc (.slice none 0 0), iA 0, iA 0, iA 0, iA 0, .sc (.slice none 0 0)], 0, 0⟩ ⟨[sz, iA U.params, iA U.regs, iA U.code, iA U.spill, bl2], 0, 1⟩ m
    have hl : (st ++ ([⟨[s, iA U.params, iA U.regs, iA U.code, iA U.spill, bl], 0, 0⟩, ⟨[.sc (.slice none 0 0), iA 0, iA 0, iA 0, iA 0, .sc (.slice none 0 0)], 0, 0⟩] : St)).length = st.length + 2 := by simp
    rw [hl] at hz2 hb2
    simp only [List.append_assoc, List.cons_append, List.nil_append] at hz2 hb2
    first | refine ⟨_, rfl, ⟨_, rfl⟩, ?_⟩ | refine ⟨⟨_, rfl⟩, ?_⟩
    have hO : OwnC (st ++ (⟨[s, iA U.params, iA U.regs, iA U.code, iA U.spill, bl], 0, 0⟩ :: ⟨[sz, iA U.params, iA U.regs, iA U.code, iA U.spill, bl2], 0, 1⟩ :: m)) st.length _ (cutC U 40 20) := ⟨sz, bl2, f, rfl, (hz2.agree hag (fun b hb _ h => by simp at h; omega)).low (by omega), (hb2.agree hag (fun b hb _ h => by simp at h; omega)).low (by omega)⟩
    exact ⟨_, _, Nat.le_refl _, hO.cod⟩
  have hcond : (decide (40 < (U.words.length : Int)) = true → decide ((U.words.length : Int) ≤ 60000) = false) := fun h => by rw [h] at hc1; simpa using hc1
  obtain ⟨D, hD⟩ : ∃ D, cutC U 60001 1048576 = D := ⟨_, rfl⟩
  have hDl : D.words.length ≤ 60001 := by rw [← hD]; simp [cutC]; omega
  have hwc := w_r26_Cut (st := st ++ [⟨[s, iA U.params, iA U.regs, iA U.code, iA U.spill, bl], 0, 0⟩, ⟨[.sc (.slice none 0 0), iA 0, iA 0, iA 0, iA 0, .sc (.slice none 0 0)], 0, 0⟩]) h (hm _) 60001 1048576 (by omega) (by omega)
  rw [hD] at hwc
  rw [hD]
  simp only [Bool.false_eq_true, if_false]
  obtain hc2 | ⟨hc2, hc3⟩ : decide (40 < (U.words.length : Int)) = false ∨ (decide (40 < (U.words.length : Int)) = true ∧ decide ((U.words.length : Int) ≤ 60000) = false) := by
    cases hc2 : decide (40 < (U.words.length : Int))
    · exact .inl rfl
    · exact .inr ⟨rfl, hcond hc2⟩
  · simp only [hc2, l2, kB, kZ, kD, xr, xu, xz, xl, xg, xk, xn, xo, xc, xd, xe, xf, xj, xm, xi, xh, reduceIte, reduceCtorEq, xw, xv, xy, xq, xb, xa, xp]
    refine callO_newC hwc ?_
    intro w m hw
    obtain ⟨sz, bl2, f, rfl, hz2, hb2⟩ := hw.ex
    have hszc := isCell_len hz2.own.arr.len
    have hblc := isCell_len hb2.own.arr.len
    simp only [hszc, hblc, List.append_assoc, List.cons_append, List.nil_append, kB, kZ, kD, xr, xu, xz, xl, xg, xk, xn, xo, xc, xd, xe, xf, xj, xm, xi, xh, reduceIte, reduceCtorEq, xw, xv, xy, xq, xb, xa, xp]
    have hl : (st ++ ([⟨[s, iA U.params, iA U.regs, iA U.code, iA U.spill, bl], 0, 0⟩, ⟨[.sc (.slice none 0 0), iA 0, iA 0, iA 0, iA 0, .sc (.slice none 0 0)], 0, 0⟩] : St)).length = st.length + 2 := by simp
    have hT0 : Tr26 st ⟨[s, iA U.params, iA U.regs, iA U.code, iA U.spill, bl], 0, 0⟩ ⟨[.sc (.slice none 0 0), iA 0, iA 0, iA 0, iA 0, .sc (.slice none 0 0)], 0, 0⟩ ⟨[sz, iA D.params, iA D.regs, iA D.code, iA D.spill, bl2], 0, 1⟩ m.length sz bl2 D.sizes (m ++ [⟨[sz, iA D.params, iA D.regs, iA D.code, iA D.spill, bl2], 0, 1⟩]) f D.words := by
      have e : st ++ (⟨[s, iA U.params, iA U.regs, iA U.code, iA U.spill, bl], 0, 0⟩ :: ⟨[.sc (.slice none 0 0), iA 0, iA 0, iA 0, iA 0, .sc (.slice none 0 0)], 0, 0⟩ :: (m ++ [⟨[sz, iA D.params, iA D.regs, iA D.code, iA D.spill, bl2], 0, 1⟩])) = (st ++ [⟨[s, iA U.params, iA U.regs, iA U.code, iA U.spill, bl], 0, 0⟩, ⟨[.sc (.slice none 0 0), iA 0, iA 0, iA 0, iA 0, .sc (.slice none 0 0)], 0, 0⟩] ++ m) ++ [⟨[sz, iA D.params, iA D.regs, iA D.code, iA D.spill, bl2], 0, 1⟩] := by simp
      have hag := Agree.app (fun _ => False) (st ++ [⟨[s, iA U.params, iA U.regs, iA U.code, iA U.spill, bl], 0, 0⟩, ⟨[.sc (.slice none 0 0), iA 0, iA 0, iA 0, iA 0, .sc (.slice none 0 0)], 0, 0⟩] ++ m) [⟨[sz, iA D.params, iA D.regs, iA D.code, iA D.spill, bl2], 0, 1⟩]
      rw [hl] at hb2 hz2
      refine ⟨by simp, ?_, ?_⟩
      · rw [e]; exact hb2.wm.agree hag (fun _ _ _ h => h)
      · rw [e]; exact (hz2.own.arr.agree hag (fun _ _ h => h)).wide hag.len
    have hbn : ∀ b, boxOf bl2 = some b → b ≠ st.length + (m.length + 1 + 1) ∧ boxOf sz ≠ some b := fun b hb => by
      have h1 := (hb2.own.bnd b hb).2
      refine ⟨by simp at h1; omega, fun h2 => (hz2.sep b h2).1 hb⟩
    have hszl : ∀ b, boxOf sz = some b → st.length + 2 ≤ b := fun b hb => by
      have h1 := (hz2.own.bnd b hb).1
      rw [hl] at h1
      exact h1
    have l4 : lenA bl2 = some D.words.length := by
      have := hb2.own.arr.len
      rw [wrdRows_length] at this
      exact this
    clear hz2 hb2 hw hwc
    refine loop_inv (fun n e s' => ∃ (i : Nat) (L : St) (f1 : Nat → AV), s' = st ++ (⟨[s, iA U.params, iA U.regs, iA U.code, iA U.spill, bl], 0, 0⟩ :: ⟨[.sc (.slice none 0 0), iA 0, iA 0, iA 0, iA 0, .sc (.slice none 0 0)], 0, 0⟩ :: L) ∧ e 2 = .ptr (st.length + 1) 0 ∧ e 3 = .ptr (st.length + (m.length + 1 + 1)) 0 ∧ e 4 = iA i ∧ i + n = D.words.length ∧
      Tr26 st ⟨[s, iA U.params, iA U.regs, iA U.code, iA U.spill, bl], 0, 0⟩ ⟨[.sc (.slice none 0 0), iA 0, iA 0, iA 0, iA 0, .sc (.slice none 0 0)], 0, 0⟩ ⟨[sz, iA D.params, iA D.regs, iA D.code, iA D.spill, bl2], 0, 1⟩ m.length sz bl2 D.sizes L f1 ((D.words.take i).map trimW ++ D.words.drop i)) ?_ D.words.length ?_
    case refine_2 => exact ⟨0, m ++ [⟨[sz, iA D.params, iA D.regs, iA D.code, iA D.spill, bl2], 0, 1⟩], f, rfl, rfl, rfl, rfl, by omega, by simpa using hT0⟩
    clear hT0 hl
    intro n e s' ⟨i, L, f1, hs', k2, k3, k4, him, hT⟩
    subst hs'
    have hT5 : St.at1 L m.length 5 = some bl2 := by rw [at1_box hT.t (by decide)]; rfl
    have hT6 : St.atN L m.length 0 6 = some [sz, iA D.params, iA D.regs, iA D.code, iA D.spill, bl2] := by rw [atN_box hT.t (by decide) _ _ (by simp)]; rfl
    simp only [k2, k3, k4, hT5, l4, kB, kZ, kD, xr, xu, xz, xl, xg, xk, xn, xo, xc, xd, xe, xf, xj, xm, xi, xh, reduceIte, reduceCtorEq, xw, xv, xy, xq, xb, xa, xp]
    refine condO_intro ?_ ?_ <;> intro hc
    · have hil : i < D.words.length := by have := of_decide_eq_true hc; omega
      have hll : ((D.words.take i).map trimW ++ D.words.drop i).length = D.words.length := by simp; omega
      have hgi : ((D.words.take i).map trimW ++ D.words.drop i)[i]'(by rw [hll]; exact hil) = D.words[i] := by
        rw [List.getElem_append_right (by simp; omega)]
        simp [Nat.min_eq_left (Nat.le_of_lt hil)]
      obtain ⟨b, hb⟩ : ∃ b, boxOf bl2 = some b := by
        obtain ⟨b, full, ver, hbl, _⟩ := hT.w.box (fun e => by
          have h0 : D.words.length = 0 := by
            have := congrArg List.length e
            rw [wrdRows_length, hll] at this
            exact this
          omega)
        exact ⟨b, by rw [hbl]; rfl⟩
      obtain ⟨hb3, hzb⟩ := hbn b hb
      obtain ⟨g1, g2, g3⟩ := hT.get i (by rw [hll]; exact hil) hb
      rw [hgi] at g3
      obtain ⟨l0, hl0⟩ : ∃ l0, ((D.words.take i).map trimW ++ D.words.drop i) = l0 := ⟨_, rfl⟩
      have hfin : l0.set i (trimW D.words[i]) = (D.words.take (i + 1)).map trimW ++ D.words.drop (i + 1) := by
        rw [← hl0, List.set_append_right _ _ (by simp; omega)]
        rw [← List.take_append_getElem hil, List.map_append]
        simp only [List.length_map, List.length_take, Nat.min_eq_left (Nat.le_of_lt hil), Nat.sub_self]
        rw [List.drop_eq_getElem_cons hil]
        simp only [List.set_cons_zero, List.map_cons, List.map_nil, List.append_assoc, List.cons_append, List.nil_append]
      have hi0 : i < l0.length := by rw [← hl0, hll]; exact hil
      have hg0 : l0[i] = D.words[i] := by
        have := hgi
        simp only [hl0] at this
        exact this
      rw [hl0] at hT
      clear hgi hll hl0
      simp only [k2, k3, k4, hT5, g1, g2, g3, kB, kZ, kD, xr, xu, xz, xl, xg, xk, xn, xo, xc, xd, xe, xf, xj, xm, xi, xh, reduceIte, reduceCtorEq, xw, xv, xy, xq, xb, xa, xp]
      refine anyCond m0 (fun e s' => ∃ (L' : St) (f2 : Nat → AV), s' = st ++ (⟨[s, iA U.params, iA U.regs, iA U.code, iA U.spill, bl], 0, 0⟩ :: ⟨[.sc (.slice none 0 0), iA 0, iA 0, iA 0, iA 0, .sc (.slice none 0 0)], 0, 0⟩ :: L') ∧ e 2 = .ptr (st.length + 1) 0 ∧ e 3 = .ptr (st.length + (m.length + 1 + 1)) 0 ∧ e 4 = iA i ∧ e 5 = .ptr b (i * 2) ∧
        Tr26 st ⟨[s, iA U.params, iA U.regs, iA U.code, iA U.spill, bl], 0, 0⟩ ⟨[.sc (.slice none 0 0), iA 0, iA 0, iA 0, iA 0, .sc (.slice none 0 0)], 0, 0⟩ ⟨[sz, iA D.params, iA D.regs, iA D.code, iA D.spill, bl2], 0, 1⟩ m.length sz bl2 D.sizes L' f2 (l0.set i { l0[i] with ops := if decide ((D.words[i].ops.length : Int) ≤ 400) then D.words[i].ops.take 20 else D.words[i].ops })) ?_ ?_
      · refine condO_intro ?_ ?_ <;> intro hc4
        · have hml : min (D.words[i].ops.length : Int) 20 = ((min D.words[i].ops.length 20 : Nat) : Int) := by omega
          have hmt : D.words[i].ops.take (min D.words[i].ops.length 20) = D.words[i].ops.take 20 := by
            rcases Nat.le_total D.words[i].ops.length 20 with h | h
            · rw [Nat.min_eq_left h, List.take_length, List.take_of_length_le h]
            · rw [Nat.min_eq_right h]
          have hops := hT.w.ops i hi0
          rw [hg0] at hops
          simp only [hc4, k2, k3, k4, hT5, g1, g2, g3, kB, kZ, kD, xr, xu, xz, xl, xg, xk, xn, xo, xc, xd, xe, xf, xj, xm, xi, xh, reduceIte, reduceCtorEq, xw, xv, xy, xq, xb, xa, xp]
          refine opR_preW (vx := f1 i) (n := min D.words[i].ops.length 20) (lo := st.length + 2) (hi := _) (rows := D.words[i].ops.map OpV.row) (by simp only [kB, kZ, kD, xr, xu, xz, xl, xg, xk, xn, xo, xc, xd, xe, xf, xj, xm, xi, xh, reduceIte, reduceCtorEq, xw, xv, xy, xq, xb, xa, xp]) (by rw [hml]; simp only [kB, kZ, kD, xr, xu, xz, xl, xg, xk, xn, xo, xc, xd, xe, xf, xj, xm, xi, xh, reduceIte, reduceCtorEq, xw, xv, xy, xq, xb, xa, xp]; rw [if_pos (by omega)]) hops (by simp; omega) ?_
          intro w1 hw1 hwb1
          rw [← List.map_take, hmt] at hw1
          have hw1l := hw1.len
          have hwc1 := isCell_len hw1l
          have hwo1 := cellsOf_len hw1l
          obtain ⟨L', hput, hT'⟩ := hT.step i hi0 hb hb3 hzb hw1 hwb1 hwc1
          simp only [hwc1, hwo1, hput, hc4, if_true, k2, k3, k4, kB, kZ, kD, xr, xu, xz, xl, xg, xk, xn, xo, xc, xd, xe, xf, xj, xm, xi, xh, reduceIte, reduceCtorEq, xw, xv, xy, xq, xb, xa, xp]
          exact ⟨L', _, rfl, hT'⟩
        · simp only [hc4, k2, k3, k4, Bool.false_eq_true, if_false, kB, kZ, kD, xr, xu, xz, xl, xg, xk, xn, xo, xc, xd, xe, xf, xj, xm, xi, xh, reduceIte, reduceCtorEq, xw, xv, xy, xq, xb, xa, xp]
          have hse : l0.set i { l0[i] with ops := D.words[i].ops } = l0 := by
            rw [show ({ l0[i] with ops := D.words[i].ops } : WrdV) = l0[i] from by rw [hg0]]
            exact List.set_getElem_self _
          exact ⟨L, f1, rfl, by rw [hse]; exact hT⟩
      clear hT g1 g2 g3 hT5 hT6 k2 k3 k4
      rintro e s' ⟨L', f2, rfl, k2, k3, k4, k5, hT⟩
      obtain ⟨o1, ho1⟩ : ∃ o1, (if decide ((D.words[i].ops.length : Int) ≤ 400) then D.words[i].ops.take 20 else D.words[i].ops) = o1 := ⟨_, rfl⟩
      rw [ho1] at hT
      have hi1 : i < (l0.set i { l0[i] with ops := o1 }).length := by rw [List.length_set]; exact hi0
      obtain ⟨g1, g2, g3⟩ := hT.get i hi1 hb
      have hops := hT.w.ops i hi1
      simp only [List.getElem_set_self] at g3 hops
      have hml : min (o1.length : Int) 401 = ((min o1.length 401 : Nat) : Int) := by omega
      have hmt : o1.take (min o1.length 401) = o1.take 401 := by
        rcases Nat.le_total o1.length 401 with h | h
        · rw [Nat.min_eq_left h, List.take_length, List.take_of_length_le h]
        · rw [Nat.min_eq_right h]
      simp only [k2, k3, k4, k5, g1, g2, g3, kB, kZ, kD, xr, xu, xz, xl, xg, xk, xn, xo, xc, xd, xe, xf, xj, xm, xi, xh, reduceIte, reduceCtorEq, xw, xv, xy, xq, xb, xa, xp]
      refine opR_preW (vx := f2 i) (n := min o1.length 401) (lo := st.length + 2) (hi := _) (rows := o1.map OpV.row) (by simp only [kB, kZ, kD, xr, xu, xz, xl, xg, xk, xn, xo, xc, xd, xe, xf, xj, xm, xi, xh, reduceIte, reduceCtorEq, xw, xv, xy, xq, xb, xa, xp]) (by rw [hml]; simp only [kB, kZ, kD, xr, xu, xz, xl, xg, xk, xn, xo, xc, xd, xe, xf, xj, xm, xi, xh, reduceIte, reduceCtorEq, xw, xv, xy, xq, xb, xa, xp]; rw [if_pos (by omega)]) hops (by simp; omega) ?_
      intro w1 hw1 hwb1
      rw [← List.map_take, hmt] at hw1
      have hw1l := hw1.len
      have hwc1 := isCell_len hw1l
      have hwo1 := cellsOf_len hw1l
      obtain ⟨L2, hput, hT'⟩ := hT.step i hi1 hb hb3 hzb hw1 hwb1 hwc1
      have hwr : IntKind.wrap .i64 ((i : Int) + 1) = ((i + 1 : Nat) : Int) := by rw [wrap_small (by omega) (by omega)]; omega
      have hend : (l0.set i { l0[i] with ops := o1 }).set i { (l0.set i { l0[i] with ops := o1 })[i] with ops := o1.take 401 } = (D.words.take (i + 1)).map trimW ++ D.words.drop (i + 1) := by
        rw [← hfin, List.set_set]
        congr 1
        simp only [List.getElem_set_self]
        rw [← ho1]
        unfold trimW trimO
        rw [hg0]
      rw [hend] at hT'
      simp only [hwc1, hwo1, hput, hwr, k2, k3, k4, k5, kB, kZ, kD, xr, xu, xz, xl, xg, xk, xn, xo, xc, xd, xe, xf, xj, xm, xi, xh, reduceIte, reduceCtorEq, xw, xv, xy, xq, xb, xa, xp]
      exact ⟨n - 1, by omega, i + 1, L2, _, rfl, rfl, by omega, hT'⟩
    · have hi3 : i = D.words.length := by have := of_decide_eq_false hc; omega
      rw [hi3, List.take_length, List.drop_length, List.append_nil] at hT
      simp only [hc, k2, k3, k4, hT5, hT6, hszc, hblc, kB, kZ, kD, xr, xu, xz, xl, xg, xk, xn, xo, xc, xd, xe, xf, xj, xm, xi, xh, reduceIte, reduceCtorEq, xw, xv, xy, xq, xb, xa, xp]
      have hag := Agree.swap st [⟨[s, iA U.params, iA U.regs, iA U.code, iA U.spill, bl], 0, 0⟩] ⟨[.sc (.slice none 0 0), iA 0, iA 0, iA 0, iA 0, .sc (.slice none 0 0)], 0, 0⟩ ⟨[sz, iA D.params, iA D.regs, iA D.code, iA D.spill, bl2], 0, 1⟩ L
      refine ⟨⟨_, rfl⟩, st.length + 2, _, by omega, sz, bl2, rfl, ?_, (hT.w.agree hag (fun b hb _ h => by simp at h; omega)).wrds⟩
      exact (hT.z.agree hag (fun b hb h => by
        have h1 := hszl b hb
        simp at h; omega)).wide hag.len
  · simp only [hc2, hc3, l2, kB, kZ, kD, xr, xu, xz, xl, xg, xk, xn, xo, xc, xd, xe, xf, xj, xm, xi, xh, reduceIte, reduceCtorEq, xw, xv, xy, xq, xb, xa, xp]
    refine callO_newC hwc ?_
    intro w m hw
    obtain ⟨sz, bl2, f, rfl, hz2, hb2⟩ := hw.ex
    have hszc := isCell_len hz2.own.arr.len
    have hblc := isCell_len hb2.own.arr.len
    simp only [hszc, hblc, List.append_assoc, List.cons_append, List.nil_append, kB, kZ, kD, xr, xu, xz, xl, xg, xk, xn, xo, xc, xd, xe, xf, xj, xm, xi, xh, reduceIte, reduceCtorEq, xw, xv, xy, xq, xb, xa, xp]
    have hl : (st ++ ([⟨[s, iA U.params, iA U.regs, iA U.code, iA U.spill, bl], 0, 0⟩, ⟨[.sc (.slice none 0 0), iA 0, iA 0, iA 0, iA 0, .sc (.slice none 0 0)], 0, 0⟩] : St)).length = st.length + 2 := by simp
    have hT0 : Tr26 st ⟨[s, iA U.params, iA U.regs, iA U.code, iA U.spill, bl], 0, 0⟩ ⟨[.sc (.slice none 0 0), iA 0, iA 0, iA 0, iA 0, .sc (.slice none 0 0)], 0, 0⟩ ⟨[sz, iA D.params, iA D.regs, iA D.code, iA D.spill, bl2], 0, 1⟩ m.length sz bl2 D.sizes (m ++ [⟨[sz, iA D.params, iA D.regs, iA D.code, iA D.spill, bl2], 0, 1⟩]) f D.words := by
      have e : st ++ (⟨[s, iA U.params, iA U.regs, iA U.code, iA U.spill, bl], 0, 0⟩ :: ⟨[.sc (.slice none 0 0), iA 0, iA 0, iA 0, iA 0, .sc (.slice none 0 0)], 0, 0⟩ :: (m ++ [⟨[sz, iA D.params, iA D.regs, iA D.code, iA D.spill, bl2], 0, 1⟩])) = (st ++ [⟨[s, iA U.params, iA U.regs, iA U.code, iA U.spill, bl], 0, 0⟩, ⟨[.sc (.slice none 0 0), iA 0, iA 0, iA 0, iA 0, .sc (.slice none 0 0)], 0, 0⟩] ++ m) ++ [⟨[sz, iA D.params, iA D.regs, iA D.code, iA D.spill, bl2], 0, 1⟩] := by simp
      have hag := Agree.app (fun _ => False) (st ++ [⟨[s, iA U.params, iA U.regs, iA U.code, iA U.spill, bl], 0, 0⟩, ⟨[.sc (.slice none 0 0), iA 0, iA 0, iA 0, iA 0, .sc (.slice none 0 0)], 0, 0⟩] ++ m) [⟨[sz, iA D.params, iA D.regs, iA D.code, iA D.spill, bl2], 0, 1⟩]
      rw [hl] at hb2 hz2
      refine ⟨by simp, ?_, ?_⟩
      · rw [e]; exact hb2.wm.agree hag (fun _ _ _ h => h)
      · rw [e]; exact (hz2.own.arr.agree hag (fun _ _ h => h)).wide hag.len
    have hbn : ∀ b, boxOf bl2 = some b → b ≠ st.length + (m.length + 1 + 1) ∧ boxOf sz ≠ some b := fun b hb => by
      have h1 := (hb2.own.bnd b hb).2
      refine ⟨by simp at h1; omega, fun h2 => (hz2.sep b h2).1 hb⟩
    have hszl : ∀ b, boxOf sz = some b → st.length + 2 ≤ b := fun b hb => by
      have h1 := (hz2.own.bnd b hb).1
      rw [hl] at h1
      exact h1
    have l4 : lenA bl2 = some D.words.length := by
      have := hb2.own.arr.len
      rw [wrdRows_length] at this
      exact this
    clear hz2 hb2 hw hwc
    refine loop_inv (fun n e s' => ∃ (i : Nat) (L : St) (f1 : Nat → AV), s' = st ++ (⟨[s, iA U.params, iA U.regs, iA U.code, iA U.spill, bl], 0, 0⟩ :: ⟨[.sc (.slice none 0 0), iA 0, iA 0, iA 0, iA 0, .sc (.slice none 0 0)], 0, 0⟩ :: L) ∧ e 2 = .ptr (st.length + 1) 0 ∧ e 3 = .ptr (st.length + (m.length + 1 + 1)) 0 ∧ e 4 = iA i ∧ i + n = D.words.length ∧
      Tr26 st ⟨[s, iA U.params, iA U.regs, iA U.code, iA U.spill, bl], 0, 0⟩ ⟨[.sc (.slice none 0 0), iA 0, iA 0, iA 0, iA 0, .sc (.slice none 0 0)], 0, 0⟩ ⟨[sz, iA D.params, iA D.regs, iA D.code, iA D.spill, bl2], 0, 1⟩ m.length sz bl2 D.sizes L f1 ((D.words.take i).map trimW ++ D.words.drop i)) ?_ D.words.length ?_
    case refine_2 => exact ⟨0, m ++ [⟨[sz, iA D.params, iA D.regs, iA D.code, iA D.spill, bl2], 0, 1⟩], f, rfl, rfl, rfl, rfl, by omega, by simpa using hT0⟩
    clear hT0 hl
    intro n e s' ⟨i, L, f1, hs', k2, k3, k4, him, hT⟩
    subst hs'
    have hT5 : St.at1 L m.length 5 = some bl2 := by rw [at1_box hT.t (by decide)]; rfl
    have hT6 : St.atN L m.length 0 6 = some [sz, iA D.params, iA D.regs, iA D.code, iA D.spill, bl2] := by rw [atN_box hT.t (by decide) _ _ (by simp)]; rfl
    simp only [k2, k3, k4, hT5, l4, kB, kZ, kD, xr, xu, xz, xl, xg, xk, xn, xo, xc, xd, xe, xf, xj, xm, xi, xh, reduceIte, reduceCtorEq, xw, xv, xy, xq, xb, xa, xp]
    refine condO_intro ?_ ?_ <;> intro hc
    · have hil : i < D.words.length := by have := of_decide_eq_true hc; omega
      have hll : ((D.words.take i).map trimW ++ D.words.drop i).length = D.words.length := by simp; omega
      have hgi : ((D.words.take i).map trimW ++ D.words.drop i)[i]'(by rw [hll]; exact hil) = D.words[i] := by
        rw [List.getElem_append_right (by simp; omega)]
        simp [Nat.min_eq_left (Nat.le_of_lt hil)]
      obtain ⟨b, hb⟩ : ∃ b, boxOf bl2 = some b := by
        obtain ⟨b, full, ver, hbl, _⟩ := hT.w.box (fun e => by
          have h0 : D.words.length = 0 := by
            have := congrArg List.length e
            rw [wrdRows_length, hll] at this
            exact this
          omega)
        exact ⟨b, by rw [hbl]; rfl⟩
      obtain ⟨hb3, hzb⟩ := hbn b hb
      obtain ⟨g1, g2, g3⟩ := hT.get i (by rw [hll]; exact hil) hb
      rw [hgi] at g3
      obtain ⟨l0, hl0⟩ : ∃ l0, ((D.words.take i).map trimW ++ D.words.drop i) = l0 := ⟨_, rfl⟩
      have hfin : l0.set i (trimW D.words[i]) = (D.words.take (i + 1)).map trimW ++ D.words.drop (i + 1) := by
        rw [← hl0, List.set_append_right _ _ (by simp; omega)]
        rw [← List.take_append_getElem hil, List.map_append]
        simp only [List.length_map, List.length_take, Nat.min_eq_left (Nat.le_of_lt hil), Nat.sub_self]
        rw [List.drop_eq_getElem_cons hil]
        simp only [List.set_cons_zero, List.map_cons, List.map_nil, List.append_assoc, List.cons_append, List.nil_append]
      have hi0 : i < l0.length := by rw [← hl0, hll]; exact hil
      have hg0 : l0[i] = D.words[i] := by
        have := hgi
        simp only [hl0] at this
        exact this
      rw [hl0] at hT
      clear hgi hll hl0
      simp only [k2, k3, k4, hT5, g1, g2, g3, kB, kZ, kD, xr, xu, xz, xl, xg, xk, xn, xo, xc, xd, xe, xf, xj, xm, xi, xh, reduceIte, reduceCtorEq, xw, xv, xy, xq, xb, xa, xp]
      refine anyCond m0 (fun e s' => ∃ (L' : St) (f2 : Nat → AV), s' = st ++ (⟨[s, iA U.params, iA U.regs, iA U.code, iA U.spill, bl], 0, 0⟩ :: ⟨[.sc (.slice none 0 0), iA 0, iA 0, iA 0, iA 0, .sc (.slice none 0 0)], 0, 0⟩ :: L') ∧ e 2 = .ptr (st.length + 1) 0 ∧ e 3 = .ptr (st.length + (m.length + 1 + 1)) 0 ∧ e 4 = iA i ∧ e 5 = .ptr b (i * 2) ∧
        Tr26 st ⟨[s, iA U.params, iA U.regs, iA U.code, iA U.spill, bl], 0, 0⟩ ⟨[.sc (.slice none 0 0), iA 0, iA 0, iA 0, iA 0, .sc (.slice none 0 0)], 0, 0⟩ ⟨[sz, iA D.params, iA D.regs, iA D.code, iA D.spill, bl2], 0, 1⟩ m.length sz bl2 D.sizes L' f2 (l0.set i { l0[i] with ops := if decide ((D.words[i].ops.length : Int) ≤ 400) then D.words[i].ops.take 20 else D.words[i].ops })) ?_ ?_
      · refine condO_intro ?_ ?_ <;> intro hc4
        · have hml : min (D.words[i].ops.length : Int) 20 = ((min D.words[i].ops.length 20 : Nat) : Int) := by omega
          have hmt : D.words[i].ops.take (min D.words[i].ops.length 20) = D.words[i].ops.take 20 := by
            rcases Nat.le_total D.words[i].ops.length 20 with h | h
            · rw [Nat.min_eq_left h, List.take_length, List.take_of_length_le h]
            · rw [Nat.min_eq_right h]
          have hops := hT.w.ops i hi0
          rw [hg0] at hops
          simp only [hc4, k2, k3, k4, hT5, g1, g2, g3, kB, kZ, kD, xr, xu, xz, xl, xg, xk, xn, xo, xc, xd, xe, xf, xj, xm, xi, xh, reduceIte, reduceCtorEq, xw, xv, xy, xq, xb, xa, xp]
          refine opR_preW (vx := f1 i) (n := min D.words[i].ops.length 20) (lo := st.length + 2) (hi := _) (rows := D.words[i].ops.map OpV.row) (by simp only [kB, kZ, kD, xr, xu, xz, xl, xg, xk, xn, xo, xc, xd, xe, xf, xj, xm, xi, xh, reduceIte, reduceCtorEq, xw, xv, xy, xq, xb, xa, xp]) (by rw [hml]; simp only [kB, kZ, kD, xr, xu, xz, xl, xg, xk, xn, xo, xc, xd, xe, xf, xj, xm, xi, xh, reduceIte, reduceCtorEq, xw, xv, xy, xq, xb, xa, xp]; rw [if_pos (by omega)]) hops (by simp; omega) ?_
          intro w1 hw1 hwb1
          rw [← List.map_take, hmt] at hw1
          have hw1l := hw1.len
          have hwc1 := isCell_len hw1l
          have hwo1 := cellsOf_len hw1l
          obtain ⟨L', hput, hT'⟩ := hT.step i hi0 hb hb3 hzb hw1 hwb1 hwc1
          simp only [hwc1, hwo1, hput, hc4, if_true, k2, k3, k4, kB, kZ, kD, xr, xu, xz, xl, xg, xk, xn, xo, xc, xd, xe, xf, xj, xm, xi, xh, reduceIte, reduceCtorEq, xw, xv, xy, xq, xb, xa, xp]
          exact ⟨L', _, rfl, hT'⟩
        · simp only [hc4, k2, k3, k4, Bool.false_eq_true, if_false, kB, kZ, kD, xr, xu, xz, xl, xg, xk, xn, xo, xc, xd, xe, xf, xj, xm, xi, xh, reduceIte, reduceCtorEq, xw, xv, xy, xq, xb, xa, xp]
          have hse : l0.set i { l0[i] with ops := D.words[i].ops } = l0 := by
            rw [show ({ l0[i] with ops := D.words[i].ops } : WrdV) = l0[i] from by rw [hg0]]
            exact List.set_getElem_self _
          exact ⟨L, f1, rfl, by rw [hse]; exact hT⟩
      clear hT g1 g2 g3 hT5 hT6 k2 k3 k4
      rintro e s' ⟨L', f2, rfl, k2, k3, k4, k5, hT⟩
      obtain ⟨o1, ho1⟩ : ∃ o1, (if decide ((D.words[i].ops.length : Int) ≤ 400) then D.words[i].ops.take 20 else D.words[i].ops) = o1 := ⟨_, rfl⟩
      rw [ho1] at hT
      have hi1 : i < (l0.set i { l0[i] with ops := o1 }).length := by rw [List.length_set]; exact hi0
      obtain ⟨g1, g2, g3⟩ := hT.get i hi1 hb
      have hops := hT.w.ops i hi1
      simp only [List.getElem_set_self] at g3 hops
      have hml : min (o1.length : Int) 401 = ((min o1.length 401 : Nat) : Int) := by omega
      have hmt : o1.take (min o1.length 401) = o1.take 401 := by
        rcases Nat.le_total o1.length 401 with h | h
        · rw [Nat.min_eq_left h, List.take_length, List.take_of_length_le h]
        · rw [Nat.min_eq_right h]
      simp only [k2, k3, k4, k5, g1, g2, g3, kB, kZ, kD, xr, xu, xz, xl, xg, xk, xn, xo, xc, xd, xe, xf, xj, xm, xi, xh, reduceIte, reduceCtorEq, xw, xv, xy, xq, xb, xa, xp]
      refine opR_preW (vx := f2 i) (n := min o1.length 401) (lo := st.length + 2) (hi := _) (rows := o1.map OpV.row) (by simp only [kB, kZ, kD, xr, xu, xz, xl, xg, xk, xn, xo, xc, xd, xe, xf, xj, xm, xi, xh, reduceIte, reduceCtorEq, xw, xv, xy, xq, xb, xa, xp]) (by rw [hml]; simp only [kB, kZ, kD, xr, xu, xz, xl, xg, xk, xn, xo, xc, xd, xe, xf, xj, xm, xi, xh, reduceIte, reduceCtorEq, xw, xv, xy, xq, xb, xa, xp]; rw [if_pos (by omega)]) hops (by simp; omega) ?_
      intro w1 hw1 hwb1
      rw [← List.map_take, hmt] at hw1
      have hw1l := hw1.len
      have hwc1 := isCell_len hw1l
      have hwo1 := cellsOf_len hw1l
      obtain ⟨L2, hput, hT'⟩ := hT.step i hi1 hb hb3 hzb hw1 hwb1 hwc1
      have hwr : IntKind.wrap .i64 ((i : Int) + 1) = ((i + 1 : Nat) : Int) := by rw [wrap_small (by omega) (by omega)]; omega
      have hend : (l0.set i { l0[i] with ops := o1 }).set i { (l0.set i { l0[i] with ops := o1 })[i] with ops := o1.take 401 } = (D.words.take (i + 1)).map trimW ++ D.words.drop (i + 1) := by
        rw [← hfin, List.set_set]
        congr 1
        simp only [List.getElem_set_self]
        rw [← ho1]
        unfold trimW trimO
        rw [hg0]
      rw [hend] at hT'
      simp only [hwc1, hwo1, hput, hwr, k2, k3, k4, k5, kB, kZ, kD, xr, xu, xz, xl, xg, xk, xn, xo, xc, xd, xe, xf, xj, xm, xi, xh, reduceIte, reduceCtorEq, xw, xv, xy, xq, xb, xa, xp]
      exact ⟨n - 1, by omega, i + 1, L2, _, rfl, rfl, by omega, hT'⟩
    · have hi3 : i = D.words.length := by have := of_decide_eq_false hc; omega
      rw [hi3, List.take_length, List.drop_length, List.append_nil] at hT
      simp only [hc, k2, k3, k4, hT5, hT6, hszc, hblc, kB, kZ, kD, xr, xu, xz, xl, xg, xk, xn, xo, xc, xd, xe, xf, xj, xm, xi, xh, reduceIte, reduceCtorEq, xw, xv, xy, xq, xb, xa, xp]
      have hag := Agree.swap st [⟨[s, iA U.params, iA U.regs, iA U.code, iA U.spill, bl], 0, 0⟩] ⟨[.sc (.slice none 0 0), iA 0, iA 0, iA 0, iA 0, .sc (.slice none 0 0)], 0, 0⟩ ⟨[sz, iA D.params, iA D.regs, iA D.code, iA D.spill, bl2], 0, 1⟩ L
      refine ⟨⟨_, rfl⟩, st.length + 2, _, by omega, sz, bl2, rfl, ?_, (hT.w.agree hag (fun b hb _ h => by simp at h; omega)).wrds⟩
      exact (hT.z.agree hag (fun b hb h => by
        have h1 := hszl b hb
        simp at h; omega)).wide hag.len
end
end Go.VX.Seat
end
section
set_option maxRecDepth 4000
namespace Go.VX.Seat
open Go.Proofs
open Go.VX.AV renaming cell? → xa, toV → xb
open Int renaming reduceAdd → xc, reduceLE → xd, reduceLT → xe, reduceNeg → xf, reduceToNat → xg
open Nat renaming reduceAdd → xh, reduceEqDiff → xi, reduceLeDiff → xj, reduceMul → xk, reduceSub → xl
open Go.VX.VOpd renaming ev → xm
open Go.VX renaming asInt? → xn, asNat? → xo, cellVal → xp, cellsV → xq, fillA → xr, partsEv → xu, resOf → xv, splice → xw, tupOf → xy, zeroes → xz
section
variable {X : Cx} {st : St}
set_option maxHeartbeats 2000000 in
theorem j_r26_Same (h : On X) {lo hi lo' hi' : Nat} {v w : AV} {U V : CodV} (hv : CodAt st lo hi v U) (hw : CodAt st lo' hi' w V) (hf : FitsC U) :
    J X.P X.F X.H (.call 23 [v, w] st (.ret (bA (decide (U = V)))) st) := by
  refine pure_intro (by rw [h.F]; rfl) rfl ?_
  obtain ⟨s, bl, rfl, hs, fb, hb, hbo⟩ := hv
  obtain ⟨s', bl', rfl, hs', fb', hb', hbo'⟩ := hw
  have l1 := hs.len
  have l2 := hs'.len
  have l3 := hb.len
  have l4 := hb'.len
  simp only [List.length_map, List.length_mapIdx] at l1 l2 l3 l4
  have fin : ∀ (h : U ≠ V), decide (U = V) = false := fun h => decide_eq_false h
  simp only [v_r26_Same, kB, kZ, kD, xr, xu, xz, xl, xg, xk, xn, xo, xc, xd, xe, xf, xj, xm, xi, xh, reduceIte, reduceCtorEq, xw, xv, xy, xq, xb, xa, xp]
  by_cases h1 : U.params = V.params
  case neg =>
    simp only [fin (fun e => h1 (by rw [e])), ne_eq, h1, not_false_eq_true, not_true_eq_false, decide_true, decide_false, l1, l2, l3, l4, kB, kZ, kD, xr, xu, xz, xl, xg, xk, xn, xo, xc, xd, xe, xf, xj, xm, xi, xh, reduceIte, reduceCtorEq, xw, xv, xy, xq, xb, xa, xp]
    first | exact ⟨_, rfl⟩ | exact ⟨rfl, _, rfl⟩ | exact ⟨trivial, _, rfl⟩ | exact ⟨[], (List.append_nil _).symm⟩
  by_cases h2 : U.regs = V.regs
  case neg =>
    simp only [fin (fun e => h2 (by rw [e])), ne_eq, h1, h2, not_false_eq_true, not_true_eq_false, decide_true, decide_false, l1, l2, l3, l4, kB, kZ, kD, xr, xu, xz, xl, xg, xk, xn, xo, xc, xd, xe, xf, xj, xm, xi, xh, reduceIte, reduceCtorEq, xw, xv, xy, xq, xb, xa, xp]
    first | exact ⟨_, rfl⟩ | exact ⟨rfl, _, rfl⟩ | exact ⟨trivial, _, rfl⟩ | exact ⟨[], (List.append_nil _).symm⟩
  by_cases h3 : U.code = V.code
  case neg =>
    simp only [fin (fun e => h3 (by rw [e])), ne_eq, h1, h2, h3, not_false_eq_true, not_true_eq_false, decide_true, decide_false, l1, l2, l3, l4, kB, kZ, kD, xr, xu, xz, xl, xg, xk, xn, xo, xc, xd, xe, xf, xj, xm, xi, xh, reduceIte, reduceCtorEq, xw, xv, xy, xq, xb, xa, xp]
    first | exact ⟨_, rfl⟩ | exact ⟨rfl, _, rfl⟩ | exact ⟨trivial, _, rfl⟩ | exact ⟨[], (List.append_nil _).symm⟩
  by_cases h4 : U.spill = V.spill
  case neg =>
    simp only [fin (fun e => h4 (by rw [e])), ne_eq, h1, h2, h3, h4, not_false_eq_true, not_true_eq_false, decide_true, decide_false, l1, l2, l3, l4, kB, kZ, kD, xr, xu, xz, xl, xg, xk, xn, xo, xc, xd, xe, xf, xj, xm, xi, xh, reduceIte, reduceCtorEq, xw, xv, xy, xq, xb, xa, xp]
    first | exact ⟨_, rfl⟩ | exact ⟨rfl, _, rfl⟩ | exact ⟨trivial, _, rfl⟩ | exact ⟨[], (List.append_nil _).symm⟩
  by_cases h5 : (U.sizes.length : Int) = (V.sizes.length : Int)
  case neg =>
    simp only [fin (fun e => h5 (by rw [e])), ne_eq, h1, h2, h3, h4, h5, not_false_eq_true, not_true_eq_false, decide_true, decide_false, l1, l2, l3, l4, kB, kZ, kD, xr, xu, xz, xl, xg, xk, xn, xo, xc, xd, xe, xf, xj, xm, xi, xh, reduceIte, reduceCtorEq, xw, xv, xy, xq, xb, xa, xp]
    first | exact ⟨_, rfl⟩ | exact ⟨rfl, _, rfl⟩ | exact ⟨trivial, _, rfl⟩ | exact ⟨[], (List.append_nil _).symm⟩
  by_cases h6 : (U.words.length : Int) = (V.words.length : Int)
  case neg =>
    simp only [fin (fun e => h6 (by rw [e])), ne_eq, h1, h2, h3, h4, h5, h6, not_false_eq_true, not_true_eq_false, decide_true, decide_false, l1, l2, l3, l4, kB, kZ, kD, xr, xu, xz, xl, xg, xk, xn, xo, xc, xd, xe, xf, xj, xm, xi, xh, reduceIte, reduceCtorEq, xw, xv, xy, xq, xb, xa, xp]
    first | exact ⟨_, rfl⟩ | exact ⟨rfl, _, rfl⟩ | exact ⟨trivial, _, rfl⟩ | exact ⟨[], (List.append_nil _).symm⟩
  simp only [ne_eq, h1, h2, h3, h4, h5, h6, not_false_eq_true, not_true_eq_false, decide_true, decide_false, l1, l2, l3, l4, kB, kZ, kD, xr, xu, xz, xl, xg, xk, xn, xo, xc, xd, xe, xf, xj, xm, xi, xh, reduceIte, reduceCtorEq, xw, xv, xy, xq, xb, xa, xp]
  have n5 : U.sizes.length = V.sizes.length := by omega
  have n6 : U.words.length = V.words.length := by omega
  refine cutLoop (mB m0) [2, 3] (fun _ => U.sizes = V.sizes) ?_ ?_
  · refine loop_live [2, 3] (fun m e => ∃ i : Nat, i + m = U.sizes.length ∧ e 5 = iA i ∧ ∀ j (h1 : j < U.sizes.length) (h2 : j < V.sizes.length), j < i → U.sizes[j] = V.sizes[j]) U.sizes.length ?_ ?_
    · exact ⟨0, by omega, by simp only [kB, kZ, kD, xr, xu, xz, xl, xg, xk, xn, xo, xc, xd, xe, xf, xj, xm, xi, xh, reduceIte, reduceCtorEq, xw, xv, xy, xq, xb, xa, xp], fun j _ _ hj => absurd hj (by omega)⟩
    · intro m e hL ⟨i, him, k5, hpre⟩
      simp only [kB, kZ, kD, xr, xu, xz, xl, xg, xk, xn, xo, xc, xd, xe, xf, xj, xm, xi, xh, reduceIte, reduceCtorEq, xw, xv, xy, xq, xb, xa, xp] at hL
      obtain ⟨k2, k3⟩ := hL
      simp only [k2, k3, k5, l1, l2, kB, kZ, kD, xr, xu, xz, xl, xg, xk, xn, xo, xc, xd, xe, xf, xj, xm, xi, xh, reduceIte, reduceCtorEq, xw, xv, xy, xq, xb, xa, xp]
      refine condO_intro ?_ ?_ <;> intro hc
      · have hi : i < U.sizes.length := by have := of_decide_eq_true hc; omega
        have hi2 : i < V.sizes.length := by omega
        obtain ⟨b1, o1, he1, hn1, ha1, hm1⟩ := hs.get i (by simpa using hi)
        obtain ⟨b2, o2, he2, hn2, ha2, hm2⟩ := hs'.get i (by simpa using hi2)
        have p1 := fun L => ha1 L 0 (by omega)
        have p2 := fun L => ha2 L 0 (by omega)
        simp only [List.getElem_map, Nat.add_zero, kB, kZ, kD, xr, xu, xz, xl, xg, xk, xn, xo, xc, xd, xe, xf, xj, xm, xi, xh, reduceIte, reduceCtorEq, xw, xv, xy, xq, xb, xa, xp] at p1 p2
        simp only [k2, k3, k5, l1, l2, he1, he2, p1, p2, kB, kZ, kD, xr, xu, xz, xl, xg, xk, xn, xo, xc, xd, xe, xf, xj, xm, xi, xh, reduceIte, reduceCtorEq, xw, xv, xy, xq, xb, xa, xp]
        refine condO_intro ?_ ?_ <;> intro hq
        · have hne2 : U ≠ V := fun e => by
            subst e
            have := of_decide_eq_true hq
            simp at this
          simp only [fin hne2, k2, k3, k5, l1, l2, kB, kZ, kD, xr, xu, xz, xl, xg, xk, xn, xo, xc, xd, xe, xf, xj, xm, xi, xh, reduceIte, reduceCtorEq, xw, xv, xy, xq, xb, xa, xp]
          first | exact ⟨_, rfl⟩ | exact ⟨rfl, _, rfl⟩ | exact ⟨trivial, _, rfl⟩ | exact ⟨[], (List.append_nil _).symm⟩
        · have hwr : IntKind.wrap .i64 ((i : Int) + 1) = ((i + 1 : Nat) : Int) := by have := hf.1; rw [wrap_small (by omega) (by omega)]; omega
          simp only [k2, k3, k5, l1, l2, hwr, kB, kZ, kD, xr, xu, xz, xl, xg, xk, xn, xo, xc, xd, xe, xf, xj, xm, xi, xh, reduceIte, reduceCtorEq, xw, xv, xy, xq, xb, xa, xp]
          refine ⟨m - 1, by omega, i + 1, by omega, rfl, fun j h1 h2 hj => ?_⟩
          by_cases hji : j = i
          · subst hji
            have := of_decide_eq_false hq
            omega
          · exact hpre j (by omega) h2 (by omega)
      · have hi : i = U.sizes.length := by have := of_decide_eq_false hc; omega
        have hss : U.sizes = V.sizes := List.ext_getElem n5 fun j h1 h2 => hpre j h1 h2 (by omega)
        simp only [k2, k3, k5, l1, l2, kB, kZ, kD, xr, xu, xz, xl, xg, xk, xn, xo, xc, xd, xe, xf, xj, xm, xi, xh, reduceIte, reduceCtorEq, xw, xv, xy, xq, xb, xa, xp]
        first | exact hss | exact ⟨trivial, hss⟩ | simpa using hss
  intro e0 hL hss
  simp only [kB, kZ, kD, xr, xu, xz, xl, xg, xk, xn, xo, xc, xd, xe, xf, xj, xm, xi, xh, reduceIte, reduceCtorEq, xw, xv, xy, xq, xb, xa, xp] at hL
  obtain ⟨k2, k3⟩ := hL
  simp only [k2, k3, kB, kZ, kD, xr, xu, xz, xl, xg, xk, xn, xo, xc, xd, xe, xf, xj, xm, xi, xh, reduceIte, reduceCtorEq, xw, xv, xy, xq, xb, xa, xp]
  refine loop_live [2, 3] (fun m e => ∃ i : Nat, i + m = U.words.length ∧ e 6 = iA i ∧ ∀ j (h1 : j < U.words.length) (h2 : j < V.words.length), j < i → U.words[j] = V.words[j]) U.words.length ?_ ?_
  · exact ⟨0, by omega, by simp only [kB, kZ, kD, xr, xu, xz, xl, xg, xk, xn, xo, xc, xd, xe, xf, xj, xm, xi, xh, reduceIte, reduceCtorEq, xw, xv, xy, xq, xb, xa, xp], fun j _ _ hj => absurd hj (by omega)⟩
  · intro m e hL ⟨i, him, k6, hpre⟩
    simp only [k2, k3, kB, kZ, kD, xr, xu, xz, xl, xg, xk, xn, xo, xc, xd, xe, xf, xj, xm, xi, xh, reduceIte, reduceCtorEq, xw, xv, xy, xq, xb, xa, xp] at hL
    obtain ⟨q2, q3⟩ := hL
    simp only [q2, q3, k6, l3, l4, kB, kZ, kD, xr, xu, xz, xl, xg, xk, xn, xo, xc, xd, xe, xf, xj, xm, xi, xh, reduceIte, reduceCtorEq, xw, xv, xy, xq, xb, xa, xp]
    refine condO_intro ?_ ?_ <;> intro hc
    · have hi : i < U.words.length := by have := of_decide_eq_true hc; omega
      have hi2 : i < V.words.length := by omega
      obtain ⟨b1, o1, he1, hn1, ha1, hm1⟩ := hb.get i (by simpa using hi)
      obtain ⟨b2, o2, he2, hn2, ha2, hm2⟩ := hb'.get i (by simpa using hi2)
      have p1 := fun L => ha1 L 0 (by omega)
      have p2 := fun L => ha2 L 0 (by omega)
      have r1 := fun L => ha1 L 1 (by omega)
      have r2 := fun L => ha2 L 1 (by omega)
      simp only [List.getElem_mapIdx, WrdV.row, kB, kZ, kD, xr, xu, xz, xl, xg, xk, xn, xo, xc, xd, xe, xf, xj, xm, xi, xh, reduceIte, reduceCtorEq, xw, xv, xy, xq, xb, xa, xp] at p1 p2 r1 r2
      have m1 := (hbo i hi).len
      have m2 := (hbo' i hi2).len
      simp only [List.length_map] at m1 m2
      by_cases g1 : U.words[i].catch_ = V.words[i].catch_
      case neg =>
        have hne2 : U ≠ V := fun e => by subst e; exact g1 rfl
        simp only [fin hne2, ne_eq, g1, not_false_eq_true, not_true_eq_false, decide_true, decide_false, q2, q3, k6, l3, l4, he1, he2, p1, p2, r1, r2, m1, m2, kB, kZ, kD, xr, xu, xz, xl, xg, xk, xn, xo, xc, xd, xe, xf, xj, xm, xi, xh, reduceIte, reduceCtorEq, xw, xv, xy, xq, xb, xa, xp]
        first | exact ⟨_, rfl⟩ | exact ⟨rfl, _, rfl⟩ | exact ⟨trivial, _, rfl⟩ | exact ⟨[], (List.append_nil _).symm⟩
      by_cases g2 : (U.words[i].ops.length : Int) = (V.words[i].ops.length : Int)
      case neg =>
        have hne2 : U ≠ V := fun e => by subst e; exact g2 rfl
        simp only [fin hne2, ne_eq, g1, g2, not_false_eq_true, not_true_eq_false, decide_true, decide_false, q2, q3, k6, l3, l4, he1, he2, p1, p2, r1, r2, m1, m2, kB, kZ, kD, xr, xu, xz, xl, xg, xk, xn, xo, xc, xd, xe, xf, xj, xm, xi, xh, reduceIte, reduceCtorEq, xw, xv, xy, xq, xb, xa, xp]
        first | exact ⟨_, rfl⟩ | exact ⟨rfl, _, rfl⟩ | exact ⟨trivial, _, rfl⟩ | exact ⟨[], (List.append_nil _).symm⟩
      have hg2 : U.words[i].ops.length = V.words[i].ops.length := by omega
      simp only [ne_eq, g1, g2, not_false_eq_true, not_true_eq_false, decide_true, decide_false, q2, q3, k6, l3, l4, he1, he2, p1, p2, r1, r2, m1, m2, kB, kZ, kD, xr, xu, xz, xl, xg, xk, xn, xo, xc, xd, xe, xf, xj, xm, xi, xh, reduceIte, reduceCtorEq, xw, xv, xy, xq, xb, xa, xp]
      have hlenx := hf.2.2 U.words[i] (List.getElem_mem hi)
      refine cutLoop (mB (mB m0)) [2, 3, 6] (fun _ => U.words[i].ops = V.words[i].ops) ?_ ?_
      · refine loop_live [2, 3, 6] (fun m e => ∃ k : Nat, k + m = U.words[i].ops.length ∧ e 7 = iA k ∧ ∀ j (h1 : j < U.words[i].ops.length) (h2 : j < V.words[i].ops.length), j < k → U.words[i].ops[j] = V.words[i].ops[j]) U.words[i].ops.length ?_ ?_
        · exact ⟨0, by omega, by simp only [kB, kZ, kD, xr, xu, xz, xl, xg, xk, xn, xo, xc, xd, xe, xf, xj, xm, xi, xh, reduceIte, reduceCtorEq, xw, xv, xy, xq, xb, xa, xp], fun j _ _ hj => absurd hj (by omega)⟩
        · intro m e hL ⟨k, hkm, k7, hpre2⟩
          simp only [q2, q3, k6, kB, kZ, kD, xr, xu, xz, xl, xg, xk, xn, xo, xc, xd, xe, xf, xj, xm, xi, xh, reduceIte, reduceCtorEq, xw, xv, xy, xq, xb, xa, xp] at hL
          obtain ⟨y2, y3, y6⟩ := hL
          simp only [y2, y3, y6, k7, l3, l4, he1, he2, p1, p2, m1, m2, kB, kZ, kD, xr, xu, xz, xl, xg, xk, xn, xo, xc, xd, xe, xf, xj, xm, xi, xh, reduceIte, reduceCtorEq, xw, xv, xy, xq, xb, xa, xp]
          refine condO_intro ?_ ?_ <;> intro hc3
          · have hk1 : k < U.words[i].ops.length := by have := of_decide_eq_true hc3; omega
            have hk2 : k < V.words[i].ops.length := by omega
            obtain ⟨b3, o3, he3, hn3, _, _⟩ := (hbo i hi).get k (by simpa using hk1)
            obtain ⟨b4, o4, he4, hn4, _, _⟩ := (hbo' i hi2).get k (by simpa using hk2)
            simp only [List.getElem_map, OpV.row] at hn3 hn4
            simp only [y2, y3, y6, k7, l3, l4, he1, he2, p1, p2, m1, m2, he3, he4, hn3, hn4, h.P, c_neq_op, kB, kZ, kD, xr, xu, xz, xl, xg, xk, xn, xo, xc, xd, xe, xf, xj, xm, xi, xh, reduceIte, reduceCtorEq, xw, xv, xy, xq, xb, xa, xp]
            refine condO_intro ?_ ?_ <;> intro hq
            · have hne2 : U ≠ V := fun e => by
                subst e
                rw [(OpV.eq_iff _ _).1 rfl] at hq
                cases hq
              simp only [fin hne2, y2, y3, y6, k7, kB, kZ, kD, xr, xu, xz, xl, xg, xk, xn, xo, xc, xd, xe, xf, xj, xm, xi, xh, reduceIte, reduceCtorEq, xw, xv, xy, xq, xb, xa, xp]
              first | exact ⟨_, rfl⟩ | exact ⟨rfl, _, rfl⟩ | exact ⟨trivial, _, rfl⟩ | exact ⟨[], (List.append_nil _).symm⟩
            · have he : U.words[i].ops[k] = V.words[i].ops[k] := (OpV.eq_iff _ _).2 (by simpa using hq)
              have hwr : IntKind.wrap .i64 ((k : Int) + 1) = ((k + 1 : Nat) : Int) := by rw [wrap_small (by omega) (by omega)]; omega
              simp only [y2, y3, y6, k7, hwr, q2, q3, k6, kB, kZ, kD, xr, xu, xz, xl, xg, xk, xn, xo, xc, xd, xe, xf, xj, xm, xi, xh, reduceIte, reduceCtorEq, xw, xv, xy, xq, xb, xa, xp]
              refine ⟨m - 1, by omega, k + 1, by omega, rfl, fun j h1 h2 hj => ?_⟩
              by_cases hji : j = k
              · subst hji; exact he
              · exact hpre2 j (by omega) h2 (by omega)
          · have hk1 : k = U.words[i].ops.length := by have := of_decide_eq_false hc3; omega
            have hoo : U.words[i].ops = V.words[i].ops := List.ext_getElem hg2 fun j h1 h2 => hpre2 j h1 h2 (by omega)
            simp only [y2, y3, y6, k7, q2, q3, k6, kB, kZ, kD, xr, xu, xz, xl, xg, xk, xn, xo, xc, xd, xe, xf, xj, xm, xi, xh, reduceIte, reduceCtorEq, xw, xv, xy, xq, xb, xa, xp]
            first | exact hoo | simpa using hoo
      intro e1 hL hoo
      simp only [q2, q3, k6, kB, kZ, kD, xr, xu, xz, xl, xg, xk, xn, xo, xc, xd, xe, xf, xj, xm, xi, xh, reduceIte, reduceCtorEq, xw, xv, xy, xq, xb, xa, xp] at hL
      obtain ⟨y2, y3, y6⟩ := hL
      have hwr : IntKind.wrap .i64 ((i : Int) + 1) = ((i + 1 : Nat) : Int) := by have := hf.2.1; rw [wrap_small (by omega) (by omega)]; omega
      have hwe : U.words[i] = V.words[i] := by
        have a1 := g1
        have a2 := hoo
        generalize U.words[i] = x at *
        generalize V.words[i] = y at *
        cases x; cases y
        simp_all
      simp only [y2, y3, y6, hwr, k2, k3, kB, kZ, kD, xr, xu, xz, xl, xg, xk, xn, xo, xc, xd, xe, xf, xj, xm, xi, xh, reduceIte, reduceCtorEq, xw, xv, xy, xq, xb, xa, xp]
      refine ⟨m - 1, by omega, i + 1, by omega, rfl, fun j h1 h2 hj => ?_⟩
      by_cases hji : j = i
      · subst hji; exact hwe
      · exact hpre j (by omega) h2 (by omega)
    · have hi : i = U.words.length := by have := of_decide_eq_false hc; omega
      have hww : U.words = V.words := List.ext_getElem n6 fun j h1 h2 => hpre j h1 h2 (by omega)
      have heq : decide (U = V) = true := decide_eq_true (cod_ext hss h1 h2 h3 h4 hww)
      simp only [heq, q2, q3, k6, l3, l4, kB, kZ, kD, xr, xu, xz, xl, xg, xk, xn, xo, xc, xd, xe, xf, xj, xm, xi, xh, reduceIte, reduceCtorEq, xw, xv, xy, xq, xb, xa, xp]
      first | exact ⟨_, rfl⟩ | exact ⟨rfl, _, rfl⟩ | exact ⟨trivial, _, rfl⟩ | exact ⟨[], (List.append_nil _).symm⟩
end
end Go.VX.Seat
end
section
set_option maxRecDepth 4000
namespace Go.VX.Seat
open Go.Proofs
theorem cut26_fits (U : CodV) : FitsC (cut26 U) := by
  have hc : ∀ (n k : Nat), n ≤ 1000000 → k ≤ 2000000 → FitsC (cutC U n k) := fun n k hn hk => by
    refine ⟨by simp [cutC]; omega, by simp [cutC]; omega, fun b hb => ?_⟩
    simp only [cutC, List.mem_map] at hb
    obtain ⟨w, _, rfl⟩ := hb
    simp
    omega
  unfold cut26
  split
  · exact hc 40 20 (by omega) (by omega)
  · obtain ⟨h1, h2, h3⟩ := hc 60001 1048576 (by omega) (by omega)
    refine ⟨h1, by simpa using h2, fun b hb => ?_⟩
    simp only [List.mem_map] at hb
    obtain ⟨w, hw, rfl⟩ := hb
    show ((trimO w.ops).length : Int) < _
    unfold trimO
    simp
    omega
theorem callO_codB {X : Cx} {env : Env} {st : St} {Q : Post3} {K : Env → St → Post3 → Prop} {f : FuncId} {args : List AV} {dst : Option Nat} {keep : List VOpd} {C : CodV} (hw : wpF X f args st fun r s => ∃ w, r = .ret w ∧ (∃ m, s = st ++ m) ∧ ∃ lo hi, st.length ≤ lo ∧ CodAt s lo hi w C)
    (h : ∀ w m lo hi, st.length ≤ lo → CodAt (st ++ m) lo hi w C → K (env.put dst w) (st ++ m) Q) : callO X f args dst keep K env st Q := by
  refine wpF.mono hw ?_
  rintro r s ⟨w, rfl, ⟨m, rfl⟩, lo, hi, h0, h1⟩
  exact ⟨kept_app _ _ _ _, h w m lo hi h0 h1⟩
section
variable {X : Cx} {st : St}
end
end Go.VX.Seat
end
section
set_option maxRecDepth 4000
namespace Go.VX.Seat
open Go.Proofs
open Go.VX.AV renaming cell? → xa, toV → xb
open Int renaming reduceAdd → xc, reduceLE → xd, reduceLT → xe, reduceNeg → xf, reduceToNat → xg
open Nat renaming reduceAdd → xh, reduceEqDiff → xi, reduceLeDiff → xj, reduceMul → xk, reduceSub → xl
open Go.VX.VOpd renaming ev → xm
open Go.VX renaming asInt? → xn, asNat? → xo, cellVal → xp, cellsV → xq, fillA → xr, partsEv → xu, resOf → xv, splice → xw, tupOf → xy, zeroes → xz
theorem opsE_of {C : CodV} (h : CodOk C) {w : WrdV} (hw : w ∈ C.words) : w.ops.length ≤ 400 ∧ ∀ o ∈ w.ops, wrongE C o = 0 :=
  ⟨(wrdsR_zero h.wds w hw).1, opsR_zero (wrdsR_zero h.wds w hw).2⟩
section
variable {X : Cx} {st : St}
set_option maxHeartbeats 4000000 in
theorem j_words_Fits (h : OnH X) (hg : GB st) {lo hi : Nat} {v : AV} {C : CodV} (hv : CodAt st lo hi v C) (m : MachV) :
    J X.P X.F X.H (.call 30 [v, .agg m.row] st (.ret (iA (fitE C m))) st) := by
  refine pure_intro (by rw [h.F]; rfl) rfl ?_
  have hm := fun L => hv.mono L
  obtain ⟨s, bl, rfl, hs, hb⟩ := hv
  obtain ⟨f, hb, hbo⟩ := hb
  have l2 : lenA bl = some C.words.length := by
    have := hb.len
    simpa using this
  simp only [v_words_Fits, MachV.row, kB, kZ, kD, xr, xu, xz, xl, xg, xk, xn, xo, xc, xd, xe, xf, xj, xm, xi, xh, reduceIte, reduceCtorEq, xw, xv, xy, xq, xb, xa, xp]
  have hchk := j_words_Check h (hg.app [⟨[s, iA C.params, iA C.regs, iA C.code, iA C.spill, bl], 0, 0⟩, ⟨[iA m.u0, iA m.u1, iA m.u2, iA m.u3, iA m.l0, iA m.l1, iA m.l2, iA m.l3, iA m.regs, iA m.banks, iA m.ports], 0, 0⟩]) (hm _)
  rw [chk_eq] at hchk
  refine callO_same hchk ?_
  cases h0 : decide (chkR C ≠ 0)
  case true =>
    have hr : fitE C m = chkR C := by unfold fitE; rw [h0]; rfl
    rw [hr]
    simp only [h0, kB, kZ, kD, xr, xu, xz, xl, xg, xk, xn, xo, xc, xd, xe, xf, xj, xm, xi, xh, reduceIte, reduceCtorEq, xw, xv, xy, xq, xb, xa, xp]
    first | exact ⟨_, rfl⟩ | exact ⟨rfl, _, rfl⟩ | exact ⟨trivial, _, rfl⟩ | exact ⟨[], (List.append_nil _).symm⟩
  have hC := chkR_ok (C := C) (by have := of_decide_eq_false h0; omega)
  simp only [h0, kB, kZ, kD, xr, xu, xz, xl, xg, xk, xn, xo, xc, xd, xe, xf, xj, xm, xi, xh, reduceIte, reduceCtorEq, xw, xv, xy, xq, xb, xa, xp]
  refine callO_same (j_machine_Check h.toOn m) ?_
  cases h1 : decide (chkM m ≠ 0)
  case true =>
    have hr : fitE C m = chkM m := by unfold fitE; rw [h0, h1]; rfl
    rw [hr]
    simp only [h1, kB, kZ, kD, xr, xu, xz, xl, xg, xk, xn, xo, xc, xd, xe, xf, xj, xm, xi, xh, reduceIte, reduceCtorEq, xw, xv, xy, xq, xb, xa, xp]
    first | exact ⟨_, rfl⟩ | exact ⟨rfl, _, rfl⟩ | exact ⟨trivial, _, rfl⟩ | exact ⟨[], (List.append_nil _).symm⟩
  have hok := chkM_ok (m := m) (by have := of_decide_eq_false h1; omega)
  simp only [h1, kB, kZ, kD, xr, xu, xz, xl, xg, xk, xn, xo, xc, xd, xe, xf, xj, xm, xi, xh, reduceIte, reduceCtorEq, xw, xv, xy, xq, xb, xa, xp]
  cases h2 : decide (m.regs < C.regs)
  case true =>
    have hr : fitE C m = 3 := by unfold fitE; rw [h0, h1, h2]; rfl
    rw [hr]
    simp only [h2, kB, kZ, kD, xr, xu, xz, xl, xg, xk, xn, xo, xc, xd, xe, xf, xj, xm, xi, xh, reduceIte, reduceCtorEq, xw, xv, xy, xq, xb, xa, xp]
    first | exact ⟨_, rfl⟩ | exact ⟨rfl, _, rfl⟩ | exact ⟨trivial, _, rfl⟩ | exact ⟨[], (List.append_nil _).symm⟩
  have hrg := of_decide_eq_false h2
  have hr : fitE C m = if C.words.all (fun w => fitsU (useU m w.ops)) then 0 else 7 := by unfold fitE; rw [h0, h1, h2]; rfl
  rw [hr]
  have hn := hC.n60
  have hbk : 1 ≤ m.banks ∧ m.banks ≤ 8 := by have := okM_bnd hok; omega
  simp only [h2, l2, kB, kZ, kD, xr, xu, xz, xl, xg, xk, xn, xo, xc, xd, xe, xf, xj, xm, xi, xh, reduceIte, reduceCtorEq, xw, xv, xy, xq, xb, xa, xp]
  refine loop_inv (fun n e s' => ∃ (i : Nat) (L : St), i + n = C.words.length ∧ s' = st ++ (⟨[s, iA C.params, iA C.regs, iA C.code, iA C.spill, bl], 0, 0⟩ :: ⟨[iA m.u0, iA m.u1, iA m.u2, iA m.u3, iA m.l0, iA m.l1, iA m.l2, iA m.l3, iA m.regs, iA m.banks, iA m.ports], 0, 0⟩ :: L) ∧ e 3 = .ptr (st.length + 1) 0 ∧ e 28 = bl ∧ e 29 = iA C.words.length ∧ e 30 = iA i ∧ (C.words.take i).all (fun w => fitsU (useU m w.ops)) = true) ?_ C.words.length ?_
  case refine_2 => exact ⟨0, [], by omega, rfl, rfl, rfl, rfl, rfl, rfl⟩
  rintro n e s' ⟨i, L, him, hs', k3, k28, k29, k30, hpre⟩
  have hbx : BoxAt s' (st.length + 1) m.row := by
    rw [hs']
    exact BoxAt.of (m := 0) (v := 0) (by rw [List.getElem?_append_right (by omega)]; simp; rfl) (by decide)
  have x11 := fun L => hbx.atN L 0 11 (by simp [MachV.row])
  have hex : ∀ T : St, ∃ m, s' ++ T = st ++ m := fun T => ⟨_, by rw [hs', List.append_assoc]⟩
  have hgg : ∀ T, GB (s' ++ T) := fun T => by rw [hs', List.append_assoc]; exact hg.app _
  rw [← List.append_nil s']
  simp only [k3, k28, k29, k30, l2, kB, kZ, kD, xr, xu, xz, xl, xg, xk, xn, xo, xc, xd, xe, xf, xj, xm, xi, xh, reduceIte, reduceCtorEq, xw, xv, xy, xq, xb, xa, xp]
  refine condO_intro ?_ ?_ <;> intro hc
  · have hil : i < C.words.length := by have := of_decide_eq_true hc; omega
    have hb' : ArrAt s' lo hi bl 2 (C.words.mapIdx fun i b => b.row (f i)) := by rw [hs']; exact hb.mono _
    obtain ⟨b1, o1, he1, hn1, _, _⟩ := hb'.get i (by simpa using hil)
    simp only [List.getElem_mapIdx, WrdV.row] at hn1
    have m1 := (hbo i hil).len
    have mc := isCell_len m1
    have mcl := cellsOf_len m1
    simp only [List.length_map] at m1
    obtain ⟨hl400, hO⟩ := opsE_of hC (List.getElem_mem hil)
    have hstep : (C.words.take (i + 1)).all (fun w => fitsU (useU m w.ops)) = fitsU (useU m C.words[i].ops) := by
      rw [← List.take_append_getElem hil, List.all_append, hpre]
      simp
    have hbad : fitsU (useU m C.words[i].ops) = false → C.words.all (fun w => fitsU (useU m w.ops)) = false := fun q => List.all_eq_false.2 ⟨_, List.getElem_mem hil, by rw [q]; decide⟩
    have hoA : ∀ T, OpsAt (s' ++ T) lo hi (f i) C.words[i].ops := fun T => by rw [hs', List.append_assoc]; exact (hbo i hil).mono _
    obtain ⟨ct, hct⟩ : ∃ x, C.words[i].catch_ = x := ⟨_, rfl⟩
    obtain ⟨ops, hops⟩ : ∃ x, C.words[i].ops = x := ⟨_, rfl⟩
    obtain ⟨w, hw⟩ : ∃ x, f i = x := ⟨_, rfl⟩
    rw [hops] at hl400 hO hstep hbad
    rw [hw] at mc mcl m1
    rw [hops] at m1
    rw [hct, hw] at hn1
    rw [hops, hw] at hoA
    simp only [MachV.row] at x11
    simp only [k3, k28, k29, k30, l2, he1, hn1, mc, mcl, x11, kB, kZ, kD, xr, xu, xz, xl, xg, xk, xn, xo, xc, xd, xe, xf, xj, xm, xi, xh, reduceIte, reduceCtorEq, xw, xv, xy, xq, xb, xa, xp]
    have hnu := fun T => j_NewUse (st := s' ++ T) h.toOn m
    simp only [MachV.row] at hnu
    refine callO_same (hnu _) ?_
    simp only [k3, k28, k29, k30, m1, UseV.row, kB, kZ, kD, xr, xu, xz, xl, xg, xk, xn, xo, xc, xd, xe, xf, xj, xm, xi, xh, reduceIte, reduceCtorEq, xw, xv, xy, xq, xb, xa, xp]
    refine loop_inv (fun n2 e s2 => ∃ (k ver : Nat) (L2 : St), k + n2 = ops.length ∧ s2 = s' ++ (⟨[w, iA ct], 0, 1⟩ :: ⟨(useU m (ops.take k)).row, 0, ver⟩ :: L2) ∧ e 3 = .ptr (st.length + 1) 0 ∧ e 9 = .ptr (s'.length + 1) 0 ∧ e 28 = bl ∧ e 29 = iA C.words.length ∧ e 30 = iA i ∧ e 37 = w ∧ e 38 = iA ops.length ∧ e 39 = iA k) ?_ ops.length ?_
    case refine_2 =>
      refine ⟨0, 1, [], by omega, rfl, ?_, ?_, ?_, ?_, ?_, ?_, ?_, ?_⟩ <;> simp only [k3, k28, k29, k30, kB, kZ, kD, xr, xu, xz, xl, xg, xk, xn, xo, xc, xd, xe, xf, xj, xm, xi, xh, reduceIte, reduceCtorEq, xw, xv, xy, xq, xb, xa, xp]
    clear k3 k28 k29 k30
    rintro n2 e s2 ⟨k, ver, L2, hkn, rfl, k3, k9, k28, k29, k30, k37, k38, k39⟩
    have hrl : (useU m (ops.take k)).row.length = 23 := rfl
    simp only [k3, k9, k28, k29, k30, k37, k38, k39, kB, kZ, kD, xr, xu, xz, xl, xg, xk, xn, xo, xc, xd, xe, xf, xj, xm, xi, xh, reduceIte, reduceCtorEq, xv, xy, xq, xb, xa, xp]
    refine condO_intro ?_ ?_ <;> intro hc2
    · have hk : k < ops.length := by have := of_decide_eq_true hc2; omega
      obtain ⟨b3, o3, he3, hn3, _, _⟩ := (hoA []).get k (by simpa using hk)
      have hn4 : ∀ T, St.atN (s' ++ T) b3 o3 7 = some ops[k].row := fun T => by have := hn3 T; rw [List.append_nil] at this; simpa using this
      have hlk : (ops.take k).length ≤ 400 := by simp; omega
      have hub := useU_bnds (m := m) hlk
      have hokO := okOp_of (m := m) (hO _ (List.getElem_mem hk)) (by omega)
      have hst := useU_take (m := m) hk
      have hum : (useU m (ops.take k)).m = m := useU_m m _ _ rfl
      have hwith := fun T => j_With (st := s' ++ T) h.toOn (hgg T).glob (useU m (ops.take k)) ops[k] hokO.2.1 (by rw [hum]; exact hbk) hokO.2.2 hub.1 hub.2
      have hwr : IntKind.wrap .i64 ((k : Int) + 1) = ((k + 1 : Nat) : Int) := by rw [wrap_small (by omega) (by omega)]; omega
      rw [← hst] at hwith
      obtain ⟨op, hop⟩ : ∃ x, ops[k] = x := ⟨_, rfl⟩
      rw [hop] at hn4 hwith
      generalize useU m (ops.take k) = U1 at *
      generalize hU2 : useU m (ops.take (k + 1)) = U2 at *
      simp only [OpV.row] at hn4 hwith
      have sp7 : splice [.sc (.int .i64 0), .sc (.int .i64 0), .sc (.int .i64 0), .sc (.int .i64 0), .sc (.int .i64 0), .sc (.int .i64 0), .sc (.int .i64 0)] 0 [iA op.k, iA op.d, iA op.a, iA op.b, iA op.c, iA op.n, iA op.g] = [iA op.k, iA op.d, iA op.a, iA op.b, iA op.c, iA op.n, iA op.g] := rfl
      simp only [k3, k9, k28, k29, k30, k37, k38, k39, he3, hn4, sp7, row_len, row_take, row_all, splice_row, Nat.le_refl, kB, kZ, kD, xr, xu, xz, xl, xg, xk, xn, xo, xc, xd, xe, xf, xj, xm, xi, xh, reduceIte, reduceCtorEq, xv, xy, xq, xb, xa, xp]
      refine callO_same (hwith _) ?_
      have hput := put_zero U1.row ver 0 U2.row (L2 ++ [⟨[iA op.k, iA op.d, iA op.a, iA op.b, iA op.c, iA op.n, iA op.g], 0, 1⟩]) (by rw [row_len, row_len]; omega) (row_all _)
      rw [splice_row _ (row_len _)] at hput
      have hl23 := row_len U2
      simp only [k3, k9, k28, k29, k30, k37, k38, k39, hwr, hput, hl23, kB, kZ, kD, xr, xu, xz, xl, xg, xk, xn, xo, xc, xd, xe, xf, xj, xm, xi, xh, reduceIte, reduceCtorEq, xv, xy, xq, xb, xa, xp]
      exact ⟨n2 - 1, by omega, k + 1, ver + 1, _, by omega, by rw [hU2], rfl⟩
    · have hk : k = ops.length := by have := of_decide_eq_false hc2; omega
      subst hk
      rw [List.take_length]
      simp only [k3, k9, k28, k29, k30, k37, k38, k39, row_len, row_take, row_all, Nat.le_refl, kB, kZ, kD, xr, xu, xz, xl, xg, xk, xn, xo, xc, xd, xe, xf, xj, xm, xi, xh, reduceIte, reduceCtorEq, xv, xy, xq, xb, xa, xp]
      refine callO_same (j_Fits h.toOn _) ?_
      cases hf : fitsU (useU m ops)
      · rw [hbad hf]
        simp only [k3, k28, k29, k30, kB, kZ, kD, xr, xu, xz, xl, xg, xk, xn, xo, xc, xd, xe, xf, xj, xm, xi, xh, reduceIte, reduceCtorEq, xw, xv, xy, xq, xb, xa, xp]
        exact hex _
      · have hwr : IntKind.wrap .i64 ((i : Int) + 1) = ((i + 1 : Nat) : Int) := by rw [wrap_small (by omega) (by omega)]; omega
        simp only [k3, k28, k29, k30, hwr, kB, kZ, kD, xr, xu, xz, xl, xg, xk, xn, xo, xc, xd, xe, xf, xj, xm, xi, xh, reduceIte, reduceCtorEq, xw, xv, xy, xq, xb, xa, xp]
        exact ⟨n - 1, by omega, i + 1, L ++ (_ :: _ :: L2), by omega, by rw [hs']; simp; exact ⟨rfl, rfl⟩, rfl, by rw [hstep]; exact hf⟩
  · have hi : i = C.words.length := by have := of_decide_eq_false hc; omega
    subst hi
    rw [List.take_length] at hpre
    rw [hpre]
    simp only [k3, k28, k29, k30, kB, kZ, kD, xr, xu, xz, xl, xg, xk, xn, xo, xc, xd, xe, xf, xj, xm, xi, xh, reduceIte, reduceCtorEq, xw, xv, xy, xq, xb, xa, xp]
    exact hex _
end
end Go.VX.Seat
end
section
set_option maxRecDepth 4000
namespace Go.VX.Seat
open Go.Proofs
open Go.VX.AV renaming cell? → xa, toV → xb
open Int renaming reduceAdd → xc, reduceLE → xd, reduceLT → xe, reduceNeg → xf, reduceToNat → xg
open Nat renaming reduceAdd → xh, reduceEqDiff → xi, reduceLeDiff → xj, reduceMul → xk, reduceSub → xl
open Go.VX.VOpd renaming ev → xm
open Go.VX renaming asInt? → xn, asNat? → xo, cellVal → xp, cellsV → xq, fillA → xr, partsEv → xu, resOf → xv, splice → xw, tupOf → xy, zeroes → xz
theorem atN_swap {st M L : St} {x y : Box} (hm : x.mode = y.mode) (hc : x.cells.length = y.cells.length) {b o : Nat} (h : St.atN (st ++ (M ++ x :: L)) b o 0 = some []) : St.atN (st ++ (M ++ y :: L)) b o 0 = some [] := by
  by_cases hb : b = st.length + M.length
  · subst hb
    have e : ∀ z : Box, (st ++ (M ++ z :: L))[st.length + M.length]? = some z := fun z => by
      rw [List.getElem?_append_right (by omega), Nat.add_sub_cancel_left, List.getElem?_append_right (by omega), Nat.sub_self]; rfl
    unfold St.atN at h ⊢
    rw [e x] at h
    rw [e y]
    simp only [hm, hc] at h ⊢
    split at h
    · cases h
    · rename_i h2
      rw [if_neg h2]
      split at h
      · rename_i h3
        rw [if_pos h3]
        simp
      · cases h
  · exact atN_agree (Agree.swap st M x y L) h hb
theorem ArrAt.swap {st M L : St} {x y : Box} (hm : x.mode = y.mode) (hc : x.cells.length = y.cells.length) {lo hi : Nat} {v : AV} {esz : Nat} {rows : List (List AV)} (h : ArrAt (st ++ (M ++ x :: L)) lo hi v esz rows) (hlo : st.length + M.length < lo) : ArrAt (st ++ (M ++ y :: L)) lo hi v esz rows where
  len := h.len
  size := fun b o len e full e1 => let ⟨h1, h2⟩ := h.size b o len e full e1; ⟨h1, atN_swap hm hc h2⟩
  row := fun i hi => by
    obtain ⟨b, o, h1, h2, h3, h4⟩ := h.row i hi
    exact ⟨b, o, h1, h2, h3, atN_agree (Agree.swap st M x y L) h4 (by omega)⟩
theorem CodAt.swap {st M L : St} {x y : Box} (hm : x.mode = y.mode) (hc : x.cells.length = y.cells.length) {lo hi : Nat} {v : AV} {C : CodV} (h : CodAt (st ++ (M ++ x :: L)) lo hi v C) (hlo : st.length + M.length < lo) : CodAt (st ++ (M ++ y :: L)) lo hi v C := by
  obtain ⟨s, bl, e, hs, f, hb, hbo⟩ := h
  exact ⟨s, bl, e, ArrAt.swap hm hc hs hlo, f, ArrAt.swap hm hc hb hlo, fun i hi => ArrAt.swap hm hc (hbo i hi) hlo⟩
theorem CodAt.swap2 {st L : St} {a b x y : Box} (hm : x.mode = y.mode) (hc : x.cells.length = y.cells.length) {lo hi : Nat} {v : AV} {C : CodV} (h : CodAt (st ++ (a :: b :: x :: L)) lo hi v C) (hlo : st.length + 2 < lo) : CodAt (st ++ (a :: b :: y :: L)) lo hi v C :=
  CodAt.swap (M := [a, b]) hm hc h hlo
theorem CodAt.swap3 {st L : St} {a b c x y : Box} (hm : x.mode = y.mode) (hc : x.cells.length = y.cells.length) {lo hi : Nat} {v : AV} {C : CodV} (h : CodAt (st ++ (a :: b :: c :: x :: L)) lo hi v C) (hlo : st.length + 3 < lo) : CodAt (st ++ (a :: b :: c :: y :: L)) lo hi v C :=
  CodAt.swap (M := [a, b, c]) hm hc h hlo
section
variable {X : Cx} {st : St}
set_option maxHeartbeats 4000000 in
theorem w_WordsChecks (h : OnH X) (hg : GB st) {lo hi : Nat} {v : AV} {U0 : CodV} (hv : CodAt st lo hi v U0) (m : MachV) :
    wpF X 9 [v, .agg m.row] st fun r s => r = .ret (bA true) ∧ ∃ m, s = st ++ m := by
  refine wpF_go (fn := v_l26_WordsChecks) (by rw [h.F]; rfl) ?_
  have hm := fun L => hv.mono L
  have hfU := cut26_fits U0
  obtain ⟨s, bl, rfl, hs, hb⟩ := hv
  clear hs hb
  have hcU := fun L => w_l26_cut (st := st ++ L) h.toOn (hm L)
  generalize cut26 U0 = U at *
  simp only [v_l26_WordsChecks, MachV.row, kB, kZ, kD, xr, xu, xz, xl, xg, xk, xn, xo, xc, xd, xe, xf, xj, xm, xi, xh, reduceIte, reduceCtorEq, xw, xv, xy, xq, xb, xa, xp]
  refine callO_codB (hcU _) ?_
  intro w1 m1 lo1 hi1 g1 c1
  simp only [List.append_assoc, List.cons_append, List.nil_append, kB, kZ, kD, xr, xu, xz, xl, xg, xk, xn, xo, xc, xd, xe, xf, xj, xm, xi, xh, reduceIte, reduceCtorEq, xw, xv, xy, xq, xb, xa, xp]
  refine callO_codB (hcU _) ?_
  intro w2 m2 lo2 hi2 g2 c2
  replace c1 := c1.mono m2
  simp only [List.append_assoc, List.cons_append, List.nil_append, List.length_append, List.length_cons, List.length_nil, Nat.zero_add] at c1 c2 g1 g2
  obtain ⟨sz1, bl1, e1, hs1, hb1⟩ := c1
  have hsc1 := isCell_len hs1.len
  have hsl1 := cellsOf_len hs1.len
  have hbc1 : bl1.isCell = true := let ⟨_, hb, _⟩ := hb1; isCell_len hb.len
  have c1 : CodAt _ lo1 hi1 w1 U := ⟨sz1, bl1, e1, hs1, hb1⟩
  obtain ⟨sz2, bl2, e2, hs2, hb2⟩ := c2
  have hsc2 := isCell_len hs2.len
  have hsl2 := cellsOf_len hs2.len
  have hbc2 : bl2.isCell = true := let ⟨_, hb, _⟩ := hb2; isCell_len hb.len
  have c2 : CodAt _ lo2 hi2 w2 U := ⟨sz2, bl2, e2, hs2, hb2⟩
  clear hs1 hb1 hs2 hb2
  subst e1 e2
  replace c1 := CodAt.swap2 (st := st) (lo := lo1) (y := ⟨[sz1, iA U.params, iA U.regs, iA U.code, iA U.spill, bl1], 0, 1⟩) (by rfl) (by rfl) c1 (by omega)
  replace c2 := CodAt.swap2 (st := st) (lo := lo2) (y := ⟨[sz1, iA U.params, iA U.regs, iA U.code, iA U.spill, bl1], 0, 1⟩) (by rfl) (by rfl) c2 (by omega)
  replace c1 := CodAt.swap3 (st := st) (lo := lo1) (y := ⟨[sz2, iA U.params, iA U.regs, iA U.code, iA U.spill, bl2], 0, 1⟩) (by rfl) (by rfl) c1 (by omega)
  replace c2 := CodAt.swap3 (st := st) (lo := lo2) (y := ⟨[sz2, iA U.params, iA U.regs, iA U.code, iA U.spill, bl2], 0, 1⟩) (by rfl) (by rfl) c2 (by omega)
  simp only [List.append_assoc, List.cons_append, List.nil_append, hsc1, hsl1, hbc1, hsc2, hsl2, hbc2, kB, kZ, kD, xr, xu, xz, xl, xg, xk, xn, xo, xc, xd, xe, xf, xj, xm, xi, xh, reduceIte, reduceCtorEq, xw, xv, xy, xq, xb, xa, xp]
  have j1 := j_words_Check h (hg.app _) c2
  rw [chk_eq] at j1
  have j2 := j_r26_Check h.toOn c1
  have j3 := j_words_Fits h (hg.app _) c2 m
  have j4 := j_r26_Fits h.toOn c1 m
  have j5 := j_r26_Same h.toOn c1 c2 hfU
  simp only [MachV.row] at j3 j4
  clear hcU hm c1 c2
  refine callO_same j1 ?_
  simp only [kB, kZ, kD, xr, xu, xz, xl, xg, xk, xn, xo, xc, xd, xe, xf, xj, xm, xi, xh, reduceIte, reduceCtorEq, xw, xv, xy, xq, xb, xa, xp]
  refine callO_same j2 ?_
  simp only [decide_true, kB, kZ, kD, xr, xu, xz, xl, xg, xk, xn, xo, xc, xd, xe, xf, xj, xm, xi, xh, reduceIte, reduceCtorEq, xw, xv, xy, xq, xb, xa, xp]
  refine callO_same j3 ?_
  simp only [kB, kZ, kD, xr, xu, xz, xl, xg, xk, xn, xo, xc, xd, xe, xf, xj, xm, xi, xh, reduceIte, reduceCtorEq, xw, xv, xy, xq, xb, xa, xp]
  refine callO_same j4 ?_
  simp only [decide_true, kB, kZ, kD, xr, xu, xz, xl, xg, xk, xn, xo, xc, xd, xe, xf, xj, xm, xi, xh, reduceIte, reduceCtorEq, xw, xv, xy, xq, xb, xa, xp]
  refine callO_same j5 ?_
  simp only [decide_true, kB, kZ, kD, xr, xu, xz, xl, xg, xk, xn, xo, xc, xd, xe, xf, xj, xm, xi, xh, reduceIte, reduceCtorEq, xw, xv, xy, xq, xb, xa, xp]
  refine callO_same (.hook (h.alive _ (hg.app _))) ?_
  simp only [kB, kZ, kD, xr, xu, xz, xl, xg, xk, xn, xo, xc, xd, xe, xf, xj, xm, xi, xh, reduceIte, reduceCtorEq, xw, xv, xy, xq, xb, xa, xp]
  exact ⟨_, rfl⟩
end
end Go.VX.Seat
end
