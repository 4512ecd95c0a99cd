/- A part of the proofs of the statements of one layer: U23, U24, U25, U26, U3, T1, U2, U4, U5, U6, U7, U17, U29. No condition is added here. -/
import Derived.Laws.Strings
import Derived.Test.YtmpndkhedbpmjaaGreatDoorXB12
set_option linter.unusedVariables false
set_option linter.unusedSimpArgs false
section
set_option maxRecDepth 4000
namespace Go.VX.Seat
open Go.Proofs
def bstr (q : List Int) : ByteArray := ⟨(q.map fun n => UInt8.ofNat n.toNat).toArray⟩
theorem c_neqs (P : Program) (t : TypeId) (a b : ByteArray) (ox oy : Operand) : closed P (do eqGuard .neq t ox oy (.string a) (.string b); binOp .neq t (.string a) (.string b)) = some (.bool (!(a.toList == b.toList))) := rfl
theorem bytesOf_map : ∀ q : List Int, bytesOfCells (q.map fun n => AV.sc (.int .u8 n)) = some (q.map fun n => UInt8.ofNat n.toNat)
  | [] => rfl
  | n :: r => by
    simp only [List.map_cons, bytesOfCells, bytesOf_map r]
theorem bstr_eq {p q : List Int} (hp : ∀ b ∈ p, 0 ≤ b ∧ b < 256) (hq : ∀ b ∈ q, 0 ≤ b ∧ b < 256) : ((bstr p).toList == (bstr q).toList) = decide (p = q) := by
  have inj : ∀ a b : Int, 0 ≤ a ∧ a < 256 → 0 ≤ b ∧ b < 256 → UInt8.ofNat a.toNat = UInt8.ofNat b.toNat → a = b := fun a b ha hb e => by
    have := congrArg UInt8.toNat e
    simp at this
    omega
  rw [ByteArray.toList_eq, ByteArray.toList_eq]
  show ((p.map fun n => UInt8.ofNat n.toNat) == (q.map fun n => UInt8.ofNat n.toNat)) = _
  by_cases h : p = q
  · subst h
    simp
  · rw [decide_eq_false h]
    have : (p.map fun n => UInt8.ofNat n.toNat) ≠ (q.map fun n => UInt8.ofNat n.toNat) := fun e => h (by
      clear h
      induction p generalizing q with
      | nil => cases q with
        | nil => rfl
        | cons b r => cases e
      | cons a p ih => cases q with
        | nil => cases e
        | cons b q =>
          simp only [List.map_cons, List.cons.injEq] at e
          rw [inj a b (hp a (List.mem_cons_self ..)) (hq b (List.mem_cons_self ..)) e.1, ih (fun b hb => hp b (List.mem_cons_of_mem _ hb)) (fun b hb => hq b (List.mem_cons_of_mem _ hb)) e.2])
    simpa using this
theorem rowsB_flat (q : List Int) : (rowsB q).flatten = q.map fun n => AV.sc (.int .u8 n) := by
  induction q with
  | nil => rfl
  | cons b r ih => simp only [List.map_cons, List.flatten_cons, ih]; rfl
theorem b2s_arr {P : Program} {env : Env} {st : St} {lo hi : Nat} {x : VOpd} {v : AV} {q : List Int} (ex : x.ev env = v) (h : ArrAt st lo hi v 1 (rowsB q)) : vop P (.b2s x) env st = some (.val (.sc (.string (bstr q))), st) := by
  rcases nil_or_sl h.len with ⟨rfl, hz⟩ | ⟨b, o, e, f, rfl⟩
  · have : q = [] := by simpa using hz
    subst this
    simp only [vop, ex]
    rfl
  · obtain ⟨rfl, h0⟩ := h.size _ _ _ _ _ rfl
    have hat : st.atN b o (rowsB q).length = some (q.map fun n => AV.sc (.int .u8 n)) := by
      by_cases hq : rowsB q = []
      · have : q = [] := by simpa using hq
        subst this
        exact h0
      · obtain ⟨b', o', f', e', _, _, hw⟩ := h.whole hq
        cases e'
        have := hw (rowsB q).length (Nat.le_refl _)
        rw [List.take_length, rowsB_flat, Nat.mul_one] at this
        exact this
    simp only [vop, ex, hat, bytesOf_map, if_true]
    rfl
theorem opR_b2s {X : Cx} {K : Env → St → Post3 → Prop} {Q : Post3} {d : Option Nat} {env : Env} {st : St} {lo hi : Nat} {x : VOpd} {v : AV} {q : List Int} (ex : x.ev env = v) (hx : ArrAt st lo hi v 1 (rowsB q)) (h : K (env.put d (.sc (.string (bstr q)))) st Q) : opR X K d [] env st Q (vop X.P (.b2s x) env st) := by
  rw [b2s_arr ex hx]
  exact ⟨keptA_nil _ _ _, h⟩
theorem atN_less {s : St} {b o n m : Nat} {cs : List AV} (h : St.atN s b o n = some cs) (hm : m ≤ n) : St.atN s b (o + m) 0 = some [] := by
  unfold St.atN at h ⊢
  split at h
  · split at h
    · cases h
    · rename_i h2
      simp only [if_neg h2]
      split at h
      · rename_i h3
        rw [if_pos (by omega)]
        simp
      · cases h
  · cases h
theorem opR_suf {X : Cx} {K : Env → St → Post3 → Prop} {Q : Post3} {d : Option Nat} {env : Env} {s : St} {lo hi esz n : Nat} {x y : VOpd} {rows : List (List AV)} {vx : AV} (ex : x.ev env = vx) (ey : asNat? (y.ev env) = some n) (hx : ArrAt s lo hi vx esz rows) (hn : n ≤ rows.length)
    (h : ∀ w, ArrAt s lo hi w esz (rows.drop n) → boxOf w = boxOf vx → K (env.put d w) s Q) : opR X K d [] env s Q (vop X.P (.slice none esz x (some y) none none) env s) := by
  rw [v_slice, ex]
  rcases nil_or_sl hx.len with ⟨rfl, hz⟩ | ⟨b, o, e, f, rfl⟩
  · have hr : rows = [] := List.length_eq_zero_iff.1 hz
    subst hr
    have hn0 : n = 0 := by simpa using hn
    subst hn0
    simp only [bnd, ey]
    exact ⟨keptA_nil _ _ _, h _ (emptyArr _ _ _ _) rfl⟩
  · obtain ⟨rfl, h0⟩ := hx.size _ _ _ _ _ rfl
    simp only [bnd, ey, Option.isSome_none, Bool.false_eq_true, if_false, false_implies, and_true, Nat.le_refl, true_and]
    rw [if_pos hn]
    refine ⟨keptA_nil _ _ _, h _ ⟨?_, ?_, ?_⟩ rfl⟩
    · simp only [lenA, List.length_drop]
    · intro b' o' len' e' full' q
      cases q
      refine ⟨rfl, ?_⟩
      by_cases hr : rows = []
      · subst hr
        have hn0 : n = 0 := by simpa using hn
        subst hn0
        simpa using h0
      · obtain ⟨b', o', f', q, _, _, hw⟩ := hx.whole hr
        cases q
        exact atN_less (hw rows.length (Nat.le_refl _)) (Nat.mul_le_mul_right _ hn)
    · intro i hi'
      simp only [List.length_drop] at hi'
      obtain ⟨b1, o1, q1, q2, q3, q4⟩ := hx.row (n + i) (by omega)
      obtain ⟨b', o', len', full', q, _, _, hp⟩ := elemA_inv q1
      cases q
      simp only [AV.ptr.injEq, Int.toNat_natCast] at hp
      obtain ⟨rfl, rfl⟩ := hp
      refine ⟨b1, o + (n + i) * e, ?_, q2, q3, ?_⟩
      · simp only [elemA, Int.toNat_natCast]
        rw [if_pos ⟨by omega, by omega, trivial⟩]
        congr 2
        rw [Nat.add_mul]
        omega
      · simpa using q4
end Go.VX.Seat
end
section
set_option maxRecDepth 4000
namespace Go.VX.Seat
open Go.Proofs
open Go.VX.AV renaming cell? → xa, toV → xb
open Int renaming reduceAdd → xc, reduceLE → xd, reduceLT → xe, reduceNeg → xf, reduceToNat → xg
open Nat renaming reduceAdd → xh, reduceEqDiff → xi, reduceLeDiff → xj, reduceMul → xk, reduceSub → xl
open Go.VX.VOpd renaming ev → xm
open Go.VX renaming asInt? → xn, asNat? → xo, cellVal → xp, cellsV → xq, fillA → xr, partsEv → xu, resOf → xv, splice → xw, tupOf → xy, zeroes → xz
section
variable {X : Cx} {st : St}
theorem j_Fail9 (h : On X) {rb : Nat} {b : AV} (hb : BoxAt st rb [b, iA 9]) (e : Int) : J X.P X.F X.H (.call 94 [.ptr rb 0, iA e] st (.ret (.tup [])) st) := by
  refine pure_intro (by rw [h.F]; rfl) rfl ?_
  have x1 := hb.at1
  simp only [v_words_Reader_Fail, x1, Int.reduceEq, kB, kZ, kD, xr, xu, xz, xl, xg, xk, xn, xo, xc, xd, xe, xf, xj, xm, xi, xh, reduceIte, reduceCtorEq, xw, xv, xy, xq, xb, xa, xp]
  first | exact ⟨_, rfl⟩ | exact ⟨rfl, _, rfl⟩ | exact ⟨trivial, _, rfl⟩ | exact ⟨[], (List.append_nil _).symm⟩
theorem w_Fail0 (h : On X) (M : St) {b : AV} {ver : Nat} (L : St) (e : Int) : wpF X 94 [.ptr (st.length + M.length) 0, iA e] (st ++ (M ++ (⟨[b, iA 0], 0, ver⟩ :: L))) fun r s => r = .ret (.tup []) ∧ s = st ++ (M ++ (⟨[b, iA e], 0, ver + 1⟩ :: L)) := by
  suffices hs : ∀ T : St, wpF X 94 [.ptr (T.length + 0) 0, iA e] (T ++ (⟨[b, iA 0], 0, ver⟩ :: L)) fun r s => r = .ret (.tup []) ∧ s = T ++ (⟨[b, iA e], 0, ver + 1⟩ :: L) by
    have := hs (st ++ M)
    simpa using this
  intro T
  refine wpF_intro (fn := v_words_Reader_Fail) (by rw [h.F]; rfl) ?_
  simp only [v_words_Reader_Fail, kB, kZ, kD, xr, xu, xz, xl, xg, xk, xn, xo, xc, xd, xe, xf, xj, xm, xi, xh, reduceIte, reduceCtorEq, xw, xv, xy, xq, xb, xa, xp]
theorem j_Number9 (h : On X) {rb : Nat} (hb : BoxAt st rb [.sc (.slice none 0 0), iA 9]) : J X.P X.F X.H (.call 95 [.ptr rb 0] st (.ret (iA 0)) st) := by
  refine pure_intro (by rw [h.F]; rfl) rfl ?_
  have x1 := hb.at1
  simp only [v_words_Reader_Number, x1, kB, kZ, kD, xr, xu, xz, xl, xg, xk, xn, xo, xc, xd, xe, xf, xj, xm, xi, xh, reduceIte, reduceCtorEq, xw, xv, xy, xq, xb, xa, xp]
  refine loop_inv (fun n e s => s = st ++ [] ∧ e 0 = .ptr rb 0 ∧ e 12 = iA 0 ∧ e 13 = iA 0) ?_ 0 ?_
  case refine_2 => exact ⟨rfl, rfl, rfl, rfl⟩
  rintro n e s ⟨rfl, k0, k12, k13⟩
  simp only [k0, k12, k13, kB, kZ, kD, xr, xu, xz, xl, xg, xk, xn, xo, xc, xd, xe, xf, xj, xm, xi, xh, reduceIte, reduceCtorEq, xw, xv, xy, xq, xb, xa, xp]
  refine callO_same (j_Fail9 h (hb.ext (Ext.of _ _)) 4) ?_
  simp only [kB, kZ, kD, xr, xu, xz, xl, xg, xk, xn, xo, xc, xd, xe, xf, xj, xm, xi, xh, reduceIte, reduceCtorEq, xw, xv, xy, xq, xb, xa, xp]
  first | exact ⟨_, rfl⟩ | exact ⟨rfl, _, rfl⟩ | exact ⟨trivial, _, rfl⟩ | exact ⟨[], (List.append_nil _).symm⟩
theorem j_Int9 (h : On X) {rb : Nat} (hb : BoxAt st rb [.sc (.slice none 0 0), iA 9]) : J X.P X.F X.H (.call 51 [.ptr rb 0] st (.ret (iA 0)) st) := by
  refine pure_intro (by rw [h.F]; rfl) rfl ?_
  simp only [v_words_Reader_Int, kB, kZ, kD, xr, xu, xz, xl, xg, xk, xn, xo, xc, xd, xe, xf, xj, xm, xi, xh, reduceIte, reduceCtorEq, xw, xv, xy, xq, xb, xa, xp]
  refine callO_same (j_Number9 h (hb.ext (Ext.of _ _))) ?_
  simp only [kB, kZ, kD, xr, xu, xz, xl, xg, xk, xn, xo, xc, xd, xe, xf, xj, xm, xi, xh, reduceIte, reduceCtorEq, xw, xv, xy, xq, xb, xa, xp]
  first | exact ⟨_, rfl⟩ | exact ⟨rfl, _, rfl⟩ | exact ⟨trivial, _, rfl⟩ | exact ⟨[], (List.append_nil _).symm⟩
theorem j_Count9 (h : On X) {rb : Nat} (hb : BoxAt st rb [.sc (.slice none 0 0), iA 9]) (m : Int) : J X.P X.F X.H (.call 50 [.ptr rb 0, iA m] st (.ret (iA 0)) st) := by
  refine pure_intro (by rw [h.F]; rfl) rfl ?_
  have x1 := hb.at1
  simp only [v_words_Reader_Count, kB, kZ, kD, xr, xu, xz, xl, xg, xk, xn, xo, xc, xd, xe, xf, xj, xm, xi, xh, reduceIte, reduceCtorEq, xw, xv, xy, xq, xb, xa, xp]
  refine callO_same (j_Number9 h (hb.ext (Ext.of _ _))) ?_
  simp only [x1, Int.reduceEq, Int.reduceNe, kB, kZ, kD, xr, xu, xz, xl, xg, xk, xn, xo, xc, xd, xe, xf, xj, xm, xi, xh, reduceIte, reduceCtorEq, xw, xv, xy, xq, xb, xa, xp]
  first | exact ⟨_, rfl⟩ | exact ⟨rfl, _, rfl⟩ | exact ⟨trivial, _, rfl⟩ | exact ⟨[], (List.append_nil _).symm⟩
theorem j_End9 (h : On X) {rb : Nat} (hb : BoxAt st rb [.sc (.slice none 0 0), iA 9]) : J X.P X.F X.H (.call 53 [.ptr rb 0] st (.ret (.tup [])) st) := by
  refine pure_intro (by rw [h.F]; rfl) rfl ?_
  have x1 := hb.at1
  simp only [v_words_Reader_End, x1, kB, kZ, kD, xr, xu, xz, xl, xg, xk, xn, xo, xc, xd, xe, xf, xj, xm, xi, xh, reduceIte, reduceCtorEq, xw, xv, xy, xq, xb, xa, xp]
  first | exact ⟨_, rfl⟩ | exact ⟨rfl, _, rfl⟩ | exact ⟨trivial, _, rfl⟩ | exact ⟨[], (List.append_nil _).symm⟩
def sealBad (q : List Int) : Bool := decide ((q.length : Int) - 4 < 4) || !decide (le4 (sumP (q.take (q.length - 4))) = q.drop (q.length - 4))
theorem le4_rng (z : Int) : ∀ b ∈ le4 z, 0 ≤ b ∧ b < 256 := fun b hb => by
  unfold le4 at hb
  simp only [List.mem_cons, List.not_mem_nil, or_false] at hb
  rcases hb with rfl | rfl | rfl | rfl <;> exact wrap8_bnd _
set_option maxHeartbeats 1000000 in
theorem w_Open_bad (h : On X) (M : St) {lo hi : Nat} {v : AV} {q : List Int} (hv : ArrAt (st ++ M) lo hi v 1 (rowsB q)) (hq : q.length ≤ 1000000000) (hr : ∀ b ∈ q, 0 ≤ b ∧ b < 256) (hbad : sealBad q = true) (nm : AV) :
    wpF X 49 [v, nm] (st ++ M) fun r S => ∃ L, r = .ret (.ptr (st.length + M.length) 0) ∧ S = st ++ (M ++ (⟨[.sc (.slice none 0 0), iA 9], 0, 1⟩ :: L)) := by
  suffices hs : ∀ (T : St), ArrAt T lo hi v 1 (rowsB q) → wpF X 49 [v, nm] T fun r S => ∃ L, r = .ret (.ptr (T.length + 0) 0) ∧ S = T ++ (⟨[.sc (.slice none 0 0), iA 9], 0, 1⟩ :: L) by
    have := hs (st ++ M) hv
    simpa using this
  clear hv
  intro T hv
  refine wpF_go (fn := v_words_Open) (by rw [h.F]; rfl) ?_
  have l1 := hv.len
  simp only [List.length_map] at l1
  have hwr : IntKind.wrap .i64 ((q.length : Int) - 4) = (q.length : Int) - 4 := wrap_small (by omega) (by omega)
  have cv : ∀ a, closed X.P (convert 148 5 (.int .u32 a)) = some (.int .u8 (IntKind.wrap .u8 a)) := fun a => by rw [h.P]; exact c_cv328 a
  have hf0 := fun L => w_Fail0 (st := T) h [] (b := .sc (.slice none 0 0)) (ver := 0) L 9
  simp only [List.length_nil, List.nil_append] at hf0
  unfold sealBad at hbad
  simp only [v_words_Open, l1, hwr, kB, kZ, kD, xr, xu, xz, xl, xg, xk, xn, xo, xc, xd, xe, xf, xj, xm, xi, xh, reduceIte, reduceCtorEq, xw, xv, xy, xq, xb, xa, xp]
  cases hlt : decide ((q.length : Int) - 4 < 4)
  case true =>
    simp only [hlt, kB, kZ, kD, xr, xu, xz, xl, xg, xk, xn, xo, xc, xd, xe, xf, xj, xm, xi, xh, reduceIte, reduceCtorEq, xw, xv, xy, xq, xb, xa, xp]
    refine wpF.mono (hf0 _) ?_
    rintro r S ⟨rfl, rfl⟩
    refine ⟨keptA_nil _ _ _, ?_⟩
    simp only [kB, kZ, kD, xr, xu, xz, xl, xg, xk, xn, xo, xc, xd, xe, xf, xj, xm, xi, xh, reduceIte, reduceCtorEq, xw, xv, xy, xq, xb, xa, xp]
    exact ⟨_, rfl⟩
  rw [hlt] at hbad
  have hlt := of_decide_eq_false hlt
  simp only [kB, kZ, kD, xr, xu, xz, xl, xg, xk, xn, xo, xc, xd, xe, xf, xj, xm, xi, xh, reduceIte, reduceCtorEq, xw, xv, xy, xq, xb, xa, xp]
  refine opR_pre (vx := v) (n := q.length - 4) (by simp only [kB, kZ, kD, xr, xu, xz, xl, xg, xk, xn, xo, xc, xd, xe, xf, xj, xm, xi, xh, reduceIte, reduceCtorEq, xw, xv, xy, xq, xb, xa, xp]) (by simp only [kB, kZ, kD, xr, xu, xz, xl, xg, xk, xn, xo, xc, xd, xe, xf, xj, xm, xi, xh, reduceIte, reduceCtorEq, xw, xv, xy, xq, xb, xa, xp]; rw [if_pos (by omega)]; exact congrArg some (by omega)) (hv.mono _) (by simp) ?_
  intro w1 hw1
  refine ⟨keptA_nil _ _ _, ?_⟩
  simp only [kB, kZ, kD, xr, xu, xz, xl, xg, xk, xn, xo, xc, xd, xe, xf, xj, xm, xi, xh, reduceIte, reduceCtorEq, xw, xv, xy, xq, xb, xa, xp]
  rw [← List.map_take] at hw1
  refine callO_same (j_words_sum h hw1 (by simp; omega)) ?_
  obtain ⟨z, hz⟩ : ∃ z, sumP (q.take (q.length - 4)) = z := ⟨_, rfl⟩
  rw [hz] at hbad ⊢
  simp only [kB, kZ, kD, xr, xu, xz, xl, xg, xk, xn, xo, xc, xd, xe, xf, xj, xm, xi, xh, reduceIte, reduceCtorEq, xw, xv, xy, xq, xb, xa, xp]
  refine opR_suf (vx := v) (n := q.length - 4) (by simp only [kB, kZ, kD, xr, xu, xz, xl, xg, xk, xn, xo, xc, xd, xe, xf, xj, xm, xi, xh, reduceIte, reduceCtorEq, xw, xv, xy, xq, xb, xa, xp]) (by simp only [kB, kZ, kD, xr, xu, xz, xl, xg, xk, xn, xo, xc, xd, xe, xf, xj, xm, xi, xh, reduceIte, reduceCtorEq, xw, xv, xy, xq, xb, xa, xp]; rw [if_pos (by omega)]; exact congrArg some (by omega)) (hv.mono _) (by simp) ?_
  intro w2 hw2 _
  rw [← List.map_drop] at hw2
  simp only [kB, kZ, kD, xr, xu, xz, xl, xg, xk, xn, xo, xc, xd, xe, xf, xj, xm, xi, xh, reduceIte, reduceCtorEq, xw, xv, xy, xq, xb, xa, xp]
  refine opR_b2s (by simp only [kB, kZ, kD, xr, xu, xz, xl, xg, xk, xn, xo, xc, xd, xe, xf, xj, xm, xi, xh, reduceIte, reduceCtorEq, xw, xv, xy, xq, xb, xa, xp]) hw2 ?_
  simp only [cv, c_shr8, c_shr16, c_shr24, kB, kZ, kD, xr, xu, xz, xl, xg, xk, xn, xo, xc, xd, xe, xf, xj, xm, xi, xh, reduceIte, reduceCtorEq, xw, xv, xy, xq, xb, xa, xp]
  have hy : ArrAt (T ++ [⟨[.sc (.slice none 0 0), .sc (.int .i64 0)], 0, 0⟩, ⟨[.sc (.int .u8 (IntKind.wrap .u8 z)), .sc (.int .u8 (IntKind.wrap .u8 (z.fdiv 256))), .sc (.int .u8 (IntKind.wrap .u8 (z.fdiv 65536))), .sc (.int .u8 (IntKind.wrap .u8 (z.fdiv 16777216)))], 0, 0⟩]) (T.length + 1) (T.length + 2) (.sl (T.length + 1) 0 4 1 true) 1 (rowsB (le4 z)) :=
    ArrAt.ofBox (mode := 0) (ver := 0) (by rw [List.getElem?_append_right (by omega)]; simp; rfl) (by decide) (by simp) rfl
  refine opR_b2s (by simp only [kB, kZ, kD, xr, xu, xz, xl, xg, xk, xn, xo, xc, xd, xe, xf, xj, xm, xi, xh, reduceIte, reduceCtorEq, xw, xv, xy, xq, xb, xa, xp]) hy ?_
  have hne : ((bstr (q.drop (q.length - 4))).toList == (bstr (le4 z)).toList) = false := by
    rw [bstr_eq (fun b hb => hr b (List.mem_of_mem_drop hb)) (le4_rng z)]
    refine decide_eq_false fun e => ?_
    rw [e] at hbad
    simp at hbad
  simp only [c_neqs, hne, kB, kZ, kD, xr, xu, xz, xl, xg, xk, xn, xo, xc, xd, xe, xf, xj, xm, xi, xh, reduceIte, reduceCtorEq, xw, xv, xy, xq, xb, xa, xp]
  refine wpF.mono (hf0 _) ?_
  rintro r S ⟨rfl, rfl⟩
  refine ⟨keptA_nil _ _ _, ?_⟩
  simp only [kB, kZ, kD, xr, xu, xz, xl, xg, xk, xn, xo, xc, xd, xe, xf, xj, xm, xi, xh, reduceIte, reduceCtorEq, xw, xv, xy, xq, xb, xa, xp]
  exact ⟨_, rfl⟩
end
end Go.VX.Seat
end
section
set_option maxRecDepth 4000
namespace Go.VX.Seat
open Go.Proofs
open Go.VX.AV renaming cell? → xa, toV → xb
open Int renaming reduceAdd → xc, reduceLE → xd, reduceLT → xe, reduceNeg → xf, reduceToNat → xg
open Nat renaming reduceAdd → xh, reduceEqDiff → xi, reduceLeDiff → xj, reduceMul → xk, reduceSub → xl
open Go.VX.VOpd renaming ev → xm
open Go.VX renaming asInt? → xn, asNat? → xo, cellVal → xp, cellsV → xq, fillA → xr, partsEv → xu, resOf → xv, splice → xw, tupOf → xy, zeroes → xz
section
variable {X : Cx} {st : St}
set_option maxHeartbeats 1000000 in
theorem w_Load_bad (h : On X) {lo hi : Nat} {v : AV} {q : List Int} (hv : ArrAt st lo hi v 1 (rowsB q)) (hq : q.length ≤ 1000000000) (hr : ∀ b ∈ q, 0 ≤ b ∧ b < 256) (hbad : sealBad q = true) :
    wpF X 21 [v] st fun r s => r = .ret (.tup [.agg [.sc (.slice none 0 0), iA 0, iA 0, iA 0, iA 0, .sc (.slice none 0 0)], iA 9]) ∧ ∃ m, s = st ++ m := by
  refine wpF_go (fn := v_words_Load) (by rw [h.F]; rfl) ?_
  simp only [v_words_Load, kB, kZ, kD, xr, xu, xz, xl, xg, xk, xn, xo, xc, xd, xe, xf, xj, xm, xi, xh, reduceIte, reduceCtorEq, xw, xv, xy, xq, xb, xa, xp]
  refine wpF.mono (w_Open_bad h [_] (hv.mono _) hq hr hbad _) ?_
  rintro r S ⟨L, rfl, rfl⟩
  refine ⟨keptA_nil _ _ _, ?_⟩
  obtain ⟨T, hT⟩ : ∃ T : St, st ++ ([⟨[.sc (.slice none 0 0), .sc (.int .i64 0), .sc (.int .i64 0), .sc (.int .i64 0), .sc (.int .i64 0), .sc (.slice none 0 0)], 0, 0⟩] ++ (⟨[.sc (.slice none 0 0), iA 9], 0, 1⟩ :: L)) = T := ⟨_, rfl⟩
  have hrd : BoxAt T (st.length + 1) [.sc (.slice none 0 0), iA 9] := by
    rw [← hT]
    exact BoxAt.of (m := 0) (v := 1) (by simp) (by decide)
  rw [hT]
  have x1 := hrd.at1
  have e1 : (st.length + [(⟨[.sc (.slice none 0 0), .sc (.int .i64 0), .sc (.int .i64 0), .sc (.int .i64 0), .sc (.int .i64 0), .sc (.slice none 0 0)], 0, 0⟩ : Box)].length) = st.length + 1 := rfl
  rw [e1]
  have cnt := fun (L : St) m => j_Count9 (st := T ++ L) h (hrd.ext (Ext.of _ _)) m
  have int9 := fun (L : St) => j_Int9 (st := T ++ L) h (hrd.ext (Ext.of _ _))
  simp only [kB, kZ, kD, xr, xu, xz, xl, xg, xk, xn, xo, xc, xd, xe, xf, xj, xm, xi, xh, reduceIte, reduceCtorEq, xw, xv, xy, xq, xb, xa, xp]
  refine callO_same (cnt _ 16) ?_
  simp only [kB, kZ, kD, xr, xu, xz, xl, xg, xk, xn, xo, xc, xd, xe, xf, xj, xm, xi, xh, reduceIte, reduceCtorEq, xw, xv, xy, xq, xb, xa, xp]
  refine loop_inv (fun n e s => n = 0 ∧ s = T ++ [⟨[.sc (.slice none 0 0), iA 0, iA 0, iA 0, iA 0, .sc (.slice none 0 0)], 0, 0⟩] ∧ e 2 = .ptr (st.length + 0) 0 ∧ e 4 = .ptr (st.length + 1) 0 ∧ e 5 = .ptr (T.length + 0) 0 ∧ e 10 = iA 0 ∧ e 11 = iA 0) ?_ 0 ?_
  case refine_2 => exact ⟨rfl, rfl, rfl, rfl, rfl, rfl, rfl⟩
  rintro n e s ⟨rfl, rfl, k2, k4, k5, k10, k11⟩
  simp only [k2, k4, k5, k10, k11, kB, kZ, kD, xr, xu, xz, xl, xg, xk, xn, xo, xc, xd, xe, xf, xj, xm, xi, xh, reduceIte, reduceCtorEq, xw, xv, xy, xq, xb, xa, xp]
  refine callO_same (int9 _) ?_
  simp only [k2, k4, k5, kB, kZ, kD, xr, xu, xz, xl, xg, xk, xn, xo, xc, xd, xe, xf, xj, xm, xi, xh, reduceIte, reduceCtorEq, xw, xv, xy, xq, xb, xa, xp]
  refine callO_same (int9 _) ?_
  simp only [k2, k4, k5, kB, kZ, kD, xr, xu, xz, xl, xg, xk, xn, xo, xc, xd, xe, xf, xj, xm, xi, xh, reduceIte, reduceCtorEq, xw, xv, xy, xq, xb, xa, xp]
  refine callO_same (int9 _) ?_
  simp only [k2, k4, k5, kB, kZ, kD, xr, xu, xz, xl, xg, xk, xn, xo, xc, xd, xe, xf, xj, xm, xi, xh, reduceIte, reduceCtorEq, xw, xv, xy, xq, xb, xa, xp]
  refine callO_same (int9 _) ?_
  simp only [k2, k4, k5, kB, kZ, kD, xr, xu, xz, xl, xg, xk, xn, xo, xc, xd, xe, xf, xj, xm, xi, xh, reduceIte, reduceCtorEq, xw, xv, xy, xq, xb, xa, xp]
  refine callO_same (cnt _ 60000) ?_
  simp only [k2, k4, k5, kB, kZ, kD, xr, xu, xz, xl, xg, xk, xn, xo, xc, xd, xe, xf, xj, xm, xi, xh, reduceIte, reduceCtorEq, xw, xv, xy, xq, xb, xa, xp]
  clear k10 k11
  refine anyLoop (mB m0) (fun e s => (∃ m, s = T ++ m) ∧ e 2 = .ptr (st.length + 0) 0 ∧ e 4 = .ptr (st.length + 1) 0) ?_ ?_
  · refine loop_inv (fun n e s => (∃ m, s = T ++ m) ∧ e 2 = .ptr (st.length + 0) 0 ∧ e 4 = .ptr (st.length + 1) 0 ∧ e 34 = iA 0 ∧ e 35 = iA 0) ?_ 0 ?_
    case refine_2 => exact ⟨⟨_, rfl⟩, k2, k4, rfl, rfl⟩
    rintro n e s ⟨⟨m, rfl⟩, k2, k4, k34, k35⟩
    simp only [k2, k4, k34, k35, kB, kZ, kD, xr, xu, xz, xl, xg, xk, xn, xo, xc, xd, xe, xf, xj, xm, xi, xh, reduceIte, reduceCtorEq, xw, xv, xy, xq, xb, xa, xp]
    first | exact ⟨m, rfl⟩ | exact ⟨⟨m, rfl⟩, k2, k4⟩
  clear k2 k4 k5
  rintro e s ⟨⟨m, rfl⟩, k2, k4⟩
  simp only [k2, k4, kB, kZ, kD, xr, xu, xz, xl, xg, xk, xn, xo, xc, xd, xe, xf, xj, xm, xi, xh, reduceIte, reduceCtorEq, xw, xv, xy, xq, xb, xa, xp]
  refine callO_same (j_End9 h (hrd.ext (Ext.of _ _))) ?_
  simp only [k2, k4, x1, Int.reduceEq, Int.reduceNe, kB, kZ, kD, xr, xu, xz, xl, xg, xk, xn, xo, xc, xd, xe, xf, xj, xm, xi, xh, reduceIte, reduceCtorEq, xw, xv, xy, xq, xb, xa, xp]
  subst hT
  simp only [k2, k4, List.append_assoc, List.cons_append, List.nil_append, kB, kZ, kD, xr, xu, xz, xl, xg, xk, xn, xo, xc, xd, xe, xf, xj, xm, xi, xh, reduceIte, reduceCtorEq, xw, xv, xy, xq, xb, xa, xp]
  exact ⟨kept_loc (j := 0) (o := 1) (by simp only [k4, kB, kZ, kD, xr, xu, xz, xl, xg, xk, xn, xo, xc, xd, xe, xf, xj, xm, xi, xh, reduceIte, reduceCtorEq, xw, xv, xy, xq, xb, xa, xp]), _, rfl⟩
end
end Go.VX.Seat
end
section
set_option maxRecDepth 4000
namespace Go.VX.Seat
open Go.Proofs
def xr8 (a y : Int) : Int := IntKind.wrap .u8 ((BitVec.ofInt 8 a ^^^ BitVec.ofInt 8 y).toNat : Int)
theorem c_xor8 (P : Program) (t : TypeId) (ox oy : Operand) (a b : Int) : closed P (do eqGuard .xor t ox oy (.int .u8 a) (.int .u8 b); binOp .xor t (.int .u8 a) (.int .u8 b)) = some (.int .u8 (xr8 a b)) := by kernel_rfl
theorem xr8_ne {a y : Int} (ha : 0 ≤ a ∧ a < 256) (hy : 0 ≤ y ∧ y < 256) (h0 : y ≠ 0) : xr8 a y ≠ a := by
  intro e
  have hw : ∀ n : Int, IntKind.wrap .u8 n = n % 256 := fun _ => rfl
  unfold xr8 at e
  rw [hw] at e
  have hlt := (BitVec.ofInt 8 a ^^^ BitVec.ofInt 8 y).isLt
  have hA : (BitVec.ofInt 8 a).toNat = a.toNat := by simp [BitVec.toNat_ofInt]; omega
  have h1 : (BitVec.ofInt 8 a ^^^ BitVec.ofInt 8 y) = BitVec.ofInt 8 a := BitVec.eq_of_toNat_eq (by rw [hA]; omega)
  have h2 : BitVec.ofInt 8 y = 0#8 := by
    have := congrArg (fun z => BitVec.ofInt 8 a ^^^ z) h1
    simpa [← BitVec.xor_assoc] using this
  have h3 := congrArg BitVec.toNat h2
  simp [BitVec.toNat_ofInt] at h3
  omega
theorem xr8_bnd (a y : Int) : 0 ≤ xr8 a y ∧ xr8 a y < 256 := wrap8_bnd _
theorem wrap32_eq (n : Int) : IntKind.wrap .u32 n = n % 4294967296 := rfl
theorem wrap8_eq (n : Int) : IntKind.wrap .u8 n = n % 256 := rfl
theorem modMul {M a v k s t c : Int} (hk : a * v = 1 + M * k) (hs : 0 ≤ s ∧ s < M) (ht : 0 ≤ t ∧ t < M) (h : (s * a % M + c % M) % M = (t * a % M + c % M) % M) : s = t := by
  rw [← Int.add_emod, ← Int.add_emod] at h
  have h1 : M ∣ (s - t) * a := by
    have := Int.emod_emod_of_dvd
    have h2 := Int.emod_eq_emod_iff_emod_sub_eq_zero.1 h
    have e : s * a + c - (t * a + c) = (s - t) * a := by rw [Int.sub_mul]; omega
    rw [e] at h2
    exact Int.dvd_of_emod_eq_zero h2
  have h3 : M ∣ (s - t) := by
    have h4 : M ∣ (s - t) * a * v := Int.dvd_mul_of_dvd_left h1
    rw [Int.mul_assoc, hk, Int.mul_add, Int.mul_one] at h4
    have h5 : M ∣ (s - t) * (M * k) := by rw [Int.mul_left_comm]; exact Int.dvd_mul_right _ _
    exact (Int.dvd_iff_dvd_of_dvd_add h4).2 h5 
  have h6 := Int.emod_eq_emod_iff_emod_sub_eq_zero.2 (Int.emod_eq_zero_of_dvd h3)
  rwa [Int.emod_eq_of_lt hs.1 hs.2, Int.emod_eq_of_lt ht.1 ht.2] at h6
theorem modAdd {M u x c : Int} (hx : 0 ≤ x ∧ x < M) (hc : 0 ≤ c ∧ c < M) (h : (u % M + x % M) % M = (u % M + c % M) % M) : x = c := by
  rw [← Int.add_emod, ← Int.add_emod] at h
  have h2 := Int.emod_eq_emod_iff_emod_sub_eq_zero.1 h
  have e : u + x - (u + c) = x - c := by omega
  rw [e] at h2
  have h6 := Int.emod_eq_emod_iff_emod_sub_eq_zero.2 h2
  rwa [Int.emod_eq_of_lt hx.1 hx.2, Int.emod_eq_of_lt hc.1 hc.2] at h6
theorem stepS_bnd (s c : Int) : 0 ≤ stepS s c ∧ stepS s c < 4294967296 := by
  unfold stepS
  rw [wrap32_eq, wrap32_eq, wrap32_eq]
  omega
theorem foldS_bnd : ∀ (b : List Int) (s : Int), 0 ≤ s ∧ s < 4294967296 → 0 ≤ b.foldl stepS s ∧ b.foldl stepS s < 4294967296
  | [], _, h => h
  | c :: b, s, _ => foldS_bnd b _ (stepS_bnd s c)
theorem foldS_inj : ∀ (b : List Int) (s t : Int), 0 ≤ s ∧ s < 4294967296 → 0 ≤ t ∧ t < 4294967296 → b.foldl stepS s = b.foldl stepS t → s = t
  | [], _, _, _, _, e => e
  | c :: b, s, t, hs, ht, e => by
    have h := foldS_inj b _ _ (stepS_bnd s c) (stepS_bnd t c) e
    unfold stepS at h
    rw [wrap32_eq, wrap32_eq, wrap32_eq, wrap32_eq, wrap32_eq] at h
    exact modMul (M := 4294967296) (a := 16777619) (v := 899433627) (k := 3513497) (c := c) (by decide) hs ht h
theorem foldS_set : ∀ (p : List Int) (i : Nat) (x s : Int) (hi : i < p.length), (∀ b ∈ p, 0 ≤ b ∧ b < 256) → 0 ≤ x ∧ x < 256 → (p.set i x).foldl stepS s = p.foldl stepS s → x = p[i]
  | c :: p, 0, x, s, hi, hp, hx, e => by
    have h := foldS_inj p _ _ (stepS_bnd s x) (stepS_bnd s c) e
    have hc := hp c (List.mem_cons_self ..)
    unfold stepS at h
    rw [wrap32_eq, wrap32_eq, wrap32_eq, wrap32_eq, wrap32_eq] at h
    show x = c
    exact modAdd (M := 4294967296) (u := s * 16777619) ⟨hx.1, by omega⟩ ⟨hc.1, by omega⟩ h
  | c :: p, i + 1, x, s, hi, hp, hx, e => foldS_set p i x _ (by simpa using hi) (fun b hb => hp b (List.mem_cons_of_mem _ hb)) hx e
theorem le4_inj {s t : Int} (hs : 0 ≤ s ∧ s < 4294967296) (ht : 0 ≤ t ∧ t < 4294967296) (e : le4 s = le4 t) : s = t := by
  have f : ∀ a b : Int, 0 < b → a.fdiv b = a / b := fun a b h => Int.fdiv_eq_ediv_of_nonneg a (by omega)
  unfold le4 at e
  simp only [wrap8_eq, f _ 256 (by decide), f _ 65536 (by decide), f _ 16777216 (by decide), List.cons.injEq, and_true] at e
  obtain ⟨e1, e2, e3, e4⟩ := e
  omega
theorem seal_changed {p : List Int} (hp : ∀ b ∈ p, 0 ≤ b ∧ b < 256) {i : Nat} (hi : i < (p ++ le4 (sumP p)).length) {x : Int} (hx : 0 ≤ x ∧ x < 256) (hne : x ≠ (p ++ le4 (sumP p))[i]) : sealBad ((p ++ le4 (sumP p)).set i x) = true := by
  obtain ⟨l, hl⟩ : ∃ l, le4 (sumP p) = l := ⟨_, rfl⟩
  have hll : l.length = 4 := by rw [← hl]; rfl
  simp only [hl] at hi hne ⊢
  have hlen : ((p ++ l).set i x).length - 4 = p.length := by simp [hll]
  unfold sealBad
  rw [hlen]
  cases hd : decide (le4 (sumP (((p ++ l).set i x).take p.length)) = ((p ++ l).set i x).drop p.length)
  · simp
  · exfalso
    have hd := of_decide_eq_true hd
    by_cases h : i < p.length
    · rw [List.set_append_left _ _ h] at hd
      have e1 : (p.set i x ++ l).take p.length = p.set i x := by
        rw [List.take_append_of_le_length (by simp)]
        exact List.take_of_length_le (by simp)
      have e2 : (p.set i x ++ l).drop p.length = l := by
        rw [List.drop_append_of_le_length (by simp)]
        rw [List.drop_of_length_le (by simp)]
        rfl
      rw [e1, e2, ← hl] at hd
      have hb : (0 : Int) ≤ 1 ∧ (1 : Int) < 4294967296 := by decide
      have h1 := le4_inj (foldS_bnd _ 1 hb) (foldS_bnd _ 1 hb) hd
      have := foldS_set p i x 1 h hp hx h1
      rw [List.getElem_append_left h] at hne
      exact hne this
    · rw [List.set_append_right _ _ (by omega)] at hd
      rw [List.take_left, List.drop_left, hl] at hd
      rw [List.getElem_append_right (by omega)] at hne
      refine hne ?_
      have hi2 : i - p.length < l.length := by simp at hi; omega
      have : (l.set (i - p.length) x)[i - p.length]'(by simpa using hi2) = x := List.getElem_set_self _
      rw [← this]
      simp only [← hd]
theorem numsP_rng (l : List Int) : ∀ b ∈ numsP l, 0 ≤ b ∧ b < 256 := fun b hb => by
  unfold numsP at hb
  obtain ⟨q, hq, hb⟩ := List.mem_flatten.1 hb
  obtain ⟨n, _, rfl⟩ := List.mem_map.1 hq
  exact numP_rng n b hb
theorem opBy_rng (o : OpV) : ∀ b ∈ opBy o, 0 ≤ b ∧ b < 256 := fun b hb => by
  unfold opBy at hb
  rcases List.mem_append.1 hb with hb | hb
  · rcases List.mem_append.1 hb with hb | hb
    · exact numsP_rng _ b hb
    · exact numsP_rng _ b hb
  · split at hb
    · exact numP_rng _ b hb
    · cases hb
theorem wordBy_rng (w : WrdV) : ∀ b ∈ wordBy w, 0 ≤ b ∧ b < 256 := fun b hb => by
  unfold wordBy at hb
  rcases List.mem_append.1 hb with hb | hb
  · exact numsP_rng _ b hb
  · unfold opsBy at hb
    obtain ⟨q, hq, hb⟩ := List.mem_flatten.1 hb
    obtain ⟨n, _, rfl⟩ := List.mem_map.1 hq
    exact opBy_rng n b hb
theorem bodyBy_rng (C : CodV) : ∀ b ∈ bodyBy C, 0 ≤ b ∧ b < 256 := fun b hb => by
  unfold bodyBy headBy wordsBy at hb
  simp only [List.mem_append] at hb
  rcases hb with (((hb | hb) | hb) | hb) | hb
  · unfold bire at hb
    simp only [List.mem_cons, List.not_mem_nil, or_false] at hb
    omega
  · exact numsP_rng _ b hb
  · exact numsP_rng _ b hb
  · exact numsP_rng _ b hb
  · obtain ⟨q, hq, hb⟩ := List.mem_flatten.1 hb
    obtain ⟨n, _, rfl⟩ := List.mem_map.1 hq
    exact wordBy_rng n b hb
theorem bytesP_rng (C : CodV) : ∀ b ∈ bytesP C, 0 ≤ b ∧ b < 256 := fun b hb => by
  unfold bytesP at hb
  rcases List.mem_append.1 hb with hb | hb
  · exact bodyBy_rng C b hb
  · exact le4_rng _ b hb
end Go.VX.Seat
end
section
set_option maxRecDepth 4000
namespace Go.VX.Seat
open Go.Proofs
open Go.VX.AV renaming cell? → xa, toV → xb
open Int renaming reduceAdd → xc, reduceLE → xd, reduceLT → xe, reduceNeg → xf, reduceToNat → xg
open Nat renaming reduceAdd → xh, reduceEqDiff → xi, reduceLeDiff → xj, reduceMul → xk, reduceSub → xl
open Go.VX.VOpd renaming ev → xm
open Go.VX renaming asInt? → xn, asNat? → xo, cellVal → xp, cellsV → xq, fillA → xr, partsEv → xu, resOf → xv, splice → xw, tupOf → xy, zeroes → xz
theorem append_full {P : Program} {env : Env} {s : St} {lo lo' hi' esz bytes b : Nat} {z : Box} {x y : VOpd} {rows2 : List (List AV)} (hx : x.ev env = .sl b 0 0 esz true) (hb : s[b]? = some z) (hm : z.mode < 2) (hlo : lo ≤ b) (hy : ArrAt s lo' hi' (y.ev env) esz rows2)
    (hsz : rows2.length * (bytes + 1) ≤ 1000000000) :
    ∃ w M, vop P (.append esz bytes x y) env s = some (.val w, s ++ M) ∧ OwnS (s ++ M) lo w esz rows2 ∧ ∀ n, boxOf w = some n → n = b ∨ s.length ≤ n := by
  have l2 := hy.len
  have q2 := srcLen_len l2
  have q4 := srcCells_arr hy
  have hbl := (List.getElem?_eq_some_iff.1 hb).1
  have q0 : srcLen (.sl b 0 0 esz true) = some 0 := rfl
  have q3 : srcCells s esz 0 (.sl b 0 0 esz true) = some [] := by
    simp [srcCells, St.atN, hb, Nat.not_le_of_lt hm]
  by_cases hne : rows2 = []
  · subst hne
    refine ⟨.sl b 0 0 esz true, [], ?_, ?_, fun n hn => by cases hn; exact .inl rfl⟩
    · simp only [List.length_nil] at q2 q4
      simp only [vop, hx, q0, q2, q3, q4]
      rw [if_pos (by simp)]
      simp
    · rw [List.append_nil]
      exact own_empty hb hm hlo
  · have hm2 : rows2.length ≠ 0 := fun h => hne (List.length_eq_zero_iff.1 h)
    refine ⟨.sl s.length 0 (0 + rows2.length) esz false, [⟨[] ++ rows2.flatten, 0, 0⟩], ?_, ?_, fun n hn => by cases hn; exact .inr (Nat.le_refl _)⟩
    · simp only [vop, hx, q0, q2, q3, q4]
      rw [if_pos (by simpa using hsz)]
      simp only [hm2, if_false, if_true]
    · have hbx : (s ++ [⟨[] ++ rows2.flatten, 0, 0⟩])[s.length]? = some ⟨rows2.flatten, 0, 0⟩ := by
        rw [List.getElem?_append_right (by omega)]; simp
      refine ⟨(ArrAt.ofBox hbx (by decide) hy.rowlen (by simp)).wide' (by omega) (by simp), fun n hn => ?_, fun b' o n e full hw => ?_⟩
      · cases hn
        simp
        omega
      · cases hw
        exact .inr (by rw [hbx]; rfl)
theorem opR_appendF {X : Cx} {K : Env → St → Post3 → Prop} {Q : Post3} {d : Option Nat} {k : List VOpd} {env : Env} {s : St} {lo lo' hi' esz bytes b : Nat} {z : Box} {x y : VOpd} {rows2 : List (List AV)} {vy : AV} (ex : x.ev env = .sl b 0 0 esz true) (ey : y.ev env = vy) (hb : s[b]? = some z) (hm : z.mode < 2) (hlo : lo ≤ b) (hy : ArrAt s lo' hi' vy esz rows2)
    (hsz : rows2.length * (bytes + 1) ≤ 1000000000)
    (h : ∀ w M, OwnS (s ++ M) lo w esz rows2 → (∀ n, boxOf w = some n → n = b ∨ s.length ≤ n) → K (env.put d w) (s ++ M) Q) : opR X K d k env s Q (vop X.P (.append esz bytes x y) env s) := by
  subst ey
  obtain ⟨w, M, hv, h1, h2⟩ := append_full (P := X.P) ex hb hm hlo hy hsz
  rw [hv]
  exact ⟨kept_app _ _ _ _, h w M h1 h2⟩
def cutC (C : CodV) (n k : Nat) : CodV := { C with sizes := C.sizes.take 17, words := (C.words.take n).map fun w => { w with ops := w.ops.take k } }
section
variable {X : Cx} {st : St}
set_option maxHeartbeats 2000000 in
theorem w_r26_Cut (h : On X) {lo hi : Nat} {v : AV} {U : CodV} (hv : CodAt st lo hi v U) (n k : Nat) (hn : n ≤ 1000000) (hk : k ≤ 2000000) :
    wpF X 32 [v, iA n, iA k] st fun r s => NewC st s r (cutC U n k) := by
  refine wpF_go (fn := v_r26_Cut) (by rw [h.F]; rfl) ?_
  obtain ⟨s, bl, rfl, hs, hb⟩ := hv
  have l1 := hs.len
  have l2 : lenA bl = some U.words.length := by
    obtain ⟨f, hb, _⟩ := hb
    have := hb.len
    simpa using this
  have hcs := isCell_len l1
  have hcb := isCell_len l2
  simp only [List.length_map] at l1
  simp only [v_r26_Cut, l1, l2, hcs, hcb, kB, kZ, kD, xr, xu, xz, xl, xg, xk, xn, xo, xc, xd, xe, xf, xj, xm, xi, xh, reduceIte, reduceCtorEq, xw, xv, xy, xq, xb, xa, xp]
  have hmin : (min (U.sizes.length : Int) 17) = ((min U.sizes.length 17 : Nat) : Int) := by omega
  refine opR_pre (vx := s) (n := min U.sizes.length 17) (lo := lo) (hi := hi) (rows := U.sizes.map fun n => [iA n]) (by simp only [kB, kZ, kD, xr, xu, xz, xl, xg, xk, xn, xo, xc, xd, xe, xf, xj, xm, xi, xh, reduceIte, reduceCtorEq, xw, xv, xy, xq, xb, xa, xp]) (by rw [hmin]; simp only [kB, kZ, kD, xr, xu, xz, xl, xg, xk, xn, xo, xc, xd, xe, xf, xj, xm, xi, xh, reduceIte, reduceCtorEq, xw, xv, xy, xq, xb, xa, xp]; rw [if_pos (by omega)]) (hs.mono _) (by simp; omega) ?_
  intro sz1 hsz1
  have ht : U.sizes.take (min U.sizes.length 17) = U.sizes.take 17 := by
    rcases Nat.le_total U.sizes.length 17 with h | h
    · rw [Nat.min_eq_left h, List.take_length, List.take_of_length_le h]
    · rw [Nat.min_eq_right h]
  rw [← List.map_take, ht] at hsz1
  simp only [kB, kZ, kD, xr, xu, xz, xl, xg, xk, xn, xo, xc, xd, xe, xf, xj, xm, xi, xh, reduceIte, reduceCtorEq, xw, xv, xy, xq, xb, xa, xp]
  refine opR_appendF (b := st.length + 2) (z := ⟨[], 0, 0⟩) (vy := sz1) (lo := st.length + 2) (by simp only [kB, kZ, kD, xr, xu, xz, xl, xg, xk, xn, xo, xc, xd, xe, xf, xj, xm, xi, xh, reduceIte, reduceCtorEq, xw, xv, xy, xq, xb, xa, xp]) (by simp only [kB, kZ, kD, xr, xu, xz, xl, xg, xk, xn, xo, xc, xd, xe, xf, xj, xm, xi, xh, reduceIte, reduceCtorEq, xw, xv, xy, xq, xb, xa, xp]) (by simp) (by decide) (Nat.le_refl _) (rows2 := (U.sizes.take 17).map fun n => [iA n]) (by have := hsz1.mono [⟨[.sc (.slice none 0 0), iA 0, iA 0, iA 0, iA 0, .sc (.slice none 0 0)], 0, 0⟩]; simp only [List.append_assoc, List.cons_append, List.nil_append] at this; exact this) (by simp; omega) ?_
  intro sz M hown hszb
  have hcsz := isCell_len hown.arr.len
  have hcoz := cellsOf_len hown.arr.len
  simp only [hcsz, hcoz, List.append_assoc, List.cons_append, List.nil_append, kB, kZ, kD, xr, xu, xz, xl, xg, xk, xn, xo, xc, xd, xe, xf, xj, xm, xi, xh, reduceIte, reduceCtorEq, xw, xv, xy, xq, xb, xa, xp]
  have hY0 : OwnS (st ++ (⟨[s, iA U.params, iA U.regs, iA U.code, iA U.spill, bl], 0, 0⟩ :: ⟨[.sc (.slice none 0 0), iA 0, iA 0, iA 0, iA 0, .sc (.slice none 0 0)], 0, 0⟩ :: ⟨[], 0, 0⟩ :: ⟨[sz, iA U.params, iA U.regs, iA U.code, iA U.spill, .sc (.slice none 0 0)], 0, 1⟩ :: M)) (st.length + 2) sz 1 ((U.sizes.take 17).map fun n => [iA n]) := by
    have h1 := hown
    simp only [List.append_assoc, List.cons_append, List.nil_append] at h1
    exact h1.agree (Agree.swap st [⟨[s, iA U.params, iA U.regs, iA U.code, iA U.spill, bl], 0, 0⟩, ⟨[.sc (.slice none 0 0), iA 0, iA 0, iA 0, iA 0, .sc (.slice none 0 0)], 0, 0⟩, ⟨[], 0, 0⟩] ⟨[.sc (.slice none 0 0), iA 0, iA 0, iA 0, iA 0, .sc (.slice none 0 0)], 0, 0⟩ ⟨[sz, iA U.params, iA U.regs, iA U.code, iA U.spill, .sc (.slice none 0 0)], 0, 1⟩ M) (fun b hb h2 => by
      rcases hszb b hb with e | e <;> simp at h2 e <;> omega)
  have hszn : ∀ b, boxOf sz = some b → b ≠ st.length + 3 := fun b hb => by
    rcases hszb b hb with e | e <;> (try simp only [List.length_append, List.length_cons, List.length_nil] at e) <;> omega
  clear hown hszb hsz1
  refine loop_inv (fun m e s' => ∃ (L : St) (ver : Nat) (blv : AV) (i : Nat) (f : Nat → AV),
    s' = st ++ (⟨[s, iA U.params, iA U.regs, iA U.code, iA U.spill, bl], 0, 0⟩ :: ⟨[.sc (.slice none 0 0), iA 0, iA 0, iA 0, iA 0, .sc (.slice none 0 0)], 0, 0⟩ :: ⟨[], 0, 0⟩ :: ⟨[sz, iA U.params, iA U.regs, iA U.code, iA U.spill, blv], 0, ver⟩ :: L) ∧
    e 1 = iA n ∧ e 2 = iA k ∧ e 3 = .ptr (st.length + 0) 0 ∧ e 6 = .ptr (st.length + 1) 0 ∧ e 7 = .ptr (st.length + 3) 0 ∧ e 8 = iA i ∧
    m + i = U.words.length ∧ i ≤ n ∧
    OwnW s' (st.length + 4) blv f ((U.words.take i).map fun w => { w with ops := w.ops.take k }) ∧ OwnY s' (st.length + 2) sz blv f (U.sizes.take 17) ((U.words.take i).map fun w => { w with ops := w.ops.take k })) ?_ U.words.length ?_
  case refine_2 =>
    refine ⟨M, 1, .sc (.slice none 0 0), 0, fun _ => .sc (.slice none 0 0), rfl, ?_, ?_, ?_, ?_, ?_, ?_, by omega, by omega, ?_, ?_⟩
    iterate 6 (first | rfl | (simp only [kB, kZ, kD, xr, xu, xz, xl, xg, xk, xn, xo, xc, xd, xe, xf, xj, xm, xi, xh, reduceIte, reduceCtorEq, xw, xv, xy, xq, xb, xa, xp]; done))
    · exact ⟨own_nil _ _ _, fun h => absurd rfl h, fun i hi => absurd hi (by simp), fun i hi => absurd hi (by simp), fun i j hi => absurd hi (by simp)⟩
    · exact ⟨hY0, fun b hb => ⟨by simp [boxOf], fun i hi => absurd hi (by simp)⟩⟩
  clear hY0 M
  intro m e s' ⟨L, ver, blv, i, f, hs', k1, k2, k3, k6, k7, k8, him, hin, hB, hZ⟩
  subst hs'
  obtain ⟨f0, hb1, hbo⟩ := hb
  simp only [k1, k2, k3, k6, k7, k8, l2, kB, kZ, kD, xr, xu, xz, xl, xg, xk, xn, xo, xc, xd, xe, xf, xj, xm, xi, xh, reduceIte, reduceCtorEq, xw, xv, xy, xq, xb, xa, xp]
  refine gO_t ?_ ?_ <;> intro hc
  · have hil : i < U.words.length := by have := of_decide_eq_true hc; omega
    obtain ⟨b1, o1, he1, hn1, ha1, _⟩ := hb1.get i (by simpa using hil)
    simp only [List.getElem_mapIdx, WrdV.row] at hn1 ha1
    have ha0 := fun L => ha1 L 0 (by omega)
    have haa := fun L => ha1 L 1 (by omega)
    simp only [kB, kZ, kD, xr, xu, xz, xl, xg, xk, xn, xo, xc, xd, xe, xf, xj, xm, xi, xh, reduceIte, reduceCtorEq, xw, xv, xy, xq, xb, xa, xp] at ha0 haa
    have l3 := (hbo i hil).len
    simp only [List.length_map] at l3
    have hcell := isCell_len l3
    simp only [hc, k1, k2, k3, k6, k7, k8, l2, he1, hn1, ha0, haa, l3, hcell, kB, kZ, kD, xr, xu, xz, xl, xg, xk, xn, xo, xc, xd, xe, xf, xj, xm, xi, xh, reduceIte, reduceCtorEq, xw, xv, xy, xq, xb, xa, xp]
    refine condO_intro ?_ ?_ <;> intro hc2
    · have hin2 : i < n := by have := of_decide_eq_true hc2; omega
      simp only [hc, k1, k2, k3, k6, k7, k8, l2, he1, hn1, ha0, haa, l3, hcell, kB, kZ, kD, xr, xu, xz, xl, xg, xk, xn, xo, xc, xd, xe, xf, xj, xm, xi, xh, reduceIte, reduceCtorEq, xw, xv, xy, xq, xb, xa, xp]
      have hml : min (U.words[i].ops.length : Int) (k : Int) = ((min U.words[i].ops.length k : Nat) : Int) := by omega
      have hmt : U.words[i].ops.take (min U.words[i].ops.length k) = U.words[i].ops.take k := by
        rcases Nat.le_total U.words[i].ops.length k with h | h
        · rw [Nat.min_eq_left h, List.take_length, List.take_of_length_le h]
        · rw [Nat.min_eq_right h]
      refine opR_pre (vx := f0 i) (n := min U.words[i].ops.length k) (lo := lo) (hi := hi) (rows := U.words[i].ops.map OpV.row) (by simp only [kB, kZ, kD, xr, xu, xz, xl, xg, xk, xn, xo, xc, xd, xe, xf, xj, xm, xi, xh, reduceIte, reduceCtorEq, xw, xv, xy, xq, xb, xa, xp]) (by rw [hml]; simp only [kB, kZ, kD, xr, xu, xz, xl, xg, xk, xn, xo, xc, xd, xe, xf, xj, xm, xi, xh, reduceIte, reduceCtorEq, xw, xv, xy, xq, xb, xa, xp]; rw [if_pos (by omega)]) ((hbo i hil).mono _) (by simp; omega) ?_
      intro w1 hw1
      rw [← List.map_take, hmt] at hw1
      have htl : (U.words[i].ops.take k).length ≤ 2000000 := by simp only [List.length_take]; omega
      simp only [kB, kZ, kD, xr, xu, xz, xl, xg, xk, xn, xo, xc, xd, xe, xf, xj, xm, xi, xh, reduceIte, reduceCtorEq, xw, xv, xy, xq, xb, xa, xp]
      refine opR_appendF (b := st.length + (L.length + 1 + 1 + 1 + 1)) (z := ⟨[], 0, 0⟩) (vy := w1) (lo := st.length + (L.length + 1 + 1 + 1 + 1)) (by simp only [kB, kZ, kD, xr, xu, xz, xl, xg, xk, xn, xo, xc, xd, xe, xf, xj, xm, xi, xh, reduceIte, reduceCtorEq, xw, xv, xy, xq, xb, xa, xp]) (by simp only [kB, kZ, kD, xr, xu, xz, xl, xg, xk, xn, xo, xc, xd, xe, xf, xj, xm, xi, xh, reduceIte, reduceCtorEq, xw, xv, xy, xq, xb, xa, xp]) (by simp) (by decide) (Nat.le_refl _) hw1 (by simp only [List.length_map]; omega) ?_
      intro w M2 hown hwb
      have hwl := hown.arr.len
      simp only [List.length_map] at hwl
      have hwc := isCell_len hwl
      have hwo := cellsOf_len hwl
      simp only [hwc, hwo, k1, k2, k3, k6, k7, k8, List.append_assoc, List.cons_append, List.nil_append, kB, kZ, kD, xr, xu, xz, xl, xg, xk, xn, xo, xc, xd, xe, xf, xj, xm, xi, xh, reduceIte, reduceCtorEq, xw, xv, xy, xq, xb, xa, xp]
      have hag0 : Agree (fun _ => False) (st ++ (⟨[s, iA U.params, iA U.regs, iA U.code, iA U.spill, bl], 0, 0⟩ :: ⟨[.sc (.slice none 0 0), iA 0, iA 0, iA 0, iA 0, .sc (.slice none 0 0)], 0, 0⟩ :: ⟨[], 0, 0⟩ :: ⟨[sz, iA U.params, iA U.regs, iA U.code, iA U.spill, blv], 0, ver⟩ :: L)) (st ++ (⟨[s, iA U.params, iA U.regs, iA U.code, iA U.spill, bl], 0, 0⟩ :: ⟨[.sc (.slice none 0 0), iA 0, iA 0, iA 0, iA 0, .sc (.slice none 0 0)], 0, 0⟩ :: ⟨[], 0, 0⟩ :: ⟨[sz, iA U.params, iA U.regs, iA U.code, iA U.spill, blv], 0, ver⟩ :: (L ++ (⟨[], 0, 0⟩ :: (M2 ++ [⟨[w, iA U.words[i].catch_], 0, 0⟩]))))) := by
        simpa using Agree.app (fun _ => False) (st ++ (⟨[s, iA U.params, iA U.regs, iA U.code, iA U.spill, bl], 0, 0⟩ :: ⟨[.sc (.slice none 0 0), iA 0, iA 0, iA 0, iA 0, .sc (.slice none 0 0)], 0, 0⟩ :: ⟨[], 0, 0⟩ :: ⟨[sz, iA U.params, iA U.regs, iA U.code, iA U.spill, blv], 0, ver⟩ :: L)) (⟨[], 0, 0⟩ :: (M2 ++ [⟨[w, iA U.words[i].catch_], 0, 0⟩]))
      have hw2 : OwnS (st ++ (⟨[s, iA U.params, iA U.regs, iA U.code, iA U.spill, bl], 0, 0⟩ :: ⟨[.sc (.slice none 0 0), iA 0, iA 0, iA 0, iA 0, .sc (.slice none 0 0)], 0, 0⟩ :: ⟨[], 0, 0⟩ :: ⟨[sz, iA U.params, iA U.regs, iA U.code, iA U.spill, blv], 0, ver⟩ :: (L ++ (⟨[], 0, 0⟩ :: (M2 ++ [⟨[w, iA U.words[i].catch_], 0, 0⟩]))))) (st.length + (L.length + 1 + 1 + 1 + 1)) w 7 ((U.words[i].ops.take k).map OpV.row) := by
        have h1 := own_frame hown [⟨[w, iA U.words[i].catch_], 0, 0⟩]
        simpa using h1
      have hB2 := hB.agree hag0 (fun _ _ _ h => h)
      have hl1 : (st ++ (⟨[s, iA U.params, iA U.regs, iA U.code, iA U.spill, bl], 0, 0⟩ :: ⟨[.sc (.slice none 0 0), iA 0, iA 0, iA 0, iA 0, .sc (.slice none 0 0)], 0, 0⟩ :: ⟨[], 0, 0⟩ :: ⟨[sz, iA U.params, iA U.regs, iA U.code, iA U.spill, blv], 0, ver⟩ :: L) : St).length = st.length + (L.length + 1 + 1 + 1 + 1) := by simp
      have hl2 : (st ++ (⟨[s, iA U.params, iA U.regs, iA U.code, iA U.spill, bl], 0, 0⟩ :: ⟨[.sc (.slice none 0 0), iA 0, iA 0, iA 0, iA 0, .sc (.slice none 0 0)], 0, 0⟩ :: ⟨[], 0, 0⟩ :: ⟨[sz, iA U.params, iA U.regs, iA U.code, iA U.spill, blv], 0, ver⟩ :: (L ++ (⟨[], 0, 0⟩ :: (M2 ++ [⟨[w, iA U.words[i].catch_], 0, 0⟩])))) : St).length = st.length + (L.length + (M2.length + 1 + 1) + 1 + 1 + 1 + 1) := by simp
      obtain ⟨nb, hnb⟩ : ∃ nb : WrdV, nb = { U.words[i] with ops := U.words[i].ops.take k } := ⟨_, rfl⟩
      have hrow : nb.row w = [w, iA U.words[i].catch_] := by rw [hnb]; rfl
      have hdl : ((U.words.take i).map fun w : WrdV => { w with ops := w.ops.take k }).length = i := by simp; omega
      refine opR_append (vx := blv) (vy := .sl (st.length + (L.length + (M2.length + 1) + 1 + 1 + 1 + 1)) 0 1 2 true) (lo := st.length + 4) (lo' := st.length + (L.length + (M2.length + 1) + 1 + 1 + 1 + 1)) (hi' := st.length + (L.length + (M2.length + 1) + 1 + 1 + 1 + 1) + 1) (rows := wrdRows ((U.words.take i).map fun w => { w with ops := w.ops.take k }) f) (rows2 := [nb.row w]) (by simp only [kB, kZ, kD, xr, xu, xz, xl, xg, xk, xn, xo, xc, xd, xe, xf, xj, xm, xi, xh, reduceIte, reduceCtorEq, xw, xv, xy, xq, xb, xa, xp]) (by simp only [kB, kZ, kD, xr, xu, xz, xl, xg, xk, xn, xo, xc, xd, xe, xf, xj, xm, xi, xh, reduceIte, reduceCtorEq, xw, xv, xy, xq, xb, xa, xp]) hB2.own (by rw [hl2]; omega) (ArrAt.ofBox (mode := 0) (ver := 0) ?_ (by decide) (by rw [hrow]; simp) rfl) ?_ (by rw [hrow]; simp only [hwc, kB, kZ, kD, xr, xu, xz, xl, xg, xk, xn, xo, xc, xd, xe, xf, xj, xm, xi, xh, reduceIte, reduceCtorEq, xw, xv, xy, xq, xb, xa, xp]) ?_
      · rw [hrow]
        simp
      · rw [wrdRows_length, hdl]
        simp only [List.length_cons, List.length_nil]
        omega
      intro bl2 s3 hag3 hown3 hor3
      obtain ⟨_, hbox3, hex3⟩ : [nb.row w] ≠ [] ∧ boxOf bl2 = some (st ++ (⟨[s, iA U.params, iA U.regs, iA U.code, iA U.spill, bl], 0, 0⟩ :: ⟨[.sc (.slice none 0 0), iA 0, iA 0, iA 0, iA 0, .sc (.slice none 0 0)], 0, 0⟩ :: ⟨[], 0, 0⟩ :: ⟨[sz, iA U.params, iA U.regs, iA U.code, iA U.spill, blv], 0, ver⟩ :: (L ++ (⟨[], 0, 0⟩ :: (M2 ++ [⟨[w, iA U.words[i].catch_], 0, 0⟩])))) : St).length ∧ ExactBox s3 bl2 2 (wrdRows ((U.words.take i).map fun w => { w with ops := w.ops.take k }) f ++ [nb.row w]) := by
        rcases hor3 with h | h
        · exact absurd h.1 (by simp)
        · exact h
      rw [hl2] at hbox3
      have hw3 := hw2.agree hag3 (fun b hb hx => by
        have h1 := (hw2.bnd b hb).1
        have h2 := (hB.own.bnd b hx.2).2
        rw [hl1] at h2; omega)
      have hag4 : Agree (fun n => boxOf blv = some n) (st ++ (⟨[s, iA U.params, iA U.regs, iA U.code, iA U.spill, bl], 0, 0⟩ :: ⟨[.sc (.slice none 0 0), iA 0, iA 0, iA 0, iA 0, .sc (.slice none 0 0)], 0, 0⟩ :: ⟨[], 0, 0⟩ :: ⟨[sz, iA U.params, iA U.regs, iA U.code, iA U.spill, blv], 0, ver⟩ :: L)) s3 := (hag0.trans hag3).mono fun n _ h => by
        rcases h with h | h
        · exact h.elim
        · exact h.2
      have hB3 := OwnW.snoc (b := nb) hB hag4 (fun n _ h => h) (by rw [hnb]; exact hw3.low (by omega)) (fun n hn => by have := (hw2.bnd n hn).1; rw [hl1]; omega) hown3 hex3 (fun n hn => by
        rw [hbox3] at hn
        cases hn
        refine ⟨by rw [hl1]; omega, fun h => ?_⟩
        have := (hw2.bnd _ h).2
        rw [hl2] at this
        omega)
      have hZ3 := OwnY.snoc (b := nb) (w := w) (bl' := bl2) hZ hag4 (fun n _ h => h) (fun n hn => by have := (hw2.bnd n hn).1; rw [hl1]; omega) (fun n hn => by
        rw [hbox3] at hn
        cases hn
        rw [hl1]; omega)
      obtain ⟨L3, rfl⟩ : ∃ L3, s3 = st ++ (⟨[s, iA U.params, iA U.regs, iA U.code, iA U.spill, bl], 0, 0⟩ :: ⟨[.sc (.slice none 0 0), iA 0, iA 0, iA 0, iA 0, .sc (.slice none 0 0)], 0, 0⟩ :: ⟨[], 0, 0⟩ :: ⟨[sz, iA U.params, iA U.regs, iA U.code, iA U.spill, blv], 0, ver⟩ :: L3) := by
        have := Agree.shape (st := st) (M := [⟨[s, iA U.params, iA U.regs, iA U.code, iA U.spill, bl], 0, 0⟩, ⟨[.sc (.slice none 0 0), iA 0, iA 0, iA 0, iA 0, .sc (.slice none 0 0)], 0, 0⟩, ⟨[], 0, 0⟩, ⟨[sz, iA U.params, iA U.regs, iA U.code, iA U.spill, blv], 0, ver⟩]) (N := L ++ (⟨[], 0, 0⟩ :: (M2 ++ [⟨[w, iA U.words[i].catch_], 0, 0⟩]))) (by simpa using hag3) (fun b hb => by have := (hB.own.bnd b hb).1; simp; omega)
        simpa using this
      have hbl := hown3.arr.len
      have hblc := isCell_len hbl
      have hblo := cellsOf_len hbl
      have hnext : (U.words.take (i + 1)).map (fun w : WrdV => { w with ops := w.ops.take k }) = (U.words.take i).map (fun w => { w with ops := w.ops.take k }) ++ [nb] := by
        rw [hnb, ← List.take_append_getElem hil, List.map_append]
        rfl
      have hwr : IntKind.wrap .i64 ((i : Int) + 1) = ((i + 1 : Nat) : Int) := by rw [wrap_small (by omega) (by omega)]; omega
      have hag5 := Agree.swap st [⟨[s, iA U.params, iA U.regs, iA U.code, iA U.spill, bl], 0, 0⟩, ⟨[.sc (.slice none 0 0), iA 0, iA 0, iA 0, iA 0, .sc (.slice none 0 0)], 0, 0⟩, ⟨[], 0, 0⟩] ⟨[sz, iA U.params, iA U.regs, iA U.code, iA U.spill, blv], 0, ver⟩ ⟨[sz, iA U.params, iA U.regs, iA U.code, iA U.spill, bl2], 0, (ver + 1)⟩ L3
      simp only [k1, k2, k3, k6, k7, k8, hblc, hblo, hwr, kB, kZ, kD, xr, xu, xz, xl, xg, xk, xn, xo, xc, xd, xe, xf, xj, xm, xi, xh, reduceIte, reduceCtorEq, xw, xv, xy, xq, xb, xa, xp]
      refine ⟨m - 1, by omega, L3, ver + 1, bl2, i + 1, (fun j => if j = ((U.words.take i).map fun w : WrdV => { w with ops := w.ops.take k }).length then w else f j), rfl, rfl, by omega, by omega, ?_, ?_⟩
      · rw [hnext]; exact hB3.agree hag5 (fun b hb _ h => by simp at h; omega)
      · rw [hnext]; exact ⟨hZ3.own.agree hag5 (fun b hb h => by have := hszn b hb; simp at h; omega), hZ3.sep⟩
    · have hin3 : i = n := by have := of_decide_eq_false hc2; omega
      have hout : (U.words.take i).map (fun w : WrdV => { w with ops := w.ops.take k }) = (U.words.take n).map fun w => { w with ops := w.ops.take k } := by
        rw [hin3]
      have hbvc := isCell_len hB.own.arr.len
      have hag := Agree.swap st [⟨[s, iA U.params, iA U.regs, iA U.code, iA U.spill, bl], 0, 0⟩] ⟨[.sc (.slice none 0 0), iA 0, iA 0, iA 0, iA 0, .sc (.slice none 0 0)], 0, 0⟩ ⟨[sz, iA U.params, iA U.regs, iA U.code, iA U.spill, blv], 0, 1⟩ (⟨[], 0, 0⟩ :: ⟨[sz, iA U.params, iA U.regs, iA U.code, iA U.spill, blv], 0, ver⟩ :: L)
      simp only [hc, hc2, k1, k2, k3, k6, k7, k8, l2, hcsz, hbvc, List.append_nil, kB, kZ, kD, xr, xu, xz, xl, xg, xk, xn, xo, xc, xd, xe, xf, xj, xm, xi, xh, reduceIte, reduceCtorEq, xw, xv, xy, xq, xb, xa, xp]
      rw [hout] at hB hZ
      exact ⟨_, rfl, ⟨_, rfl⟩, ⟨sz, blv, f, rfl, (hZ.agree hag (fun b hb _ h => by simp at h; omega)).low (by omega), (hB.agree hag (fun b hb _ h => by simp at h; omega)).low (by omega)⟩⟩
  · have hi3 : i = U.words.length := by have := of_decide_eq_false hc; omega
    have hout : (U.words.take i).map (fun w : WrdV => { w with ops := w.ops.take k }) = (U.words.take n).map fun w => { w with ops := w.ops.take k } := by
      rw [hi3, List.take_length, List.take_of_length_le (by omega)]
    have hbvc := isCell_len hB.own.arr.len
    have hag := Agree.swap st [⟨[s, iA U.params, iA U.regs, iA U.code, iA U.spill, bl], 0, 0⟩] ⟨[.sc (.slice none 0 0), iA 0, iA 0, iA 0, iA 0, .sc (.slice none 0 0)], 0, 0⟩ ⟨[sz, iA U.params, iA U.regs, iA U.code, iA U.spill, blv], 0, 1⟩ (⟨[], 0, 0⟩ :: ⟨[sz, iA U.params, iA U.regs, iA U.code, iA U.spill, blv], 0, ver⟩ :: L)
    simp only [hc, k1, k2, k3, k6, k7, k8, l2, hcsz, hbvc, List.append_nil, kB, kZ, kD, xr, xu, xz, xl, xg, xk, xn, xo, xc, xd, xe, xf, xj, xm, xi, xh, reduceIte, reduceCtorEq, xw, xv, xy, xq, xb, xa, xp]
    rw [hout] at hB hZ
    exact ⟨_, rfl, ⟨_, rfl⟩, ⟨sz, blv, f, rfl, (hZ.agree hag (fun b hb _ h => by simp at h; omega)).low (by omega), (hB.agree hag (fun b hb _ h => by simp at h; omega)).low (by omega)⟩⟩
end
end Go.VX.Seat
end
section
set_option maxRecDepth 4000
namespace Go.VX.Seat
open Go.Proofs
section
variable {X : Cx} {st : St}
end
end Go.VX.Seat
end
section
set_option maxRecDepth 4000
namespace Go.VX.Seat
open Go.Proofs
section
variable {X : Cx} {st : St}
end
end Go.VX.Seat
end
section
set_option maxRecDepth 4000
namespace Go.VX.Seat
open Go.Proofs
theorem preA_box26 {v w : AV} {esz n : Nat} (h : preA v esz n = some w) : boxOf w = boxOf v := by
  unfold preA at h
  split at h
  · split at h
    · cases h; rfl
    · cases h
  · split at h
    · cases h; rfl
    · cases h
  · cases h
theorem opR_preW {X : Cx} {K : Env → St → Post3 → Prop} {Q : Post3} {d : Option Nat} {k : List VOpd} {env : Env} {s : St} {lo hi esz n : Nat} {x y : VOpd} {rows : List (List AV)} {vx : AV} (ex : x.ev env = vx) (ey : asNat? (y.ev env) = some n) (hx : ArrAt s lo hi vx esz rows) (hn : n ≤ rows.length)
    (h : ∀ w, ArrAt s lo hi w esz (rows.take n) → boxOf w = boxOf vx → keptA env s s k = true ∧ K (env.put d w) s Q) : opR X K d k env s Q (vop X.P (.slice none esz x none (some y) none) env s) := by
  subst ex
  obtain ⟨w, hw, ha⟩ := hx.pre n hn
  rw [v_slice_pre X.P env s esz x y n ey, hw]
  exact h w ha (preA_box26 hw)
structure WrdM (s : St) (lo : Nat) (bl : AV) (f : Nat → AV) (l : List WrdV) : Prop where
  arr : ArrAt s lo s.length bl 2 (wrdRows l f)
  box : ExactBox s bl 2 (wrdRows l f)
  ops : ∀ i (h : i < l.length), OpsAt s lo s.length (f i) l[i].ops
  sep : ∀ i, i < l.length → ∀ b, boxOf bl = some b → boxOf (f i) ≠ some b
  bnd : ∀ b, boxOf bl = some b → lo ≤ b ∧ b < s.length
  fbnd : ∀ i, i < l.length → ∀ b, boxOf (f i) = some b → lo ≤ b ∧ b < s.length
theorem OwnW.wm {s : St} {lo : Nat} {bl : AV} {f : Nat → AV} {l : List WrdV} (h : OwnW s lo bl f l) : WrdM s lo bl f l := ⟨h.own.arr, h.box, fun i hi => (h.ops i hi).arr, h.sep1, h.own.bnd, fun i hi => (h.ops i hi).bnd⟩
theorem WrdM.wrds {s : St} {lo : Nat} {bl : AV} {f : Nat → AV} {l : List WrdV} (h : WrdM s lo bl f l) : WrdsAt s lo s.length bl l := ⟨f, h.arr, h.ops⟩
theorem wrdRows_row (l : List WrdV) (f : Nat → AV) : ∀ r ∈ wrdRows l f, r.length = 2 := fun r hr => by
  unfold wrdRows at hr
  obtain ⟨i, h, rfl⟩ := List.mem_iff_getElem.1 hr
  simp [WrdV.row]
theorem wrdRows_get (l : List WrdV) (f : Nat → AV) (i : Nat) (h : i < (wrdRows l f).length) : (wrdRows l f)[i] = (l[i]'(by rw [wrdRows_length] at h; exact h)).row (f i) := by simp [wrdRows]
theorem wrdRows_put (l : List WrdV) (f : Nat → AV) (i : Nat) (h : i < l.length) (w : AV) (o : List OpV) :
    wrdRows (l.set i { l[i] with ops := o }) (fun j => if j = i then w else f j) = (wrdRows l f).set i [w, iA l[i].catch_] := by
  refine List.ext_getElem (by simp [wrdRows]) fun j h1 h2 => ?_
  rw [wrdRows_get]
  simp only [List.getElem_set]
  by_cases hj : i = j
  · subst hj
    simp [WrdV.row]
  · simp only [if_neg hj, if_neg (fun e => hj e.symm : ¬ j = i)]
    rw [wrdRows_get]
theorem WrdM.agree {X : Nat → Prop} {s s' : St} {lo : Nat} {bl : AV} {f : Nat → AV} {l : List WrdV} (h : WrdM s lo bl f l) (ha : Agree X s s') (hx : ∀ b, lo ≤ b → b < s.length → ¬ X b) : WrdM s' lo bl f l where
  arr := (h.arr.agree ha fun b hb => hx b (h.bnd b hb).1 (h.bnd b hb).2).wide ha.len
  box := h.box.agree ha fun b hb => hx b (h.bnd b hb).1 (h.bnd b hb).2
  ops := fun i hi => ((h.ops i hi).agree ha fun b hb => hx b (h.fbnd i hi b hb).1 (h.fbnd i hi b hb).2).wide ha.len
  sep := h.sep
  bnd := fun b hb => ⟨(h.bnd b hb).1, Nat.lt_of_lt_of_le (h.bnd b hb).2 ha.len⟩
  fbnd := fun i hi b hb => ⟨(h.fbnd i hi b hb).1, Nat.lt_of_lt_of_le (h.fbnd i hi b hb).2 ha.len⟩
theorem WrdM.put {s : St} {lo b ver : Nat} {full : Bool} {bl w : AV} {f : Nat → AV} {l : List WrdV} (h : WrdM s lo bl f l) (i : Nat) (hi : i < l.length) (hbl : bl = .sl b 0 l.length 2 full) (hb : s[b]? = some ⟨(wrdRows l f).flatten, 0, ver⟩) {o : List OpV}
    (hw : OpsAt s lo s.length w o) (hwb : boxOf w = boxOf (f i)) :
    WrdM (s.set b ⟨splice (wrdRows l f).flatten (i * 2 + 0) [w], 0, ver + 1⟩) lo bl (fun j => if j = i then w else f j) (l.set i { l[i] with ops := o }) := by
  have hbx : boxOf bl = some b := by rw [hbl]; rfl
  have hbl2 := (h.bnd b hbx).2
  have hir : i < (wrdRows l f).length := by rw [wrdRows_length]; exact hi
  have e1 : splice (wrdRows l f).flatten (i * 2 + 0) [w] = (wrdRows (l.set i { l[i] with ops := o }) (fun j => if j = i then w else f j)).flatten := by
    rw [flatten_set (wrdRows_row l f) i 0 hir [w] (by simp), wrdRows_put l f i hi w o, wrdRows_get]
    rfl
  rw [e1]
  have hag := Agree.set s b ⟨(wrdRows (l.set i { l[i] with ops := o }) (fun j => if j = i then w else f j)).flatten, 0, ver + 1⟩
  have hb' : (s.set b ⟨(wrdRows (l.set i { l[i] with ops := o }) (fun j => if j = i then w else f j)).flatten, 0, ver + 1⟩)[b]? = some ⟨(wrdRows (l.set i { l[i] with ops := o }) (fun j => if j = i then w else f j)).flatten, 0, ver + 1⟩ := List.getElem?_set_self hbl2
  have hlen : (wrdRows (l.set i { l[i] with ops := o }) (fun j => if j = i then w else f j)).length = l.length := by rw [wrdRows_length]; simp
  exact {
    arr := by
      rw [hbl]
      exact (ArrAt.ofBox (full := full) hb' (by decide) (wrdRows_row _ _) hlen.symm).wide' (h.bnd b hbx).1 (by simp; omega)
    box := fun _ => ⟨b, full, ver + 1, by rw [hlen]; exact hbl, hb'⟩
    ops := fun j hj => by
      simp only [List.length_set] at hj
      by_cases hji : j = i
      · subst hji
        simp only [if_true, List.getElem_set_self]
        exact (hw.agree hag fun c hc e => h.sep _ hi b hbx (by rw [← hwb, hc, e])).wide (by simp)
      · simp only [if_neg hji, List.getElem_set_ne (fun e => hji e.symm)]
        exact ((h.ops j hj).agree hag fun c hc e => h.sep j hj b hbx (by rw [hc, e])).wide (by simp)
    sep := fun j hj c hc => by
      simp only [List.length_set] at hj
      by_cases hji : j = i
      · subst hji
        simp only [if_true]
        rw [hwb]
        exact h.sep _ hi c hc
      · simp only [if_neg hji]
        exact h.sep j hj c hc
    bnd := fun c hc => by simpa using h.bnd c hc
    fbnd := fun j hj c hc => by
      simp only [List.length_set] at hj
      by_cases hji : j = i
      · subst hji
        simp only [if_true] at hc
        rw [hwb] at hc
        simpa using h.fbnd _ hi c hc
      · simp only [if_neg hji] at hc
        simpa using h.fbnd j hj c hc }
end Go.VX.Seat
end
section
set_option maxRecDepth 4000
namespace Go.VX.Seat
open Go.Proofs
open Go.VX.AV renaming cell? → xa, toV → xb
open Int renaming reduceAdd → xc, reduceLE → xd, reduceLT → xe, reduceNeg → xf, reduceToNat → xg
open Nat renaming reduceAdd → xh, reduceEqDiff → xi, reduceLeDiff → xj, reduceMul → xk, reduceSub → xl
open Go.VX.VOpd renaming ev → xm
open Go.VX renaming asInt? → xn, asNat? → xo, cellVal → xp, cellsV → xq, fillA → xr, partsEv → xu, resOf → xv, splice → xw, tupOf → xy, zeroes → xz
def trimO (l : List OpV) : List OpV := (if decide ((l.length : Int) ≤ 400) then l.take 20 else l).take 401
def trimW (w : WrdV) : WrdV := { w with ops := trimO w.ops }
def cut26 (C : CodV) : CodV :=
  if decide (40 < (C.words.length : Int)) && decide ((C.words.length : Int) ≤ 60000) then cutC C 40 20
  else { cutC C 60001 1048576 with words := (cutC C 60001 1048576).words.map trimW }
structure Tr26 (st : St) (C Z T : Box) (ml : Nat) (sz bl : AV) (zs : List Int) (L : St) (f : Nat → AV) (l : List WrdV) : Prop where
  t : L[ml]? = some T
  w : WrdM (st ++ (C :: Z :: L)) (st.length + 2) bl f l
  z : ArrAt (st ++ (C :: Z :: L)) (st.length + 2) (st ++ (C :: Z :: L)).length sz 1 (zs.map fun n => [iA n])
theorem Tr26.get {st : St} {C Z T : Box} {ml : Nat} {sz bl : AV} {zs : List Int} {L : St} {f : Nat → AV} {l : List WrdV} (h : Tr26 st C Z T ml sz bl zs L f l) (i : Nat) (hi : i < l.length) {b : Nat} (hb : boxOf bl = some b) :
    elemA bl 2 (i : Int) = some (.ptr b (i * 2)) ∧ St.at1 (st ++ (C :: Z :: L)) b (i * 2 + 0) = some (f i) ∧ lenA (f i) = some l[i].ops.length := by
  have hir : i < (wrdRows l f).length := by rw [wrdRows_length]; exact hi
  obtain ⟨b', full, ver, hbl, hbx⟩ := h.w.box (fun e => by rw [e] at hir; simp at hir)
  have e : b' = b := by rw [hbl] at hb; cases hb; rfl
  subst e
  obtain ⟨b1, o1, he1, _, ha1, _⟩ := h.w.arr.get i hir
  have hel : elemA bl 2 (i : Int) = some (.ptr b' (i * 2)) := by
    rw [hbl, elemA_sl, if_pos ⟨by omega, by omega, rfl⟩]
    simp
  rw [hel] at he1
  cases he1
  have h1 := ha1 [] 0 (by omega)
  rw [List.append_nil, wrdRows_get] at h1
  refine ⟨hel, h1, ?_⟩
  have := (h.w.ops i hi).len
  simpa using this
theorem Tr26.step {st : St} {C Z T : Box} {ml : Nat} {sz bl : AV} {zs : List Int} {L : St} {f : Nat → AV} {l : List WrdV} (h : Tr26 st C Z T ml sz bl zs L f l) (i : Nat) (hi : i < l.length) {b : Nat} (hb : boxOf bl = some b) (hb3 : b ≠ st.length + (ml + 1 + 1)) (hzb : boxOf sz ≠ some b)
    {w : AV} {o : List OpV} (hw : OpsAt (st ++ (C :: Z :: L)) (st.length + 2) (st ++ (C :: Z :: L)).length w o) (hwb : boxOf w = boxOf (f i)) (hwc : w.isCell = true) :
    ∃ L', St.put (st ++ (C :: Z :: L)) b (i * 2 + 0) [w] = some (st ++ (C :: Z :: L')) ∧ Tr26 st C Z T ml sz bl zs L' (fun j => if j = i then w else f j) (l.set i { l[i] with ops := o }) := by
  have hir : i < (wrdRows l f).length := by rw [wrdRows_length]; exact hi
  obtain ⟨b', full, ver, hbl, hbx⟩ := h.w.box (fun e => by rw [e] at hir; simp at hir)
  have e : b' = b := by rw [hbl] at hb; cases hb; rfl
  subst e
  have hbb := h.w.bnd b' hb
  have hfl : (wrdRows l f).flatten.length = (wrdRows l f).length * 2 := by
    have : ∀ (r : List (List AV)), (∀ x ∈ r, x.length = 2) → r.flatten.length = r.length * 2 := fun r => by
      induction r with
      | nil => intro _; rfl
      | cons x r ih => intro hr; rw [List.flatten_cons, List.length_append, hr x (by simp), ih fun y hy => hr y (by simp [hy]), List.length_cons]; omega
    exact this _ (wrdRows_row l f)
  have hput := put_box (vs := [w]) (o := i * 2 + 0) hbx (by rw [hfl]; simp; omega) (by simp [hwc])
  rw [wrdRows_length] at hbl
  have hW := h.w.put i hi hbl hbx hw hwb
  have hag := Agree.set (st ++ (C :: Z :: L)) b' ⟨splice (wrdRows l f).flatten (i * 2 + 0) [w], 0, ver + 1⟩
  obtain ⟨L', hL'⟩ := Agree.shape (st := st) (M := [C, Z]) (N := L) hag (fun c hc => by rw [hc]; simpa using hbb.1)
  simp only [List.cons_append, List.nil_append] at hL'
  rw [hL'] at hput hW hag
  refine ⟨L', hput, ?_, hW, ?_⟩
  · have hml := (List.getElem?_eq_some_iff.1 h.t).1
    have h1 := hag.eq (st.length + (ml + 1 + 1)) (by simp; omega) (fun e => hb3 e.symm)
    rw [List.getElem?_append_right (by omega), List.getElem?_append_right (by omega), Nat.add_sub_cancel_left, List.getElem?_cons_succ, List.getElem?_cons_succ, List.getElem?_cons_succ, List.getElem?_cons_succ] at h1
    rw [h1]
    exact h.t
  · exact (h.z.agree hag fun c hc e => hzb (by rw [hc, e])).wide hag.len
section
variable {X : Cx} {st : St}
set_option maxHeartbeats 2000000 in
theorem w_l26_cut (h : On X) {lo hi : Nat} {v : AV} {U : CodV} (hv : CodAt st lo hi v U) :
    wpF X 10 [v] st fun r s => ∃ w, r = .ret w ∧ (∃ m, s = st ++ m) ∧ ∃ lo hi, st.length ≤ lo ∧ CodAt s lo hi w (cut26 U) := by
  refine wpF_go (fn := v_l26_cut) (by rw [h.F]; rfl) ?_
  have hm := fun L => CodAt.mono hv L
  obtain ⟨s, bl, rfl, hs, hb⟩ := hv
  have l2 : lenA bl = some U.words.length := by
    obtain ⟨f, hb, _⟩ := hb
    have := hb.len
    simpa using this
  clear hs hb
  simp only [v_l26_cut, l2, kB, kZ, kD, xr, xu, xz, xl, xg, xk, xn, xo, xc, xd, xe, xf, xj, xm, xi, xh, reduceIte, reduceCtorEq, xw, xv, xy, xq, xb, xa, xp]
  have hcut : cut26 U = if decide (40 < (U.words.length : Int)) && decide ((U.words.length : Int) ≤ 60000) then cutC U 40 20 else { cutC U 60001 1048576 with words := (cutC U 60001 1048576).words.map trimW } := rfl
  rw [hcut]
  clear hcut
  cases hc1 : decide (40 < (U.words.length : Int)) && decide ((U.words.length : Int) ≤ 60000)
  case true =>
    rw [if_pos rfl]
    simp only [Bool.and_eq_true] at hc1
    simp only [hc1.1, hc1.2, l2, kB, kZ, kD, xr, xu, xz, xl, xg, xk, xn, xo, xc, xd, xe, xf, xj, xm, xi, xh, reduceIte, reduceCtorEq, xw, xv, xy, xq, xb, xa, xp]
    refine callO_newC (w_r26_Cut h (hm _) 40 20 (by omega) (by omega)) ?_
    intro w m hw
    obtain ⟨sz, bl2, f, rfl, hz2, hb2⟩ := hw.ex
    have hszc := isCell_len hz2.own.arr.len
    have hblc := isCell_len hb2.own.arr.len
    simp only [hszc, hblc, kB, kZ, kD, xr, xu, xz, xl, xg, xk, xn, xo, xc, xd, xe, xf, xj, xm, xi, xh, reduceIte, reduceCtorEq, xw, xv, xy, xq, xb, xa, xp]
    have hag := Agree.swap st [⟨[s, iA U.params, iA U.regs, iA U.code, iA U.spill, bl], 0, 0⟩] ⟨[.sc (.slice none 0 0), iA 0, iA 0, iA 0, iA 0, .sc (.slice none 0 0)], 0, 0⟩ ⟨[sz, iA U.params, iA U.regs, iA U.code, iA U.spill, bl2], 0, 1⟩ m
    have hl : (st ++ ([⟨[s, iA U.params, iA U.regs, iA U.code, iA U.spill, bl], 0, 0⟩, ⟨[.sc (.slice none 0 0), iA 0, iA 0, iA 0, iA 0, .sc (.slice none 0 0)], 0, 0⟩] : St)).length = st.length + 2 := by simp
    rw [hl] at hz2 hb2
    simp only [List.append_assoc, List.cons_append, List.nil_append] at hz2 hb2
    first | refine ⟨_, rfl, ⟨_, rfl⟩, ?_⟩ | refine ⟨⟨_, rfl⟩, ?_⟩
    have hO : OwnC (st ++ (⟨[s, iA U.params, iA U.regs, iA U.code, iA U.spill, bl], 0, 0⟩ :: ⟨[sz, iA U.params, iA U.regs, iA U.code, iA U.spill, bl2], 0, 1⟩ :: m)) st.length _ (cutC U 40 20) := ⟨sz, bl2, f, rfl, (hz2.agree hag (fun b hb _ h => by simp at h; omega)).low (by omega), (hb2.agree hag (fun b hb _ h => by simp at h; omega)).low (by omega)⟩
    exact ⟨_, _, Nat.le_refl _, hO.cod⟩
  have hcond : (decide (40 < (U.words.length : Int)) = true → decide ((U.words.length : Int) ≤ 60000) = false) := fun h => by rw [h] at hc1; simpa using hc1
  obtain ⟨D, hD⟩ : ∃ D, cutC U 60001 1048576 = D := ⟨_, rfl⟩
  have hDl : D.words.length ≤ 60001 := by rw [← hD]; simp [cutC]; omega
  have hwc := w_r26_Cut (st := st ++ [⟨[s, iA U.params, iA U.regs, iA U.code, iA U.spill, bl], 0, 0⟩, ⟨[.sc (.slice none 0 0), iA 0, iA 0, iA 0, iA 0, .sc (.slice none 0 0)], 0, 0⟩]) h (hm _) 60001 1048576 (by omega) (by omega)
  rw [hD] at hwc
  rw [hD]
  simp only [Bool.false_eq_true, if_false]
  obtain hc2 | ⟨hc2, hc3⟩ : decide (40 < (U.words.length : Int)) = false ∨ (decide (40 < (U.words.length : Int)) = true ∧ decide ((U.words.length : Int) ≤ 60000) = false) := by
    cases hc2 : decide (40 < (U.words.length : Int))
    · exact .inl rfl
    · exact .inr ⟨rfl, hcond hc2⟩
  · simp only [hc2, l2, kB, kZ, kD, xr, xu, xz, xl, xg, xk, xn, xo, xc, xd, xe, xf, xj, xm, xi, xh, reduceIte, reduceCtorEq, xw, xv, xy, xq, xb, xa, xp]
    refine callO_newC hwc ?_
    intro w m hw
    obtain ⟨sz, bl2, f, rfl, hz2, hb2⟩ := hw.ex
    have hszc := isCell_len hz2.own.arr.len
    have hblc := isCell_len hb2.own.arr.len
    simp only [hszc, hblc, List.append_assoc, List.cons_append, List.nil_append, kB, kZ, kD, xr, xu, xz, xl, xg, xk, xn, xo, xc, xd, xe, xf, xj, xm, xi, xh, reduceIte, reduceCtorEq, xw, xv, xy, xq, xb, xa, xp]
    have hl : (st ++ ([⟨[s, iA U.params, iA U.regs, iA U.code, iA U.spill, bl], 0, 0⟩, ⟨[.sc (.slice none 0 0), iA 0, iA 0, iA 0, iA 0, .sc (.slice none 0 0)], 0, 0⟩] : St)).length = st.length + 2 := by simp
    have hT0 : Tr26 st ⟨[s, iA U.params, iA U.regs, iA U.code, iA U.spill, bl], 0, 0⟩ ⟨[.sc (.slice none 0 0), iA 0, iA 0, iA 0, iA 0, .sc (.slice none 0 0)], 0, 0⟩ ⟨[sz, iA D.params, iA D.regs, iA D.code, iA D.spill, bl2], 0, 1⟩ m.length sz bl2 D.sizes (m ++ [⟨[sz, iA D.params, iA D.regs, iA D.code, iA D.spill, bl2], 0, 1⟩]) f D.words := by
      have e : st ++ (⟨[s, iA U.params, iA U.regs, iA U.code, iA U.spill, bl], 0, 0⟩ :: ⟨[.sc (.slice none 0 0), iA 0, iA 0, iA 0, iA 0, .sc (.slice none 0 0)], 0, 0⟩ :: (m ++ [⟨[sz, iA D.params, iA D.regs, iA D.code, iA D.spill, bl2], 0, 1⟩])) = (st ++ [⟨[s, iA U.params, iA U.regs, iA U.code, iA U.spill, bl], 0, 0⟩, ⟨[.sc (.slice none 0 0), iA 0, iA 0, iA 0, iA 0, .sc (.slice none 0 0)], 0, 0⟩] ++ m) ++ [⟨[sz, iA D.params, iA D.regs, iA D.code, iA D.spill, bl2], 0, 1⟩] := by simp
      have hag := Agree.app (fun _ => False) (st ++ [⟨[s, iA U.params, iA U.regs, iA U.code, iA U.spill, bl], 0, 0⟩, ⟨[.sc (.slice none 0 0), iA 0, iA 0, iA 0, iA 0, .sc (.slice none 0 0)], 0, 0⟩] ++ m) [⟨[sz, iA D.params, iA D.regs, iA D.code, iA D.spill, bl2], 0, 1⟩]
      rw [hl] at hb2 hz2
      refine ⟨by simp, ?_, ?_⟩
      · rw [e]; exact hb2.wm.agree hag (fun _ _ _ h => h)
      · rw [e]; exact (hz2.own.arr.agree hag (fun _ _ h => h)).wide hag.len
    have hbn : ∀ b, boxOf bl2 = some b → b ≠ st.length + (m.length + 1 + 1) ∧ boxOf sz ≠ some b := fun b hb => by
      have h1 := (hb2.own.bnd b hb).2
      refine ⟨by simp at h1; omega, fun h2 => (hz2.sep b h2).1 hb⟩
    have hszl : ∀ b, boxOf sz = some b → st.length + 2 ≤ b := fun b hb => by
      have h1 := (hz2.own.bnd b hb).1
      rw [hl] at h1
      exact h1
    have l4 : lenA bl2 = some D.words.length := by
      have := hb2.own.arr.len
      rw [wrdRows_length] at this
      exact this
    clear hz2 hb2 hw hwc
    refine loop_inv (fun n e s' => ∃ (i : Nat) (L : St) (f1 : Nat → AV), s' = st ++ (⟨[s, iA U.params, iA U.regs, iA U.code, iA U.spill, bl], 0, 0⟩ :: ⟨[.sc (.slice none 0 0), iA 0, iA 0, iA 0, iA 0, .sc (.slice none 0 0)], 0, 0⟩ :: L) ∧ e 2 = .ptr (st.length + 1) 0 ∧ e 3 = .ptr (st.length + (m.length + 1 + 1)) 0 ∧ e 4 = iA i ∧ i + n = D.words.length ∧
      Tr26 st ⟨[s, iA U.params, iA U.regs, iA U.code, iA U.spill, bl], 0, 0⟩ ⟨[.sc (.slice none 0 0), iA 0, iA 0, iA 0, iA 0, .sc (.slice none 0 0)], 0, 0⟩ ⟨[sz, iA D.params, iA D.regs, iA D.code, iA D.spill, bl2], 0, 1⟩ m.length sz bl2 D.sizes L f1 ((D.words.take i).map trimW ++ D.words.drop i)) ?_ D.words.length ?_
    case refine_2 => exact ⟨0, m ++ [⟨[sz, iA D.params, iA D.regs, iA D.code, iA D.spill, bl2], 0, 1⟩], f, rfl, rfl, rfl, rfl, by omega, by simpa using hT0⟩
    clear hT0 hl
    intro n e s' ⟨i, L, f1, hs', k2, k3, k4, him, hT⟩
    subst hs'
    have hT5 : St.at1 L m.length 5 = some bl2 := by rw [at1_box hT.t (by decide)]; rfl
    have hT6 : St.atN L m.length 0 6 = some [sz, iA D.params, iA D.regs, iA D.code, iA D.spill, bl2] := by rw [atN_box hT.t (by decide) _ _ (by simp)]; rfl
    simp only [k2, k3, k4, hT5, l4, kB, kZ, kD, xr, xu, xz, xl, xg, xk, xn, xo, xc, xd, xe, xf, xj, xm, xi, xh, reduceIte, reduceCtorEq, xw, xv, xy, xq, xb, xa, xp]
    refine condO_intro ?_ ?_ <;> intro hc
    · have hil : i < D.words.length := by have := of_decide_eq_true hc; omega
      have hll : ((D.words.take i).map trimW ++ D.words.drop i).length = D.words.length := by simp; omega
      have hgi : ((D.words.take i).map trimW ++ D.words.drop i)[i]'(by rw [hll]; exact hil) = D.words[i] := by
        rw [List.getElem_append_right (by simp; omega)]
        simp [Nat.min_eq_left (Nat.le_of_lt hil)]
      obtain ⟨b, hb⟩ : ∃ b, boxOf bl2 = some b := by
        obtain ⟨b, full, ver, hbl, _⟩ := hT.w.box (fun e => by
          have h0 : D.words.length = 0 := by
            have := congrArg List.length e
            rw [wrdRows_length, hll] at this
            exact this
          omega)
        exact ⟨b, by rw [hbl]; rfl⟩
      obtain ⟨hb3, hzb⟩ := hbn b hb
      obtain ⟨g1, g2, g3⟩ := hT.get i (by rw [hll]; exact hil) hb
      rw [hgi] at g3
      obtain ⟨l0, hl0⟩ : ∃ l0, ((D.words.take i).map trimW ++ D.words.drop i) = l0 := ⟨_, rfl⟩
      have hfin : l0.set i (trimW D.words[i]) = (D.words.take (i + 1)).map trimW ++ D.words.drop (i + 1) := by
        rw [← hl0, List.set_append_right _ _ (by simp; omega)]
        rw [← List.take_append_getElem hil, List.map_append]
        simp only [List.length_map, List.length_take, Nat.min_eq_left (Nat.le_of_lt hil), Nat.sub_self]
        rw [List.drop_eq_getElem_cons hil]
        simp only [List.set_cons_zero, List.map_cons, List.map_nil, List.append_assoc, List.cons_append, List.nil_append]
      have hi0 : i < l0.length := by rw [← hl0, hll]; exact hil
      have hg0 : l0[i] = D.words[i] := by
        have := hgi
        simp only [hl0] at this
        exact this
      rw [hl0] at hT
      clear hgi hll hl0
      simp only [k2, k3, k4, hT5, g1, g2, g3, kB, kZ, kD, xr, xu, xz, xl, xg, xk, xn, xo, xc, xd, xe, xf, xj, xm, xi, xh, reduceIte, reduceCtorEq, xw, xv, xy, xq, xb, xa, xp]
      refine anyCond m0 (fun e s' => ∃ (L' : St) (f2 : Nat → AV), s' = st ++ (⟨[s, iA U.params, iA U.regs, iA U.code, iA U.spill, bl], 0, 0⟩ :: ⟨[.sc (.slice none 0 0), iA 0, iA 0, iA 0, iA 0, .sc (.slice none 0 0)], 0, 0⟩ :: L') ∧ e 2 = .ptr (st.length + 1) 0 ∧ e 3 = .ptr (st.length + (m.length + 1 + 1)) 0 ∧ e 4 = iA i ∧ e 5 = .ptr b (i * 2) ∧
        Tr26 st ⟨[s, iA U.params, iA U.regs, iA U.code, iA U.spill, bl], 0, 0⟩ ⟨[.sc (.slice none 0 0), iA 0, iA 0, iA 0, iA 0, .sc (.slice none 0 0)], 0, 0⟩ ⟨[sz, iA D.params, iA D.regs, iA D.code, iA D.spill, bl2], 0, 1⟩ m.length sz bl2 D.sizes L' f2 (l0.set i { l0[i] with ops := if decide ((D.words[i].ops.length : Int) ≤ 400) then D.words[i].ops.take 20 else D.words[i].ops })) ?_ ?_
      · refine condO_intro ?_ ?_ <;> intro hc4
        · have hml : min (D.words[i].ops.length : Int) 20 = ((min D.words[i].ops.length 20 : Nat) : Int) := by omega
          have hmt : D.words[i].ops.take (min D.words[i].ops.length 20) = D.words[i].ops.take 20 := by
            rcases Nat.le_total D.words[i].ops.length 20 with h | h
            · rw [Nat.min_eq_left h, List.take_length, List.take_of_length_le h]
            · rw [Nat.min_eq_right h]
          have hops := hT.w.ops i hi0
          rw [hg0] at hops
          simp only [hc4, k2, k3, k4, hT5, g1, g2, g3, kB, kZ, kD, xr, xu, xz, xl, xg, xk, xn, xo, xc, xd, xe, xf, xj, xm, xi, xh, reduceIte, reduceCtorEq, xw, xv, xy, xq, xb, xa, xp]
          refine opR_preW (vx := f1 i) (n := min D.words[i].ops.length 20) (lo := st.length + 2) (hi := _) (rows := D.words[i].ops.map OpV.row) (by simp only [kB, kZ, kD, xr, xu, xz, xl, xg, xk, xn, xo, xc, xd, xe, xf, xj, xm, xi, xh, reduceIte, reduceCtorEq, xw, xv, xy, xq, xb, xa, xp]) (by rw [hml]; simp only [kB, kZ, kD, xr, xu, xz, xl, xg, xk, xn, xo, xc, xd, xe, xf, xj, xm, xi, xh, reduceIte, reduceCtorEq, xw, xv, xy, xq, xb, xa, xp]; rw [if_pos (by omega)]) hops (by simp; omega) ?_
          intro w1 hw1 hwb1
          rw [← List.map_take, hmt] at hw1
          have hw1l := hw1.len
          have hwc1 := isCell_len hw1l
          have hwo1 := cellsOf_len hw1l
          obtain ⟨L', hput, hT'⟩ := hT.step i hi0 hb hb3 hzb hw1 hwb1 hwc1
          simp only [hwc1, hwo1, hput, hc4, if_true, k2, k3, k4, kB, kZ, kD, xr, xu, xz, xl, xg, xk, xn, xo, xc, xd, xe, xf, xj, xm, xi, xh, reduceIte, reduceCtorEq, xw, xv, xy, xq, xb, xa, xp]
          exact ⟨L', _, rfl, hT'⟩
        · simp only [hc4, k2, k3, k4, Bool.false_eq_true, if_false, kB, kZ, kD, xr, xu, xz, xl, xg, xk, xn, xo, xc, xd, xe, xf, xj, xm, xi, xh, reduceIte, reduceCtorEq, xw, xv, xy, xq, xb, xa, xp]
          have hse : l0.set i { l0[i] with ops := D.words[i].ops } = l0 := by
            rw [show ({ l0[i] with ops := D.words[i].ops } : WrdV) = l0[i] from by rw [hg0]]
            exact List.set_getElem_self _
          exact ⟨L, f1, rfl, by rw [hse]; exact hT⟩
      clear hT g1 g2 g3 hT5 hT6 k2 k3 k4
      rintro e s' ⟨L', f2, rfl, k2, k3, k4, k5, hT⟩
      obtain ⟨o1, ho1⟩ : ∃ o1, (if decide ((D.words[i].ops.length : Int) ≤ 400) then D.words[i].ops.take 20 else D.words[i].ops) = o1 := ⟨_, rfl⟩
      rw [ho1] at hT
      have hi1 : i < (l0.set i { l0[i] with ops := o1 }).length := by rw [List.length_set]; exact hi0
      obtain ⟨g1, g2, g3⟩ := hT.get i hi1 hb
      have hops := hT.w.ops i hi1
      simp only [List.getElem_set_self] at g3 hops
      have hml : min (o1.length : Int) 401 = ((min o1.length 401 : Nat) : Int) := by omega
      have hmt : o1.take (min o1.length 401) = o1.take 401 := by
        rcases Nat.le_total o1.length 401 with h | h
        · rw [Nat.min_eq_left h, List.take_length, List.take_of_length_le h]
        · rw [Nat.min_eq_right h]
      simp only [k2, k3, k4, k5, g1, g2, g3, kB, kZ, kD, xr, xu, xz, xl, xg, xk, xn, xo, xc, xd, xe, xf, xj, xm, xi, xh, reduceIte, reduceCtorEq, xw, xv, xy, xq, xb, xa, xp]
      refine opR_preW (vx := f2 i) (n := min o1.length 401) (lo := st.length + 2) (hi := _) (rows := o1.map OpV.row) (by simp only [kB, kZ, kD, xr, xu, xz, xl, xg, xk, xn, xo, xc, xd, xe, xf, xj, xm, xi, xh, reduceIte, reduceCtorEq, xw, xv, xy, xq, xb, xa, xp]) (by rw [hml]; simp only [kB, kZ, kD, xr, xu, xz, xl, xg, xk, xn, xo, xc, xd, xe, xf, xj, xm, xi, xh, reduceIte, reduceCtorEq, xw, xv, xy, xq, xb, xa, xp]; rw [if_pos (by omega)]) hops (by simp; omega) ?_
      intro w1 hw1 hwb1
      rw [← List.map_take, hmt] at hw1
      have hw1l := hw1.len
      have hwc1 := isCell_len hw1l
      have hwo1 := cellsOf_len hw1l
      obtain ⟨L2, hput, hT'⟩ := hT.step i hi1 hb hb3 hzb hw1 hwb1 hwc1
      have hwr : IntKind.wrap .i64 ((i : Int) + 1) = ((i + 1 : Nat) : Int) := by rw [wrap_small (by omega) (by omega)]; omega
      have hend : (l0.set i { l0[i] with ops := o1 }).set i { (l0.set i { l0[i] with ops := o1 })[i] with ops := o1.take 401 } = (D.words.take (i + 1)).map trimW ++ D.words.drop (i + 1) := by
        rw [← hfin, List.set_set]
        congr 1
        simp only [List.getElem_set_self]
        rw [← ho1]
        unfold trimW trimO
        rw [hg0]
      rw [hend] at hT'
      simp only [hwc1, hwo1, hput, hwr, k2, k3, k4, k5, kB, kZ, kD, xr, xu, xz, xl, xg, xk, xn, xo, xc, xd, xe, xf, xj, xm, xi, xh, reduceIte, reduceCtorEq, xw, xv, xy, xq, xb, xa, xp]
      exact ⟨n - 1, by omega, i + 1, L2, _, rfl, rfl, by omega, hT'⟩
    · have hi3 : i = D.words.length := by have := of_decide_eq_false hc; omega
      rw [hi3, List.take_length, List.drop_length, List.append_nil] at hT
      simp only [hc, k2, k3, k4, hT5, hT6, hszc, hblc, kB, kZ, kD, xr, xu, xz, xl, xg, xk, xn, xo, xc, xd, xe, xf, xj, xm, xi, xh, reduceIte, reduceCtorEq, xw, xv, xy, xq, xb, xa, xp]
      have hag := Agree.swap st [⟨[s, iA U.params, iA U.regs, iA U.code, iA U.spill, bl], 0, 0⟩] ⟨[.sc (.slice none 0 0), iA 0, iA 0, iA 0, iA 0, .sc (.slice none 0 0)], 0, 0⟩ ⟨[sz, iA D.params, iA D.regs, iA D.code, iA D.spill, bl2], 0, 1⟩ L
      refine ⟨⟨_, rfl⟩, st.length + 2, _, by omega, sz, bl2, rfl, ?_, (hT.w.agree hag (fun b hb _ h => by simp at h; omega)).wrds⟩
      exact (hT.z.agree hag (fun b hb h => by
        have h1 := hszl b hb
        simp at h; omega)).wide hag.len
  · simp only [hc2, hc3, l2, kB, kZ, kD, xr, xu, xz, xl, xg, xk, xn, xo, xc, xd, xe, xf, xj, xm, xi, xh, reduceIte, reduceCtorEq, xw, xv, xy, xq, xb, xa, xp]
    refine callO_newC hwc ?_
    intro w m hw
    obtain ⟨sz, bl2, f, rfl, hz2, hb2⟩ := hw.ex
    have hszc := isCell_len hz2.own.arr.len
    have hblc := isCell_len hb2.own.arr.len
    simp only [hszc, hblc, List.append_assoc, List.cons_append, List.nil_append, kB, kZ, kD, xr, xu, xz, xl, xg, xk, xn, xo, xc, xd, xe, xf, xj, xm, xi, xh, reduceIte, reduceCtorEq, xw, xv, xy, xq, xb, xa, xp]
    have hl : (st ++ ([⟨[s, iA U.params, iA U.regs, iA U.code, iA U.spill, bl], 0, 0⟩, ⟨[.sc (.slice none 0 0), iA 0, iA 0, iA 0, iA 0, .sc (.slice none 0 0)], 0, 0⟩] : St)).length = st.length + 2 := by simp
    have hT0 : Tr26 st ⟨[s, iA U.params, iA U.regs, iA U.code, iA U.spill, bl], 0, 0⟩ ⟨[.sc (.slice none 0 0), iA 0, iA 0, iA 0, iA 0, .sc (.slice none 0 0)], 0, 0⟩ ⟨[sz, iA D.params, iA D.regs, iA D.code, iA D.spill, bl2], 0, 1⟩ m.length sz bl2 D.sizes (m ++ [⟨[sz, iA D.params, iA D.regs, iA D.code, iA D.spill, bl2], 0, 1⟩]) f D.words := by
      have e : st ++ (⟨[s, iA U.params, iA U.regs, iA U.code, iA U.spill, bl], 0, 0⟩ :: ⟨[.sc (.slice none 0 0), iA 0, iA 0, iA 0, iA 0, .sc (.slice none 0 0)], 0, 0⟩ :: (m ++ [⟨[sz, iA D.params, iA D.regs, iA D.code, iA D.spill, bl2], 0, 1⟩])) = (st ++ [⟨[s, iA U.params, iA U.regs, iA U.code, iA U.spill, bl], 0, 0⟩, ⟨[.sc (.slice none 0 0), iA 0, iA 0, iA 0, iA 0, .sc (.slice none 0 0)], 0, 0⟩] ++ m) ++ [⟨[sz, iA D.params, iA D.regs, iA D.code, iA D.spill, bl2], 0, 1⟩] := by simp
      have hag := Agree.app (fun _ => False) (st ++ [⟨[s, iA U.params, iA U.regs, iA U.code, iA U.spill, bl], 0, 0⟩, ⟨[.sc (.slice none 0 0), iA 0, iA 0, iA 0, iA 0, .sc (.slice none 0 0)], 0, 0⟩] ++ m) [⟨[sz, iA D.params, iA D.regs, iA D.code, iA D.spill, bl2], 0, 1⟩]
      rw [hl] at hb2 hz2
      refine ⟨by simp, ?_, ?_⟩
      · rw [e]; exact hb2.wm.agree hag (fun _ _ _ h => h)
      · rw [e]; exact (hz2.own.arr.agree hag (fun _ _ h => h)).wide hag.len
    have hbn : ∀ b, boxOf bl2 = some b → b ≠ st.length + (m.length + 1 + 1) ∧ boxOf sz ≠ some b := fun b hb => by
      have h1 := (hb2.own.bnd b hb).2
      refine ⟨by simp at h1; omega, fun h2 => (hz2.sep b h2).1 hb⟩
    have hszl : ∀ b, boxOf sz = some b → st.length + 2 ≤ b := fun b hb => by
      have h1 := (hz2.own.bnd b hb).1
      rw [hl] at h1
      exact h1
    have l4 : lenA bl2 = some D.words.length := by
      have := hb2.own.arr.len
      rw [wrdRows_length] at this
      exact this
    clear hz2 hb2 hw hwc
    refine loop_inv (fun n e s' => ∃ (i : Nat) (L : St) (f1 : Nat → AV), s' = st ++ (⟨[s, iA U.params, iA U.regs, iA U.code, iA U.spill, bl], 0, 0⟩ :: ⟨[.sc (.slice none 0 0), iA 0, iA 0, iA 0, iA 0, .sc (.slice none 0 0)], 0, 0⟩ :: L) ∧ e 2 = .ptr (st.length + 1) 0 ∧ e 3 = .ptr (st.length + (m.length + 1 + 1)) 0 ∧ e 4 = iA i ∧ i + n = D.words.length ∧
      Tr26 st ⟨[s, iA U.params, iA U.regs, iA U.code, iA U.spill, bl], 0, 0⟩ ⟨[.sc (.slice none 0 0), iA 0, iA 0, iA 0, iA 0, .sc (.slice none 0 0)], 0, 0⟩ ⟨[sz, iA D.params, iA D.regs, iA D.code, iA D.spill, bl2], 0, 1⟩ m.length sz bl2 D.sizes L f1 ((D.words.take i).map trimW ++ D.words.drop i)) ?_ D.words.length ?_
    case refine_2 => exact ⟨0, m ++ [⟨[sz, iA D.params, iA D.regs, iA D.code, iA D.spill, bl2], 0, 1⟩], f, rfl, rfl, rfl, rfl, by omega, by simpa using hT0⟩
    clear hT0 hl
    intro n e s' ⟨i, L, f1, hs', k2, k3, k4, him, hT⟩
    subst hs'
    have hT5 : St.at1 L m.length 5 = some bl2 := by rw [at1_box hT.t (by decide)]; rfl
    have hT6 : St.atN L m.length 0 6 = some [sz, iA D.params, iA D.regs, iA D.code, iA D.spill, bl2] := by rw [atN_box hT.t (by decide) _ _ (by simp)]; rfl
    simp only [k2, k3, k4, hT5, l4, kB, kZ, kD, xr, xu, xz, xl, xg, xk, xn, xo, xc, xd, xe, xf, xj, xm, xi, xh, reduceIte, reduceCtorEq, xw, xv, xy, xq, xb, xa, xp]
    refine condO_intro ?_ ?_ <;> intro hc
    · have hil : i < D.words.length := by have := of_decide_eq_true hc; omega
      have hll : ((D.words.take i).map trimW ++ D.words.drop i).length = D.words.length := by simp; omega
      have hgi : ((D.words.take i).map trimW ++ D.words.drop i)[i]'(by rw [hll]; exact hil) = D.words[i] := by
        rw [List.getElem_append_right (by simp; omega)]
        simp [Nat.min_eq_left (Nat.le_of_lt hil)]
      obtain ⟨b, hb⟩ : ∃ b, boxOf bl2 = some b := by
        obtain ⟨b, full, ver, hbl, _⟩ := hT.w.box (fun e => by
          have h0 : D.words.length = 0 := by
            have := congrArg List.length e
            rw [wrdRows_length, hll] at this
            exact this
          omega)
        exact ⟨b, by rw [hbl]; rfl⟩
      obtain ⟨hb3, hzb⟩ := hbn b hb
      obtain ⟨g1, g2, g3⟩ := hT.get i (by rw [hll]; exact hil) hb
      rw [hgi] at g3
      obtain ⟨l0, hl0⟩ : ∃ l0, ((D.words.take i).map trimW ++ D.words.drop i) = l0 := ⟨_, rfl⟩
      have hfin : l0.set i (trimW D.words[i]) = (D.words.take (i + 1)).map trimW ++ D.words.drop (i + 1) := by
        rw [← hl0, List.set_append_right _ _ (by simp; omega)]
        rw [← List.take_append_getElem hil, List.map_append]
        simp only [List.length_map, List.length_take, Nat.min_eq_left (Nat.le_of_lt hil), Nat.sub_self]
        rw [List.drop_eq_getElem_cons hil]
        simp only [List.set_cons_zero, List.map_cons, List.map_nil, List.append_assoc, List.cons_append, List.nil_append]
      have hi0 : i < l0.length := by rw [← hl0, hll]; exact hil
      have hg0 : l0[i] = D.words[i] := by
        have := hgi
        simp only [hl0] at this
        exact this
      rw [hl0] at hT
      clear hgi hll hl0
      simp only [k2, k3, k4, hT5, g1, g2, g3, kB, kZ, kD, xr, xu, xz, xl, xg, xk, xn, xo, xc, xd, xe, xf, xj, xm, xi, xh, reduceIte, reduceCtorEq, xw, xv, xy, xq, xb, xa, xp]
      refine anyCond m0 (fun e s' => ∃ (L' : St) (f2 : Nat → AV), s' = st ++ (⟨[s, iA U.params, iA U.regs, iA U.code, iA U.spill, bl], 0, 0⟩ :: ⟨[.sc (.slice none 0 0), iA 0, iA 0, iA 0, iA 0, .sc (.slice none 0 0)], 0, 0⟩ :: L') ∧ e 2 = .ptr (st.length + 1) 0 ∧ e 3 = .ptr (st.length + (m.length + 1 + 1)) 0 ∧ e 4 = iA i ∧ e 5 = .ptr b (i * 2) ∧
        Tr26 st ⟨[s, iA U.params, iA U.regs, iA U.code, iA U.spill, bl], 0, 0⟩ ⟨[.sc (.slice none 0 0), iA 0, iA 0, iA 0, iA 0, .sc (.slice none 0 0)], 0, 0⟩ ⟨[sz, iA D.params, iA D.regs, iA D.code, iA D.spill, bl2], 0, 1⟩ m.length sz bl2 D.sizes L' f2 (l0.set i { l0[i] with ops := if decide ((D.words[i].ops.length : Int) ≤ 400) then D.words[i].ops.take 20 else D.words[i].ops })) ?_ ?_
      · refine condO_intro ?_ ?_ <;> intro hc4
        · have hml : min (D.words[i].ops.length : Int) 20 = ((min D.words[i].ops.length 20 : Nat) : Int) := by omega
          have hmt : D.words[i].ops.take (min D.words[i].ops.length 20) = D.words[i].ops.take 20 := by
            rcases Nat.le_total D.words[i].ops.length 20 with h | h
            · rw [Nat.min_eq_left h, List.take_length, List.take_of_length_le h]
            · rw [Nat.min_eq_right h]
          have hops := hT.w.ops i hi0
          rw [hg0] at hops
          simp only [hc4, k2, k3, k4, hT5, g1, g2, g3, kB, kZ, kD, xr, xu, xz, xl, xg, xk, xn, xo, xc, xd, xe, xf, xj, xm, xi, xh, reduceIte, reduceCtorEq, xw, xv, xy, xq, xb, xa, xp]
          refine opR_preW (vx := f1 i) (n := min D.words[i].ops.length 20) (lo := st.length + 2) (hi := _) (rows := D.words[i].ops.map OpV.row) (by simp only [kB, kZ, kD, xr, xu, xz, xl, xg, xk, xn, xo, xc, xd, xe, xf, xj, xm, xi, xh, reduceIte, reduceCtorEq, xw, xv, xy, xq, xb, xa, xp]) (by rw [hml]; simp only [kB, kZ, kD, xr, xu, xz, xl, xg, xk, xn, xo, xc, xd, xe, xf, xj, xm, xi, xh, reduceIte, reduceCtorEq, xw, xv, xy, xq, xb, xa, xp]; rw [if_pos (by omega)]) hops (by simp; omega) ?_
          intro w1 hw1 hwb1
          rw [← List.map_take, hmt] at hw1
          have hw1l := hw1.len
          have hwc1 := isCell_len hw1l
          have hwo1 := cellsOf_len hw1l
          obtain ⟨L', hput, hT'⟩ := hT.step i hi0 hb hb3 hzb hw1 hwb1 hwc1
          simp only [hwc1, hwo1, hput, hc4, if_true, k2, k3, k4, kB, kZ, kD, xr, xu, xz, xl, xg, xk, xn, xo, xc, xd, xe, xf, xj, xm, xi, xh, reduceIte, reduceCtorEq, xw, xv, xy, xq, xb, xa, xp]
          exact ⟨L', _, rfl, hT'⟩
        · simp only [hc4, k2, k3, k4, Bool.false_eq_true, if_false, kB, kZ, kD, xr, xu, xz, xl, xg, xk, xn, xo, xc, xd, xe, xf, xj, xm, xi, xh, reduceIte, reduceCtorEq, xw, xv, xy, xq, xb, xa, xp]
          have hse : l0.set i { l0[i] with ops := D.words[i].ops } = l0 := by
            rw [show ({ l0[i] with ops := D.words[i].ops } : WrdV) = l0[i] from by rw [hg0]]
            exact List.set_getElem_self _
          exact ⟨L, f1, rfl, by rw [hse]; exact hT⟩
      clear hT g1 g2 g3 hT5 hT6 k2 k3 k4
      rintro e s' ⟨L', f2, rfl, k2, k3, k4, k5, hT⟩
      obtain ⟨o1, ho1⟩ : ∃ o1, (if decide ((D.words[i].ops.length : Int) ≤ 400) then D.words[i].ops.take 20 else D.words[i].ops) = o1 := ⟨_, rfl⟩
      rw [ho1] at hT
      have hi1 : i < (l0.set i { l0[i] with ops := o1 }).length := by rw [List.length_set]; exact hi0
      obtain ⟨g1, g2, g3⟩ := hT.get i hi1 hb
      have hops := hT.w.ops i hi1
      simp only [List.getElem_set_self] at g3 hops
      have hml : min (o1.length : Int) 401 = ((min o1.length 401 : Nat) : Int) := by omega
      have hmt : o1.take (min o1.length 401) = o1.take 401 := by
        rcases Nat.le_total o1.length 401 with h | h
        · rw [Nat.min_eq_left h, List.take_length, List.take_of_length_le h]
        · rw [Nat.min_eq_right h]
      simp only [k2, k3, k4, k5, g1, g2, g3, kB, kZ, kD, xr, xu, xz, xl, xg, xk, xn, xo, xc, xd, xe, xf, xj, xm, xi, xh, reduceIte, reduceCtorEq, xw, xv, xy, xq, xb, xa, xp]
      refine opR_preW (vx := f2 i) (n := min o1.length 401) (lo := st.length + 2) (hi := _) (rows := o1.map OpV.row) (by simp only [kB, kZ, kD, xr, xu, xz, xl, xg, xk, xn, xo, xc, xd, xe, xf, xj, xm, xi, xh, reduceIte, reduceCtorEq, xw, xv, xy, xq, xb, xa, xp]) (by rw [hml]; simp only [kB, kZ, kD, xr, xu, xz, xl, xg, xk, xn, xo, xc, xd, xe, xf, xj, xm, xi, xh, reduceIte, reduceCtorEq, xw, xv, xy, xq, xb, xa, xp]; rw [if_pos (by omega)]) hops (by simp; omega) ?_
      intro w1 hw1 hwb1
      rw [← List.map_take, hmt] at hw1
      have hw1l := hw1.len
      have hwc1 := isCell_len hw1l
      have hwo1 := cellsOf_len hw1l
      obtain ⟨L2, hput, hT'⟩ := hT.step i hi1 hb hb3 hzb hw1 hwb1 hwc1
      have hwr : IntKind.wrap .i64 ((i : Int) + 1) = ((i + 1 : Nat) : Int) := by rw [wrap_small (by omega) (by omega)]; omega
      have hend : (l0.set i { l0[i] with ops := o1 }).set i { (l0.set i { l0[i] with ops := o1 })[i] with ops := o1.take 401 } = (D.words.take (i + 1)).map trimW ++ D.words.drop (i + 1) := by
        rw [← hfin, List.set_set]
        congr 1
        simp only [List.getElem_set_self]
        rw [← ho1]
        unfold trimW trimO
        rw [hg0]
      rw [hend] at hT'
      simp only [hwc1, hwo1, hput, hwr, k2, k3, k4, k5, kB, kZ, kD, xr, xu, xz, xl, xg, xk, xn, xo, xc, xd, xe, xf, xj, xm, xi, xh, reduceIte, reduceCtorEq, xw, xv, xy, xq, xb, xa, xp]
      exact ⟨n - 1, by omega, i + 1, L2, _, rfl, rfl, by omega, hT'⟩
    · have hi3 : i = D.words.length := by have := of_decide_eq_false hc; omega
      rw [hi3, List.take_length, List.drop_length, List.append_nil] at hT
      simp only [hc, k2, k3, k4, hT5, hT6, hszc, hblc, kB, kZ, kD, xr, xu, xz, xl, xg, xk, xn, xo, xc, xd, xe, xf, xj, xm, xi, xh, reduceIte, reduceCtorEq, xw, xv, xy, xq, xb, xa, xp]
      have hag := Agree.swap st [⟨[s, iA U.params, iA U.regs, iA U.code, iA U.spill, bl], 0, 0⟩] ⟨[.sc (.slice none 0 0), iA 0, iA 0, iA 0, iA 0, .sc (.slice none 0 0)], 0, 0⟩ ⟨[sz, iA D.params, iA D.regs, iA D.code, iA D.spill, bl2], 0, 1⟩ L
      refine ⟨⟨_, rfl⟩, st.length + 2, _, by omega, sz, bl2, rfl, ?_, (hT.w.agree hag (fun b hb _ h => by simp at h; omega)).wrds⟩
      exact (hT.z.agree hag (fun b hb h => by
        have h1 := hszl b hb
        simp at h; omega)).wide hag.len
end
end Go.VX.Seat
end
section
set_option maxRecDepth 4000
namespace Go.VX.Seat
open Go.Proofs
section
variable {X : Cx} {st : St}
end
end Go.VX.Seat
end
section
set_option maxRecDepth 4000
namespace Go.VX.Seat
open Go.Proofs
theorem callO_codB {X : Cx} {env : Env} {st : St} {Q : Post3} {K : Env → St → Post3 → Prop} {f : FuncId} {args : List AV} {dst : Option Nat} {keep : List VOpd} {C : CodV} (hw : wpF X f args st fun r s => ∃ w, r = .ret w ∧ (∃ m, s = st ++ m) ∧ ∃ lo hi, st.length ≤ lo ∧ CodAt s lo hi w C)
    (h : ∀ w m lo hi, st.length ≤ lo → CodAt (st ++ m) lo hi w C → K (env.put dst w) (st ++ m) Q) : callO X f args dst keep K env st Q := by
  refine wpF.mono hw ?_
  rintro r s ⟨w, rfl, ⟨m, rfl⟩, lo, hi, h0, h1⟩
  exact ⟨kept_app _ _ _ _, h w m lo hi h0 h1⟩
section
variable {X : Cx} {st : St}
end
end Go.VX.Seat
end
section
set_option maxRecDepth 4000
namespace Go.VX.Seat
open Go.Proofs
section
variable {X : Cx} {st : St}
end
end Go.VX.Seat
end
section
set_option maxRecDepth 4000
namespace Go.VX.Seat
open Go.Proofs
open Go.VX.AV renaming cell? → xa, toV → xb
open Int renaming reduceAdd → xc, reduceLE → xd, reduceLT → xe, reduceNeg → xf, reduceToNat → xg
open Nat renaming reduceAdd → xh, reduceEqDiff → xi, reduceLeDiff → xj, reduceMul → xk, reduceSub → xl
open Go.VX.VOpd renaming ev → xm
open Go.VX renaming asInt? → xn, asNat? → xo, cellVal → xp, cellsV → xq, fillA → xr, partsEv → xu, resOf → xv, splice → xw, tupOf → xy, zeroes → xz
theorem c_cv16i (a : Int) : closed Go.Proofs.Tryz.prog (convert 57 3 (.int .u16 a)) = some (.int .i64 (IntKind.wrap .i64 a)) := by kernel_rfl
theorem c_remi (P : Program) (t : TypeId) (a b : Int) (hb : b ≠ 0) (ox oy : Operand) : closed P (do eqGuard .rem t ox oy (.int .i64 a) (.int .i64 b); binOp .rem t (.int .i64 a) (.int .i64 b)) = some (.int .i64 (Int.tmod a b)) := by
  have : closed P (do eqGuard .rem t ox oy (.int .i64 a) (.int .i64 b); binOp .rem t (.int .i64 a) (.int .i64 b)) = closed P (Op.intDiv .rem .i64 a b) := rfl
  rw [this]
  unfold Op.intDiv
  rw [if_neg hb]
  rfl
theorem u16_rng {n : Int} (h : (Lit.int .u16 n).wf = true) : 0 ≤ n ∧ n < 65536 := by
  simp only [Lit.wf, Bool.and_eq_true, decide_eq_true_eq] at h
  have h1 : (0 : Int) ≤ n := h.1
  have h2 : n ≤ (65535 : Int) := h.2
  omega
theorem u8_rng {n : Int} (h : (Lit.int .u8 n).wf = true) : 0 ≤ n ∧ n < 256 := by
  simp only [Lit.wf, Bool.and_eq_true, decide_eq_true_eq] at h
  have h1 : (0 : Int) ≤ n := h.1
  have h2 : n ≤ (255 : Int) := h.2
  omega
theorem setByte {s : St} {lo : Nat} {w : AV} {q : List Int} (hown : OwnS s lo w 1 (rowsB q)) (hex : ExactBox s w 1 (rowsB q)) {j : Nat} (hj : j < q.length) (x : Int) :
    ∃ b S2, elemA w 1 (j : Int) = some (.ptr b j) ∧ lo ≤ b ∧ (∀ L, St.at1 (s ++ L) b j = some (.sc (.int .u8 q[j]))) ∧ St.put s b j [.sc (.int .u8 x)] = some S2 ∧ Agree (fun n => n = b) s S2 ∧ ∃ hi, ArrAt S2 lo hi w 1 (rowsB (q.set j x)) := by
  obtain ⟨b, full, ver, rfl, hb⟩ := hex (fun e => by
    have h0 : (rowsB q).length = 0 := by
      rw [e]
      rfl
    rw [List.length_map] at h0
    omega)
  rw [rowsB_flat] at hb
  have hlo := (hown.bnd b rfl).1
  have hbl := (hown.bnd b rfl).2
  have hput := put_box (o := j) (vs := [AV.sc (.int .u8 x)]) hb (by simp; omega) rfl
  have hag := Agree.set s b ⟨splice (q.map fun n => AV.sc (.int .u8 n)) j [AV.sc (.int .u8 x)], 0, ver + 1⟩
  have hsp : splice (q.map fun n => AV.sc (.int .u8 n)) j [AV.sc (.int .u8 x)] = (rowsB (q.set j x)).flatten := by
    rw [rowsB_flat, List.map_set, List.set_eq_take_append_cons_drop, if_pos (by simpa using hj)]
    simp [splice]
  refine ⟨b, _, ?_, hlo, ?_, hput, hag, b + 1, ?_⟩
  · rw [elemA_sl, if_pos ⟨by omega, by simp; omega, rfl⟩]
    simp
  · intro L
    have := (BoxAt.of (m := 0) hb (by decide)).at1 L j
    rw [this, List.getElem?_map, List.getElem?_eq_getElem hj]
    rfl
  · have hb' : (s.set b ⟨splice (q.map fun n => AV.sc (.int .u8 n)) j [AV.sc (.int .u8 x)], 0, ver + 1⟩)[b]? = some ⟨(rowsB (q.set j x)).flatten, 0, ver + 1⟩ := by
      rw [List.getElem?_set_self hbl, hsp]
    have e : (rowsB q).length = (rowsB (q.set j x)).length := by simp
    rw [e]
    exact (ArrAt.ofBox (full := full) hb' (by decide) (fun r hr => by obtain ⟨n, _, rfl⟩ := List.mem_map.1 hr; rfl) rfl).wide' hlo (Nat.le_refl _)
section
variable {X : Cx} {st : St}
set_option maxHeartbeats 2000000 in
theorem w_WordsChanged (h : OnH X) (hg : GB st) {lo hi : Nat} {v : AV} {U0 : CodV} (hv : CodAt st lo hi v U0) (a y : Int) (ha : 0 ≤ a ∧ a < 65536) (hy : 0 ≤ y ∧ y < 256) :
    wpF X 8 [v, .sc (.int .u16 a), .sc (.int .u8 y)] st fun r s => r = .ret (bA true) ∧ ∃ m, s = st ++ m := by
  refine wpF_go (fn := v_l26_WordsChanged) (by rw [h.F]; rfl) ?_
  have cv : ∀ a, closed X.P (convert 57 3 (.int .u16 a)) = some (.int .i64 (IntKind.wrap .i64 a)) := fun a => by rw [h.P]; exact c_cv16i a
  have hm := fun L => hv.mono L
  obtain ⟨s, bl, rfl, hs, hb⟩ := hv
  clear hs hb
  have hcU := fun L => w_l26_cut (st := st ++ L) h.toOn (hm L)
  generalize cut26 U0 = U at *
  simp only [v_l26_WordsChanged, kB, kZ, kD, xr, xu, xz, xl, xg, xk, xn, xo, xc, xd, xe, xf, xj, xm, xi, xh, reduceIte, reduceCtorEq, xw, xv, xy, xq, xb, xa, xp]
  refine callO_codB (hcU _) ?_
  intro w1 m1 lo1 hi1 g1 c1
  simp only [List.append_assoc, List.cons_append, List.nil_append, kB, kZ, kD, xr, xu, xz, xl, xg, xk, xn, xo, xc, xd, xe, xf, xj, xm, xi, xh, reduceIte, reduceCtorEq, xw, xv, xy, xq, xb, xa, xp]
  simp only [List.append_assoc, List.cons_append, List.nil_append] at c1
  refine wpF.mono (w_words_Bytes h (hg.app _) c1) ?_
  rintro r S' ⟨hbad, hok⟩
  by_cases hz : chkR U = 0
  case neg =>
    obtain ⟨rfl, m, rfl⟩ := hbad hz
    refine ⟨keptA_nil _ _ _, ?_⟩
    have hE : decide (chkR U ≠ 0) = true := decide_eq_true hz
    simp only [hE, List.append_assoc, List.cons_append, List.nil_append, kB, kZ, kD, xr, xu, xz, xl, xg, xk, xn, xo, xc, xd, xe, xf, xj, xm, xi, xh, reduceIte, reduceCtorEq, xw, xv, xy, xq, xb, xa, xp]
    refine callO_same (.hook (h.alive _ (hg.app _))) ?_
    simp only [kB, kZ, kD, xr, xu, xz, xl, xg, xk, xn, xo, xc, xd, xe, xf, xj, xm, xi, xh, reduceIte, reduceCtorEq, xw, xv, xy, xq, xb, xa, xp]
    exact ⟨_, rfl⟩
  obtain ⟨w, m, rfl, rfl, hown, hex⟩ := hok hz
  refine ⟨keptA_nil _ _ _, ?_⟩
  have hokC := chkR_ok hz
  have hsz16 : U.sizes.length ≤ 16 := by have := hokC.lim; unfold limR at this; simp at this; omega
  have hbl : (bytesP U).length ≤ 100000000 := by
    have h1 := headBy_len (C := U) hsz16
    have h2 := wordsBy_len U.words
    have h3 := hokC.tot
    have h4 := hokC.n60
    have h5 : (le4 (sumP (bodyBy U))).length = 4 := rfl
    unfold bytesP
    rw [List.length_append, h5]
    unfold bodyBy
    rw [List.length_append]
    omega
  have hb4 : 4 ≤ (bytesP U).length := by
    have h5 : (le4 (sumP (bodyBy U))).length = 4 := rfl
    unfold bytesP
    rw [List.length_append, h5]
    omega
  have hrng := bytesP_rng U
  have hsc := fun (j : Nat) (hj : j < (bytesP U).length) => seal_changed (p := bodyBy U) (bodyBy_rng U) (i := j) hj (xr8_bnd ((bytesP U)[j]) y)
  have l1 := hown.arr.len
  simp only [List.length_map] at l1
  change ∀ (j : Nat) (hj : j < (bytesP U).length), xr8 (bytesP U)[j] y ≠ (bytesP U)[j] → sealBad ((bytesP U).set j (xr8 (bytesP U)[j] y)) = true at hsc
  clear hbad hok hcU hm c1 hokC hsz16
  generalize bytesP U = q at *
  have hE0 : decide ((0 : Int) ≠ 0) = false := by decide
  have hq0 : decide ((q.length : Int) = 0) = false := decide_eq_false (by omega)
  cases hy0 : decide (y = 0)
  case true =>
    simp only [hE0, l1, hq0, hy0, List.append_assoc, List.cons_append, List.nil_append, kB, kZ, kD, xr, xu, xz, xl, xg, xk, xn, xo, xc, xd, xe, xf, xj, xm, xi, xh, reduceIte, reduceCtorEq, xw, xv, xy, xq, xb, xa, xp]
    refine callO_same (.hook (h.alive _ (hg.app _))) ?_
    simp only [kB, kZ, kD, xr, xu, xz, xl, xg, xk, xn, xo, xc, xd, xe, xf, xj, xm, xi, xh, reduceIte, reduceCtorEq, xw, xv, xy, xq, xb, xa, xp]
    exact ⟨_, rfl⟩
  have hy0 := of_decide_eq_false hy0
  have hwa : IntKind.wrap .i64 a = a := wrap_small (by omega) (by omega)
  have hqn : (q.length : Int) ≠ 0 := by omega
  obtain ⟨j, hj, hjm⟩ : ∃ j : Nat, j < q.length ∧ a.tmod (q.length : Int) = (j : Int) := by
    have h1 := Int.emod_nonneg a hqn
    have h2 := Int.emod_lt_of_pos a (show (0 : Int) < q.length by omega)
    exact ⟨(a % (q.length : Int)).toNat, by omega, by rw [Int.tmod_eq_emod_of_nonneg ha.1]; omega⟩
  obtain ⟨b, S2, he, hlob, hat, hput, hag, hi2, har⟩ := setByte hown hex hj (xr8 q[j] y)
  have hsb := hsc j hj (xr8_ne (hrng _ (List.getElem_mem hj)) hy hy0)
  have hr2 : ∀ c ∈ q.set j (xr8 q[j] y), 0 ≤ c ∧ c < 256 := fun c hc => by
    rcases List.mem_or_eq_of_mem_set hc with hc | rfl
    · exact hrng c hc
    · exact xr8_bnd _ _
  have hlb := w_Load_bad h.toOn har (by simp; omega) hr2 hsb
  have hlo2 : st.length ≤ b := by simp at hlob; omega
  have hS : ∃ m, S2 = st ++ m := hag.ext ⟨_, List.append_assoc _ _ _⟩ fun c hc e => by omega
  have hat0 := hat []
  rw [List.append_nil] at hat0
  obtain ⟨m2, rfl⟩ := hS
  clear hown hex hag har hsc hr2 hat g1 hlob
  simp only [List.append_assoc, List.cons_append, List.nil_append] at hput hat0
  simp only [hE0, l1, hq0, hy0, hwa, hjm, he, hat0, hput, cv, c_xor8, c_remi _ _ _ _ hqn, List.append_assoc, List.cons_append, List.nil_append, kB, kZ, kD, xr, xu, xz, xl, xg, xk, xn, xo, xc, xd, xe, xf, xj, xm, xi, xh, reduceIte, reduceCtorEq, xw, xv, xy, xq, xb, xa, xp]
  refine wpF.mono hlb ?_
  rintro r S3 ⟨rfl, m3, rfl⟩
  refine ⟨by first | exact keptA_nil _ _ _ | rfl, ?_⟩
  simp only [List.append_assoc, List.cons_append, List.nil_append, kB, kZ, kD, xr, xu, xz, xl, xg, xk, xn, xo, xc, xd, xe, xf, xj, xm, xi, xh, reduceIte, reduceCtorEq, xw, xv, xy, xq, xb, xa, xp]
  refine callO_same (.hook (h.alive _ (hg.app _))) ?_
  simp only [kB, kZ, kD, xr, xu, xz, xl, xg, xk, xn, xo, xc, xd, xe, xf, xj, xm, xi, xh, reduceIte, reduceCtorEq, xw, xv, xy, xq, xb, xa, xp]
  exact ⟨_, rfl⟩
end
end Go.VX.Seat
end
