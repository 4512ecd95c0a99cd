/- A part of the proofs of the statements of layer 17: S24, S23, E1. No condition is added here. -/
import Derived.Test.YtjimgnlmimimjaaDoorXC7
section
set_option linter.unusedVariables false
set_option linter.unusedSimpArgs false
set_option maxRecDepth 4000
/-! Rows that are written; copies of units. -/
namespace Go.VX.Seat
open Go.Proofs
theorem kept_app (env : Env) (st m : St) (l : List VOpd) : keptA env st (st ++ m) l = true := by
  unfold keptA
  rw [List.all_eq_true]
  intro x _
  split
  · rename_i b o hb
    split
    · rename_i p hp
      rw [List.getElem?_append_left (List.getElem?_eq_some_iff.1 hp).1, hp]
      simp
    · rfl
  · rfl
/-- A call that hands back new memory. -/
theorem callO_new {X : Cx} {env : Env} {st : St} {Q : Post3} {K : Env → St → Post3 → Prop} {f : FuncId} {args : List AV} {dst : Option Nat} {keep : List VOpd} {esz : Nat} {rows : List (List AV)} (hw : wpF X f args st fun r s => NewArr st s r esz rows)
    (h : ∀ w m, OwnS (st ++ m) st.length w esz rows → ExactBox (st ++ m) w esz rows → K (env.put dst w) (st ++ m) Q) : callO X f args dst keep K env st Q := by
  refine wpF.mono hw ?_
  rintro r s ⟨w, m, rfl, rfl, h1, h2⟩
  exact ⟨kept_app _ _ _ _, h w m h1 h2⟩
theorem callO_newU {X : Cx} {env : Env} {st : St} {Q : Post3} {K : Env → St → Post3 → Prop} {f : FuncId} {args : List AV} {dst : Option Nat} {keep : List VOpd} {U : UnitV} (hw : wpF X f args st fun r s => NewU st s r U)
    (h : ∀ w m, OwnU (st ++ m) st.length w U → K (env.put dst w) (st ++ m) Q) : callO X f args dst keep K env st Q := by
  refine wpF.mono hw ?_
  rintro r s ⟨w, rfl, ⟨m, rfl⟩, h1⟩
  exact ⟨kept_app _ _ _ _, h w m h1⟩
/-- One row of one's own list is written. -/
theorem own_setrow {s : St} {lo esz : Nat} {v : AV} {rows : List (List AV)} (hown : OwnS s lo v esz rows) (hex : ExactBox s v esz rows) (i : Nat) (hi : i < rows.length) (k : Nat) (vs : List AV) (hk : k + vs.length ≤ esz) (hc : vs.all AV.isCell = true) :
    ∃ bb s', boxOf v = some bb ∧ elemA v esz (i : Int) = some (.ptr bb (i * esz)) ∧ s.put bb (i * esz + k) vs = some s' ∧ Agree (fun n => n = bb) s s' ∧ OwnS s' lo v esz (rows.set i (splice rows[i] k vs)) ∧ ExactBox s' v esz (rows.set i (splice rows[i] k vs)) := by
  have hrl := hown.arr.rowlen
  obtain ⟨bb, full, ver, rfl, hb⟩ := hex (fun h => by rw [h] at hi; simp at hi)
  have hf := flatten_row hrl i hi
  have hput := put_box (o := i * esz + k) (vs := vs) hb (by omega) hc
  rw [flatten_set hrl i k hi vs hk] at hput
  have hlt := (List.getElem?_eq_some_iff.1 hb).1
  have hb2 : (s.set bb ⟨(rows.set i (splice rows[i] k vs)).flatten, 0, ver + 1⟩)[bb]? = some ⟨(rows.set i (splice rows[i] k vs)).flatten, 0, ver + 1⟩ := by
    rw [List.getElem?_set_self hlt]
  have hrl2 : ∀ r ∈ rows.set i (splice rows[i] k vs), r.length = esz := fun r hr => by
    rcases List.mem_or_eq_of_mem_set hr with h | h
    · exact hrl r h
    · rw [h, splice_length _ _ _ (by rw [hrl _ (List.getElem_mem hi)]; exact hk)]
      exact hrl _ (List.getElem_mem hi)
  refine ⟨bb, _, rfl, ?_, hput, Agree.set _ _ _, ⟨?_, fun b h => ?_, fun b o n e f h => ?_⟩, fun _ => ⟨bb, full, ver + 1, by rw [List.length_set], hb2⟩⟩
  · simp only [elemA, Int.toNat_natCast]
    rw [if_pos ⟨by omega, by omega, trivial⟩, Nat.zero_add]
  · have h1 := hown.bnd bb rfl
    exact (ArrAt.ofBox hb2 (by decide) hrl2 (by rw [List.length_set])).wide' h1.1 (by simp; exact h1.2)
  · have := hown.bnd b h
    simpa using this
  · cases h
    exact .inr (by rw [hb2]; rfl)
theorem blkRows_set (l : List BlkV) (g : Nat → AV) (i : Nat) (b : BlkV) (w : AV) : (blkRows l g).set i (b.row w) = blkRows (l.set i b) (fun j => if j = i then w else g j) := by
  unfold blkRows
  apply List.ext_getElem
  · simp
  · intro j h1 h2
    simp only [List.getElem_mapIdx, List.getElem_set]
    by_cases hj : i = j
    · subst hj; simp
    · rw [if_neg hj, if_neg hj, if_neg (fun e => hj e.symm)]
theorem blkRows_get (l : List BlkV) (g : Nat → AV) (i : Nat) (hi : i < l.length) : (blkRows l g)[i]'(by simpa [blkRows] using hi) = l[i].row (g i) := by simp [blkRows]
theorem blkRows_congr {l : List BlkV} {f g : Nat → AV} (h : ∀ j, j < l.length → f j = g j) : blkRows l f = blkRows l g := by
  unfold blkRows
  apply List.ext_getElem
  · simp
  · intro j h1 h2
    simp only [List.getElem_mapIdx]
    rw [h j (by simpa using h1)]
/-- The operations of a block are laid anew. -/
theorem own_setops {s : St} {lo : Nat} {v w : AV} {l : List BlkV} {g : Nat → AV} (hown : OwnS s lo v 6 (blkRows l g)) (hex : ExactBox s v 6 (blkRows l g)) (i : Nat) (hi : i < l.length) (ops : List OpV) (hc : w.isCell = true) :
    ∃ bb s', boxOf v = some bb ∧ elemA v 6 (i : Int) = some (.ptr bb (i * 6)) ∧ s.put bb (i * 6 + 0) [w] = some s' ∧ Agree (fun n => n = bb) s s' ∧ OwnS s' lo v 6 (blkRows (l.set i { l[i] with ops := ops }) (fun j => if j = i then w else g j)) ∧ ExactBox s' v 6 (blkRows (l.set i { l[i] with ops := ops }) (fun j => if j = i then w else g j)) := by
  have := own_setrow hown hex i (by rw [blkRows_length]; exact hi) 0 [w] (by simp) (by simp [hc])
  rw [blkRows_get l g i hi] at this
  rw [← blkRows_set]
  exact this
/-- The End of a block is laid anew. -/
theorem own_setend {s : St} {lo : Nat} {v : AV} {l : List BlkV} {g : Nat → AV} (hown : OwnS s lo v 6 (blkRows l g)) (hex : ExactBox s v 6 (blkRows l g)) (i : Nat) (hi : i < l.length) (e : EndV) :
    ∃ bb s', boxOf v = some bb ∧ elemA v 6 (i : Int) = some (.ptr bb (i * 6)) ∧ s.put bb (i * 6 + 1) [iA e.k, iA e.a, iA e.t, iA e.e] = some s' ∧ Agree (fun n => n = bb) s s' ∧ OwnS s' lo v 6 (blkRows (l.set i { l[i] with e := e }) g) ∧ ExactBox s' v 6 (blkRows (l.set i { l[i] with e := e }) g) := by
  have := own_setrow hown hex i (by rw [blkRows_length]; exact hi) 1 [iA e.k, iA e.a, iA e.t, iA e.e] (by simp) rfl
  rw [blkRows_get l g i hi] at this
  have he : blkRows (l.set i { l[i] with e := e }) g = (blkRows l g).set i (splice (l[i].row (g i)) 1 [iA e.k, iA e.a, iA e.t, iA e.e]) := by
    rw [show splice (l[i].row (g i)) 1 [iA e.k, iA e.a, iA e.t, iA e.e] = ({ l[i] with e := e } : BlkV).row (g i) from rfl, blkRows_set]
    exact blkRows_congr fun j _ => by
      by_cases h : j = i
      · subst h; simp
      · simp [h]
  rw [he]
  exact this
section
variable {X : Cx} {st : St}
theorem w_code_Copy (h : On X) {lo hi : Nat} {v : AV} {U : UnitV} (hv : UnitAt st lo hi v U) (hz : U.sizes.length ≤ 1000000) (hn : U.blocks.length ≤ 1000000) (hlen : ∀ b ∈ U.blocks, b.ops.length ≤ 1000000) :
    wpF X 41 [v] st fun r s => NewU st s r U := by
  refine wpF_go (fn := v_code_Copy) (by rw [h.F]; rfl) ?_
  obtain ⟨s, bl, rfl, hs, hb⟩ := hv
  obtain ⟨f0, hb0, hbo⟩ := hb
  have hcs := isCell_len hs.len
  have hcb := isCell_len hb0.len
  simp only [v_code_Copy, hcs, hcb, kB, kZ, kD, fillA, partsEv, zeroes, Nat.reduceSub, Int.reduceToNat, Nat.reduceMul, asInt?, asNat?, Int.reduceAdd, Int.reduceLE, Int.reduceLT, Int.reduceNeg, Nat.reduceLeDiff, VOpd.ev, Nat.reduceEqDiff, Nat.reduceAdd, reduceIte, reduceCtorEq, splice, resOf, tupOf, cellsV, AV.toV, AV.cell?, cellVal]
  refine callO_new (w_Clone_int h (hs.mono _) (by simpa using hz)) ?_
  intro sz m1 hsz _
  simp only [kB, kZ, kD, fillA, partsEv, zeroes, Nat.reduceSub, Int.reduceToNat, Nat.reduceMul, asInt?, asNat?, Int.reduceAdd, Int.reduceLE, Int.reduceLT, Int.reduceNeg, Nat.reduceLeDiff, VOpd.ev, Nat.reduceEqDiff, Nat.reduceAdd, reduceIte, reduceCtorEq, splice, resOf, tupOf, cellsV, AV.toV, AV.cell?, cellVal]
  refine callO_new (w_Clone_Block h (hb0.mono _) (by simpa using hn)) ?_
  intro blv m2 hbl hex
  have hszc := isCell_len hsz.arr.len
  have hszo := cellsOf_len hsz.arr.len
  have hblc := isCell_len hbl.arr.len
  have hblo := cellsOf_len hbl.arr.len
  have hbll := hbl.arr.len
  simp only [List.length_mapIdx] at hbll
  simp only [hszc, hszo, hblc, hblo, hbll, kB, kZ, kD, fillA, partsEv, zeroes, Nat.reduceSub, Int.reduceToNat, Nat.reduceMul, asInt?, asNat?, Int.reduceAdd, Int.reduceLE, Int.reduceLT, Int.reduceNeg, Nat.reduceLeDiff, VOpd.ev, Nat.reduceEqDiff, Nat.reduceAdd, reduceIte, reduceCtorEq, splice, resOf, tupOf, cellsV, AV.toV, AV.cell?, cellVal]
  have hl0 : (st ++ ([⟨[s, iA U.params, iA U.regs, iA U.code, iA U.spill, bl], 0, 0⟩, ⟨[.sc (.slice none 0 0), iA 0, iA 0, iA 0, iA 0, .sc (.slice none 0 0)], 0, 0⟩] : St)).length = st.length + 2 := by simp
  have hl1 : (st ++ (⟨[s, iA U.params, iA U.regs, iA U.code, iA U.spill, bl], 0, 0⟩ :: ⟨[.sc (.slice none 0 0), iA 0, iA 0, iA 0, iA 0, .sc (.slice none 0 0)], 0, 0⟩ :: m1 : St)).length = st.length + (m1.length + 2) := by simp
  have hsz1 : OwnS (st ++ (⟨[s, iA U.params, iA U.regs, iA U.code, iA U.spill, bl], 0, 0⟩ :: ⟨[.sc (.slice none 0 0), iA 0, iA 0, iA 0, iA 0, .sc (.slice none 0 0)], 0, 0⟩ :: (m1 ++ m2) : St)) (st.length + 2) sz 1 (U.sizes.map fun n => [iA n]) := by
    have := hsz.agree (Agree.app (fun _ => False) _ m2) (fun _ _ h => h)
    rw [hl0] at this
    simpa using this
  have hsepz : ∀ b, boxOf sz = some b → boxOf blv ≠ some b := fun b hb h => by
    have h1 := (hsz.bnd b hb).2
    have h2 := (hbl.bnd b h).1
    simp at h1 h2
    omega
  have hbl1 : OwnS (st ++ (⟨[s, iA U.params, iA U.regs, iA U.code, iA U.spill, bl], 0, 0⟩ :: ⟨[.sc (.slice none 0 0), iA 0, iA 0, iA 0, iA 0, .sc (.slice none 0 0)], 0, 0⟩ :: (m1 ++ m2) : St)) (st.length + 2) blv 6 (blkRows U.blocks f0) := by
    have := hbl.low (lo' := st.length + 2) (by simp)
    simpa [blkRows] using this
  have hex1 : ExactBox (st ++ (⟨[s, iA U.params, iA U.regs, iA U.code, iA U.spill, bl], 0, 0⟩ :: ⟨[.sc (.slice none 0 0), iA 0, iA 0, iA 0, iA 0, .sc (.slice none 0 0)], 0, 0⟩ :: (m1 ++ m2) : St)) blv 6 (blkRows U.blocks f0) := by
    simpa [blkRows] using hex
  clear hex hbl hsz
  generalize m1 ++ m2 = L at *
  refine loop_inv (fun m e s' => ∃ (L : St) (i : Nat) (g : Nat → AV), s' = st ++ (⟨[sz, iA U.params, iA U.regs, iA U.code, iA U.spill, blv], 0, 2⟩ :: ⟨[.sc (.slice none 0 0), iA 0, iA 0, iA 0, iA 0, .sc (.slice none 0 0)], 0, 0⟩ :: L) ∧
    e 1 = .ptr (st.length + 0) 0 ∧ e 2 = .ptr (st.length + 1) 0 ∧ e 14 = iA U.blocks.length ∧ e 15 = iA i ∧ m + i = U.blocks.length ∧
    OwnS s' (st.length + 2) sz 1 (U.sizes.map fun n => [iA n]) ∧ OwnS s' (st.length + 2) blv 6 (blkRows U.blocks g) ∧ ExactBox s' blv 6 (blkRows U.blocks g) ∧ (∀ j, i ≤ j → g j = f0 j) ∧
    (∀ j (hj : j < U.blocks.length), j < i → OwnS s' (st.length + 2) (g j) 7 (U.blocks[j].ops.map OpV.row)) ∧
    (∀ j, j < i → ∀ b, boxOf (g j) = some b → boxOf sz ≠ some b ∧ boxOf blv ≠ some b ∧ ∀ k, k < i → k ≠ j → boxOf (g k) ≠ some b)) ?_ U.blocks.length ?_
  case refine_2 =>
    have hag := Agree.swap st [] ⟨[s, iA U.params, iA U.regs, iA U.code, iA U.spill, bl], 0, 0⟩ ⟨[sz, iA U.params, iA U.regs, iA U.code, iA U.spill, blv], 0, 2⟩ (⟨[.sc (.slice none 0 0), iA 0, iA 0, iA 0, iA 0, .sc (.slice none 0 0)], 0, 0⟩ :: L)
    refine ⟨L, 0, f0, rfl, ?_, ?_, ?_, ?_, by omega, hsz1.agree hag (fun b hb h => by have := (hsz1.bnd b hb).1; simp at h; omega), hbl1.agree hag (fun b hb h => by have := (hbl1.bnd b hb).1; simp at h; omega), hex1.agree hag (fun b hb h => by have := (hbl1.bnd b hb).1; simp at h; omega), fun _ _ => rfl, fun j _ hj => absurd hj (by omega), fun j hj => absurd hj (by omega)⟩
    all_goals simp only [kB, kZ, kD, fillA, partsEv, zeroes, Nat.reduceSub, Int.reduceToNat, Nat.reduceMul, asInt?, asNat?, Int.reduceAdd, Int.reduceLE, Int.reduceLT, Int.reduceNeg, Nat.reduceLeDiff, VOpd.ev, Nat.reduceEqDiff, Nat.reduceAdd, reduceIte, reduceCtorEq, splice, resOf, tupOf, cellsV, AV.toV, AV.cell?, cellVal]
  clear hsz1 hbl1 hex1 L
  intro m e s' ⟨L, i, g, hs', k1, k2, k14, k15, him, hZ, hB, hE, hg, hO, hS⟩
  rw [hs'] at hZ hB hE hO
  rw [show s' = st ++ (⟨[sz, iA U.params, iA U.regs, iA U.code, iA U.spill, blv], 0, 2⟩ :: ⟨[.sc (.slice none 0 0), iA 0, iA 0, iA 0, iA 0, .sc (.slice none 0 0)], 0, 0⟩ :: (L ++ [])) by rw [hs', List.append_nil]]
  clear hs'
  simp only [k1, k2, k14, k15, kB, kZ, kD, fillA, partsEv, zeroes, Nat.reduceSub, Int.reduceToNat, Nat.reduceMul, asInt?, asNat?, Int.reduceAdd, Int.reduceLE, Int.reduceLT, Int.reduceNeg, Nat.reduceLeDiff, VOpd.ev, Nat.reduceEqDiff, Nat.reduceAdd, reduceIte, reduceCtorEq, splice, resOf, tupOf, cellsV, AV.toV, AV.cell?, cellVal]
  refine condO_intro ?_ ?_ <;> intro hc <;> simp only [kB, kZ, kD, fillA, partsEv, zeroes, Nat.reduceSub, Int.reduceToNat, Nat.reduceMul, asInt?, asNat?, Int.reduceAdd, Int.reduceLE, Int.reduceLT, Int.reduceNeg, Nat.reduceLeDiff, VOpd.ev, Nat.reduceEqDiff, Nat.reduceAdd, reduceIte, reduceCtorEq, splice, resOf, tupOf, cellsV, AV.toV, AV.cell?, cellVal]
  · have hil : i < U.blocks.length := by have := of_decide_eq_true hc; omega
    obtain ⟨bb, s0, hbb, hel, hput0, _, _, _⟩ := own_setops hB hE i hil U.blocks[i].ops (w := .sc (.slice none 0 0)) rfl
    have hat : St.at1 (st ++ (⟨[sz, iA U.params, iA U.regs, iA U.code, iA U.spill, blv], 0, 2⟩ :: ⟨[.sc (.slice none 0 0), iA 0, iA 0, iA 0, iA 0, .sc (.slice none 0 0)], 0, 0⟩ :: L)) bb (i * 6 + 0) = some (f0 i) := by
      obtain ⟨b1, o1, he1, hn1, ha1, _⟩ := hB.arr.get i (by rw [blkRows_length]; exact hil)
      rw [hel] at he1
      cases he1
      have := ha1 [] 0 (by omega)
      rw [List.append_nil, blkRows_get _ _ _ hil, hg i (Nat.le_refl _)] at this
      exact this
    simp only [k1, k2, k14, k15, hel, hat, List.append_nil, kB, kZ, kD, fillA, partsEv, zeroes, Nat.reduceSub, Int.reduceToNat, Nat.reduceMul, asInt?, asNat?, Int.reduceAdd, Int.reduceLE, Int.reduceLT, Int.reduceNeg, Nat.reduceLeDiff, VOpd.ev, Nat.reduceEqDiff, Nat.reduceAdd, reduceIte, reduceCtorEq, splice, resOf, tupOf, cellsV, AV.toV, AV.cell?, cellVal]
    refine callO_new (w_Clone_Op h ((hbo i hil).mono _) (by simpa using hlen _ (List.getElem_mem hil))) ?_
    intro w m1 hw _
    have hwc := isCell_len hw.arr.len
    have hwo := cellsOf_len hw.arr.len
    have hag1 := Agree.app (fun _ => False) (st ++ (⟨[sz, iA U.params, iA U.regs, iA U.code, iA U.spill, blv], 0, 2⟩ :: ⟨[.sc (.slice none 0 0), iA 0, iA 0, iA 0, iA 0, .sc (.slice none 0 0)], 0, 0⟩ :: L)) m1
    have hZ1 := hZ.agree hag1 (fun _ _ h => h)
    have hB1 := hB.agree hag1 (fun _ _ h => h)
    have hE1 := hE.agree hag1 (fun _ _ h => h)
    obtain ⟨bb', s2, hbb', hel', hput, hag2, hB2, hE2⟩ := own_setops hB1 hE1 i hil U.blocks[i].ops hwc
    rw [hbb] at hbb'
    cases hbb'
    have hbblo := (hB.bnd bb hbb).1
    obtain ⟨L2, hL2⟩ : ∃ L2, s2 = st ++ (⟨[sz, iA U.params, iA U.regs, iA U.code, iA U.spill, blv], 0, 2⟩ :: ⟨[.sc (.slice none 0 0), iA 0, iA 0, iA 0, iA 0, .sc (.slice none 0 0)], 0, 0⟩ :: L2) := by
      have := Agree.shape (st := st) (M := [⟨[sz, iA U.params, iA U.regs, iA U.code, iA U.spill, blv], 0, 2⟩, ⟨[.sc (.slice none 0 0), iA 0, iA 0, iA 0, iA 0, .sc (.slice none 0 0)], 0, 0⟩]) (N := L ++ m1) (by simpa using hag2) (fun b hb => by simp; omega)
      simpa using this
    have hput' : St.put (st ++ (⟨[sz, iA U.params, iA U.regs, iA U.code, iA U.spill, blv], 0, 2⟩ :: ⟨[.sc (.slice none 0 0), iA 0, iA 0, iA 0, iA 0, .sc (.slice none 0 0)], 0, 0⟩ :: (L ++ m1))) bb (i * 6 + 0) [w] = some (st ++ (⟨[sz, iA U.params, iA U.regs, iA U.code, iA U.spill, blv], 0, 2⟩ :: ⟨[.sc (.slice none 0 0), iA 0, iA 0, iA 0, iA 0, .sc (.slice none 0 0)], 0, 0⟩ :: L2)) := by
      rw [← hL2, ← hput]; simp
    simp only [k1, k2, k14, k15, hel, hwc, hwo, hput', kB, kZ, kD, fillA, partsEv, zeroes, Nat.reduceSub, Int.reduceToNat, Nat.reduceMul, asInt?, asNat?, Int.reduceAdd, Int.reduceLE, Int.reduceLT, Int.reduceNeg, Nat.reduceLeDiff, VOpd.ev, Nat.reduceEqDiff, Nat.reduceAdd, reduceIte, reduceCtorEq, splice, resOf, tupOf, cellsV, AV.toV, AV.cell?, cellVal]
    have hset : U.blocks.set i { U.blocks[i] with ops := U.blocks[i].ops } = U.blocks := List.set_getElem_self hil
    rw [hset] at hB2 hE2
    have hbbl := (hB.bnd bb hbb).2
    have hwb : ∀ b, boxOf w = some b → (st ++ (⟨[sz, iA U.params, iA U.regs, iA U.code, iA U.spill, blv], 0, 2⟩ :: ⟨[.sc (.slice none 0 0), iA 0, iA 0, iA 0, iA 0, .sc (.slice none 0 0)], 0, 0⟩ :: L)).length ≤ b := fun b hb => (hw.bnd b hb).1
    have hZ2 := hZ1.agree hag2 (fun b hb hx => by subst hx; exact hsepz _ hb hbb)
    have hw2 := (hw.low (lo' := st.length + 2) (by simp)).agree hag2 (fun b hb hx => by have := hwb b hb; omega)
    have hO2 : ∀ j (hj : j < U.blocks.length), j < i → OwnS s2 (st.length + 2) (g j) 7 (U.blocks[j].ops.map OpV.row) := fun j hj hji => ((hO j hj hji).agree hag1 (fun _ _ h => h)).agree hag2 (fun b hb hx => by subst hx; exact (hS j hji _ hb).2.1 hbb)
    rw [hL2] at hZ2 hw2 hO2 hB2 hE2
    refine ⟨m - 1, by omega, L2, i + 1, fun j => if j = i then w else g j, rfl, ?_, by omega, hZ2, hB2, hE2, fun j hj => ?_, fun j hj hji => ?_, fun j hji b hb => ?_⟩
    · rw [wrap_small (by omega) (by omega)]
      simp
    · simp only
      rw [if_neg (by omega)]
      exact hg j (by omega)
    · by_cases hjj : j = i
      · subst hjj
        simpa using hw2
      · simp only [hjj, if_false]
        exact hO2 j hj (by omega)
    · have hold : ∀ j, j < i → ∀ b, boxOf (g j) = some b → b < (st ++ (⟨[sz, iA U.params, iA U.regs, iA U.code, iA U.spill, blv], 0, 2⟩ :: ⟨[.sc (.slice none 0 0), iA 0, iA 0, iA 0, iA 0, .sc (.slice none 0 0)], 0, 0⟩ :: L)).length := fun j hj b hb => ((hO j (by omega) hj).bnd b hb).2
      by_cases hjj : j = i
      · subst hjj
        simp only [if_true] at hb
        have h1 := hwb b hb
        refine ⟨fun h2 => ?_, fun h2 => ?_, fun k hk hkj h2 => ?_⟩
        · have := (hZ.bnd b h2).2; omega
        · have := (hB.bnd b h2).2; omega
        · simp only [hkj, if_false] at h2
          have := hold k (by omega) b h2
          omega
      · simp only [hjj, if_false] at hb
        have h0 := hS j (by omega) b hb
        refine ⟨h0.1, h0.2.1, fun k hk hkj h2 => ?_⟩
        by_cases hki : k = i
        · subst hki
          simp only [if_true] at h2
          have := hwb b h2
          have := hold j (by omega) b hb
          omega
        · simp only [hki, if_false] at h2
          exact h0.2.2 k (by omega) hkj h2
  · have hi : i = U.blocks.length := by have := of_decide_eq_false hc; omega
    have hszc := isCell_len hZ.arr.len
    have hblc := isCell_len hB.arr.len
    simp only [k1, k2, hszc, hblc, List.append_nil, kB, kZ, kD, fillA, partsEv, zeroes, Nat.reduceSub, Int.reduceToNat, Nat.reduceMul, asInt?, asNat?, Int.reduceAdd, Int.reduceLE, Int.reduceLT, Int.reduceNeg, Nat.reduceLeDiff, VOpd.ev, Nat.reduceEqDiff, Nat.reduceAdd, reduceIte, reduceCtorEq, splice, resOf, tupOf, cellsV, AV.toV, AV.cell?, cellVal]
    have hag := Agree.swap st [⟨[sz, iA U.params, iA U.regs, iA U.code, iA U.spill, blv], 0, 2⟩] ⟨[.sc (.slice none 0 0), iA 0, iA 0, iA 0, iA 0, .sc (.slice none 0 0)], 0, 0⟩ ⟨[sz, iA U.params, iA U.regs, iA U.code, iA U.spill, blv], 0, 1⟩ L
    subst hi
    have hB' : OwnB (st ++ (⟨[sz, iA U.params, iA U.regs, iA U.code, iA U.spill, blv], 0, 2⟩ :: ⟨[.sc (.slice none 0 0), iA 0, iA 0, iA 0, iA 0, .sc (.slice none 0 0)], 0, 0⟩ :: L)) (st.length + 2) blv g U.blocks := ⟨hB, hE, fun i hi => hO i hi hi, fun i hi b hb h => (hS i hi b h).2.1 hb, fun i j hi hj hij b hb => (hS i hi b hb).2.2 j hj (fun h => hij h.symm)⟩
    have hZ' : OwnZ (st ++ (⟨[sz, iA U.params, iA U.regs, iA U.code, iA U.spill, blv], 0, 2⟩ :: ⟨[.sc (.slice none 0 0), iA 0, iA 0, iA 0, iA 0, .sc (.slice none 0 0)], 0, 0⟩ :: L)) (st.length + 2) sz blv g U.sizes U.blocks := ⟨hZ, fun b hb => ⟨hsepz b hb, fun i hi h => (hS i hi b h).1 hb⟩⟩
    exact ⟨_, rfl, ⟨_, rfl⟩, ⟨sz, blv, g, rfl, (hZ'.agree hag (fun b hb _ h => by simp at h; omega)).low (by omega), (hB'.agree hag (fun b hb _ h => by simp at h; omega)).low (by omega)⟩⟩
end
end Go.VX.Seat
end
section
set_option linter.unusedVariables false
set_option linter.unusedSimpArgs false
set_option maxRecDepth 4000
/-! Cut: a copy that is not large. -/
namespace Go.VX.Seat
open Go.Proofs
def cutB : List BlkV → Nat → Int → List BlkV
  | [], _, _ => []
  | _ :: _, 0, _ => []
  | b :: r, n + 1, k => { b with ops := b.ops.take k.toNat } :: cutB r n (k - (b.ops.take k.toNat).length)
def cutU (U : UnitV) (n : Nat) (k : Int) : UnitV := { U with sizes := U.sizes.take 17, blocks := cutB U.blocks n k }
section
variable {X : Cx} {st : St}
theorem w_Cut (h : On X) {lo hi : Nat} {v : AV} {U : UnitV} (hv : UnitAt st lo hi v U) (n : Nat) (k : Int) (hn : n ≤ 1000000) (hk : -1000000000000 ≤ k ∧ k ≤ 2000000000000) (hlen : ∀ b ∈ U.blocks.take n, min b.ops.length k.toNat ≤ 1000000) :
    wpF X 38 [v, iA n, iA k] st fun r s => NewU st s r (cutU U n k) := by
  refine wpF_go (fn := v_r07_Cut) (by rw [h.F]; rfl) ?_
  obtain ⟨s, bl, rfl, hs, hb⟩ := hv
  have l1 := hs.len
  have l2 : lenA bl = some U.blocks.length := by
    obtain ⟨f, hb, _⟩ := hb
    have := hb.len
    simpa using this
  have hcs := isCell_len l1
  have hcb := isCell_len l2
  simp only [List.length_map] at l1
  simp only [v_r07_Cut, l1, l2, hcs, hcb, kB, kZ, kD, fillA, partsEv, zeroes, Nat.reduceSub, Int.reduceToNat, Nat.reduceMul, asInt?, asNat?, Int.reduceAdd, Int.reduceLE, Int.reduceLT, Int.reduceNeg, Nat.reduceLeDiff, VOpd.ev, Nat.reduceEqDiff, Nat.reduceAdd, reduceIte, reduceCtorEq, splice, resOf, tupOf, cellsV, AV.toV, AV.cell?, cellVal]
  have hmin : (min (U.sizes.length : Int) 17) = ((min U.sizes.length 17 : Nat) : Int) := by omega
  refine opR_pre (vx := s) (n := min U.sizes.length 17) (lo := lo) (hi := hi) (rows := U.sizes.map fun n => [iA n]) (by simp only [kB, kZ, kD, fillA, partsEv, zeroes, Nat.reduceSub, Int.reduceToNat, Nat.reduceMul, asInt?, asNat?, Int.reduceAdd, Int.reduceLE, Int.reduceLT, Int.reduceNeg, Nat.reduceLeDiff, VOpd.ev, Nat.reduceEqDiff, Nat.reduceAdd, reduceIte, reduceCtorEq, splice, resOf, tupOf, cellsV, AV.toV, AV.cell?, cellVal]) (by rw [hmin]; simp only [kB, kZ, kD, fillA, partsEv, zeroes, Nat.reduceSub, Int.reduceToNat, Nat.reduceMul, asInt?, asNat?, Int.reduceAdd, Int.reduceLE, Int.reduceLT, Int.reduceNeg, Nat.reduceLeDiff, VOpd.ev, Nat.reduceEqDiff, Nat.reduceAdd, reduceIte, reduceCtorEq, splice, resOf, tupOf, cellsV, AV.toV, AV.cell?, cellVal]; rw [if_pos (by omega)]) (hs.mono _) (by simp; omega) ?_
  intro sz1 hsz1
  simp only [kB, kZ, kD, fillA, partsEv, zeroes, Nat.reduceSub, Int.reduceToNat, Nat.reduceMul, asInt?, asNat?, Int.reduceAdd, Int.reduceLE, Int.reduceLT, Int.reduceNeg, Nat.reduceLeDiff, VOpd.ev, Nat.reduceEqDiff, Nat.reduceAdd, reduceIte, reduceCtorEq, splice, resOf, tupOf, cellsV, AV.toV, AV.cell?, cellVal]
  refine opR_append (vx := .sl (st.length + 3) 0 0 1 true) (vy := sz1) (lo := st.length + 3) (rows := []) (by simp only [kB, kZ, kD, fillA, partsEv, zeroes, Nat.reduceSub, Int.reduceToNat, Nat.reduceMul, asInt?, asNat?, Int.reduceAdd, Int.reduceLE, Int.reduceLT, Int.reduceNeg, Nat.reduceLeDiff, VOpd.ev, Nat.reduceEqDiff, Nat.reduceAdd, reduceIte, reduceCtorEq, splice, resOf, tupOf, cellsV, AV.toV, AV.cell?, cellVal]) (by simp only [kB, kZ, kD, fillA, partsEv, zeroes, Nat.reduceSub, Int.reduceToNat, Nat.reduceMul, asInt?, asNat?, Int.reduceAdd, Int.reduceLE, Int.reduceLT, Int.reduceNeg, Nat.reduceLeDiff, VOpd.ev, Nat.reduceEqDiff, Nat.reduceAdd, reduceIte, reduceCtorEq, splice, resOf, tupOf, cellsV, AV.toV, AV.cell?, cellVal]) (own_empty (by rw [List.getElem?_append_right (by omega), Nat.add_sub_cancel_left]; rfl) (by decide) (Nat.le_refl _)) (by simp) hsz1 (by simp; omega) ?_ ?_
  · rw [← List.map_take]; exact intRow_cells _
  intro sz s1 hag hown hsz
  obtain ⟨L, rfl⟩ := Agree.shape (M := [_, _, _]) (N := [_]) hag (fun b hb => by have := hb.2; cases this; simp)
  clear hag hsz
  have ht : U.sizes.take (min U.sizes.length 17) = U.sizes.take 17 := by
    rcases Nat.le_total U.sizes.length 17 with h | h
    · rw [Nat.min_eq_left h, List.take_length, List.take_of_length_le h]
    · rw [Nat.min_eq_right h]
  simp only [List.nil_append, ← List.map_take, ht] at hown
  have hcsz := isCell_len hown.arr.len
  have hcoz := cellsOf_len hown.arr.len
  simp only [hcsz, hcoz, kB, kZ, kD, fillA, partsEv, zeroes, Nat.reduceSub, Int.reduceToNat, Nat.reduceMul, asInt?, asNat?, Int.reduceAdd, Int.reduceLE, Int.reduceLT, Int.reduceNeg, Nat.reduceLeDiff, VOpd.ev, Nat.reduceEqDiff, Nat.reduceAdd, reduceIte, reduceCtorEq, splice, resOf, tupOf, cellsV, AV.toV, AV.cell?, cellVal]
  refine loop_inv (fun m e s' => ∃ (L : St) (ver : Nat) (blv : AV) (i : Nat) (kk : Int) (done : List BlkV) (f : Nat → AV),
    s' = st ++ (⟨[s, iA U.params, iA U.regs, iA U.code, iA U.spill, bl], 0, 0⟩ :: ⟨[.sc (.slice none 0 0), iA 0, iA 0, iA 0, iA 0, .sc (.slice none 0 0)], 0, 0⟩ :: ⟨[sz, iA U.params, iA U.regs, iA U.code, iA U.spill, blv], 0, ver⟩ :: L) ∧
    e 1 = iA n ∧ e 2 = iA kk ∧ e 3 = .ptr (st.length + 0) 0 ∧ e 6 = .ptr (st.length + 1) 0 ∧ e 7 = .ptr (st.length + 2) 0 ∧ e 8 = iA i ∧
    m + i = U.blocks.length ∧ i ≤ n ∧ (-1000000000000 ≤ kk ∧ kk ≤ k) ∧ done.length = i ∧ done ++ cutB (U.blocks.drop i) (n - i) kk = cutB U.blocks n k ∧
    OwnB s' (st.length + 3) blv f done ∧ OwnZ s' (st.length + 3) sz blv f (U.sizes.take 17) done) ?_ U.blocks.length ?_
  case refine_2 =>
    refine ⟨L, 3, .sc (.slice none 0 0), 0, k, [], fun _ => .sc (.slice none 0 0), rfl, ?_, ?_, ?_, ?_, ?_, ?_, by omega, by omega, ⟨hk.1, Int.le_refl _⟩, rfl, by simp, ?_, ?_⟩
    iterate 6 (simp only [kB, kZ, kD, fillA, partsEv, zeroes, Nat.reduceSub, Int.reduceToNat, Nat.reduceMul, asInt?, asNat?, Int.reduceAdd, Int.reduceLE, Int.reduceLT, Int.reduceNeg, Nat.reduceLeDiff, VOpd.ev, Nat.reduceEqDiff, Nat.reduceAdd, reduceIte, reduceCtorEq, splice, resOf, tupOf, cellsV, AV.toV, AV.cell?, cellVal])
    · exact ⟨own_nil _ _ _, fun h => absurd rfl h, fun i hi => absurd hi (by simp), fun i hi => absurd hi (by simp), fun i j hi => absurd hi (by simp)⟩
    · refine ⟨?_, fun b hb => ⟨by simp [boxOf], fun i hi => absurd hi (by simp)⟩⟩
      have := hown.agree (Agree.swap st [⟨[s, iA U.params, iA U.regs, iA U.code, iA U.spill, bl], 0, 0⟩, ⟨[.sc (.slice none 0 0), iA 0, iA 0, iA 0, iA 0, .sc (.slice none 0 0)], 0, 0⟩] _ ⟨[sz, iA U.params, iA U.regs, iA U.code, iA U.spill, .sc (.slice none 0 0)], 0, 3⟩ L) (fun b hb => by have := (hown.bnd b hb).1; simp; omega)
      exact this
  clear hown L hsz1
  intro m e s' ⟨L, ver, blv, i, kk, done, f, hs', k1, k2, k3, k6, k7, k8, him, hin, hkk, hdl, hdone, hB, hZ⟩
  rw [hs'] at hB hZ
  rw [show s' = st ++ (⟨[s, iA U.params, iA U.regs, iA U.code, iA U.spill, bl], 0, 0⟩ :: ⟨[.sc (.slice none 0 0), iA 0, iA 0, iA 0, iA 0, .sc (.slice none 0 0)], 0, 0⟩ :: ⟨[sz, iA U.params, iA U.regs, iA U.code, iA U.spill, blv], 0, ver⟩ :: (L ++ [])) by rw [hs', List.append_nil]]
  clear hs'
  simp only [k1, k2, k3, k6, k7, k8, l2, kB, kZ, kD, fillA, partsEv, zeroes, Nat.reduceSub, Int.reduceToNat, Nat.reduceMul, asInt?, asNat?, Int.reduceAdd, Int.reduceLE, Int.reduceLT, Int.reduceNeg, Nat.reduceLeDiff, VOpd.ev, Nat.reduceEqDiff, Nat.reduceAdd, reduceIte, reduceCtorEq, splice, resOf, tupOf, cellsV, AV.toV, AV.cell?, cellVal]
  obtain ⟨f0, hb1, hbo⟩ := hb
  refine gO_t ?_ ?_ <;> intro hc
  · have hil : i < U.blocks.length := by have := of_decide_eq_true hc; omega
    obtain ⟨b1, o1, he1, hn1, ha1, _⟩ := hb1.get i (by simpa using hil)
    simp only [List.getElem_mapIdx, BlkV.row] at hn1 ha1
    have ha0 := fun L => ha1 L 0 (by omega)
    simp only [kB, kZ, kD, fillA, partsEv, zeroes, Nat.reduceSub, Int.reduceToNat, Nat.reduceMul, asInt?, asNat?, Int.reduceAdd, Int.reduceLE, Int.reduceLT, Int.reduceNeg, Nat.reduceLeDiff, VOpd.ev, Nat.reduceEqDiff, Nat.reduceAdd, reduceIte, reduceCtorEq, splice, resOf, tupOf, cellsV, AV.toV, AV.cell?, cellVal] at ha0
    have l3 := (hbo i hil).len
    simp only [List.length_map] at l3
    have hcell := isCell_len l3
    simp only [hc, k1, k2, k3, k6, k7, k8, l2, he1, hn1, ha0, l3, hcell, kB, kZ, kD, fillA, partsEv, zeroes, Nat.reduceSub, Int.reduceToNat, Nat.reduceMul, asInt?, asNat?, Int.reduceAdd, Int.reduceLE, Int.reduceLT, Int.reduceNeg, Nat.reduceLeDiff, VOpd.ev, Nat.reduceEqDiff, Nat.reduceAdd, reduceIte, reduceCtorEq, splice, resOf, tupOf, cellsV, AV.toV, AV.cell?, cellVal]
    refine condO_intro ?_ ?_ <;> intro hc2
    · have hin2 : i < n := by have := of_decide_eq_true hc2; omega
      simp only [hc, k1, k2, k3, k6, k7, k8, l2, he1, hn1, ha0, l3, hcell, kB, kZ, kD, fillA, partsEv, zeroes, Nat.reduceSub, Int.reduceToNat, Nat.reduceMul, asInt?, asNat?, Int.reduceAdd, Int.reduceLE, Int.reduceLT, Int.reduceNeg, Nat.reduceLeDiff, VOpd.ev, Nat.reduceEqDiff, Nat.reduceAdd, reduceIte, reduceCtorEq, splice, resOf, tupOf, cellsV, AV.toV, AV.cell?, cellVal]
      have hml : min (U.blocks[i].ops.length : Int) (max kk 0) = ((min U.blocks[i].ops.length kk.toNat : Nat) : Int) := by omega
      have hmt : U.blocks[i].ops.take (min U.blocks[i].ops.length kk.toNat) = U.blocks[i].ops.take kk.toNat := by
        rcases Nat.le_total U.blocks[i].ops.length kk.toNat with h | h
        · rw [Nat.min_eq_left h, List.take_length, List.take_of_length_le h]
        · rw [Nat.min_eq_right h]
      refine opR_pre (vx := f0 i) (n := min U.blocks[i].ops.length kk.toNat) (lo := lo) (hi := hi) (rows := U.blocks[i].ops.map OpV.row) (by simp only [kB, kZ, kD, fillA, partsEv, zeroes, Nat.reduceSub, Int.reduceToNat, Nat.reduceMul, asInt?, asNat?, Int.reduceAdd, Int.reduceLE, Int.reduceLT, Int.reduceNeg, Nat.reduceLeDiff, VOpd.ev, Nat.reduceEqDiff, Nat.reduceAdd, reduceIte, reduceCtorEq, splice, resOf, tupOf, cellsV, AV.toV, AV.cell?, cellVal]) (by rw [hml]; simp only [kB, kZ, kD, fillA, partsEv, zeroes, Nat.reduceSub, Int.reduceToNat, Nat.reduceMul, asInt?, asNat?, Int.reduceAdd, Int.reduceLE, Int.reduceLT, Int.reduceNeg, Nat.reduceLeDiff, VOpd.ev, Nat.reduceEqDiff, Nat.reduceAdd, reduceIte, reduceCtorEq, splice, resOf, tupOf, cellsV, AV.toV, AV.cell?, cellVal]; rw [if_pos (by omega)]) ((hbo i hil).mono _) (by simp; omega) ?_
      intro w1 hw1
      rw [← List.map_take, hmt] at hw1
      simp only [kB, kZ, kD, fillA, partsEv, zeroes, Nat.reduceSub, Int.reduceToNat, Nat.reduceMul, asInt?, asNat?, Int.reduceAdd, Int.reduceLE, Int.reduceLT, Int.reduceNeg, Nat.reduceLeDiff, VOpd.ev, Nat.reduceEqDiff, Nat.reduceAdd, reduceIte, reduceCtorEq, splice, resOf, tupOf, cellsV, AV.toV, AV.cell?, cellVal]
      have htl : (U.blocks[i].ops.take kk.toNat).length ≤ 1000000 := by
        have := hlen U.blocks[i] (List.mem_take_iff_getElem.2 ⟨i, by omega, rfl⟩)
        simp only [List.length_take]
        have hkk2 : kk.toNat ≤ k.toNat := by omega
        omega
      refine opR_append (vx := .sl (st.length + (L.length + 1 + 1 + 1 + 1)) 0 0 7 true) (vy := w1) (lo := st.length + (L.length + 1 + 1 + 1 + 1)) (rows := []) (by simp only [kB, kZ, kD, fillA, partsEv, zeroes, Nat.reduceSub, Int.reduceToNat, Nat.reduceMul, asInt?, asNat?, Int.reduceAdd, Int.reduceLE, Int.reduceLT, Int.reduceNeg, Nat.reduceLeDiff, VOpd.ev, Nat.reduceEqDiff, Nat.reduceAdd, reduceIte, reduceCtorEq, splice, resOf, tupOf, cellsV, AV.toV, AV.cell?, cellVal]) (by simp only [kB, kZ, kD, fillA, partsEv, zeroes, Nat.reduceSub, Int.reduceToNat, Nat.reduceMul, asInt?, asNat?, Int.reduceAdd, Int.reduceLE, Int.reduceLT, Int.reduceNeg, Nat.reduceLeDiff, VOpd.ev, Nat.reduceEqDiff, Nat.reduceAdd, reduceIte, reduceCtorEq, splice, resOf, tupOf, cellsV, AV.toV, AV.cell?, cellVal]) (own_empty (x := ⟨[], 0, 0⟩) (by simp) (by decide) (by omega)) (by simp) hw1 (by simp only [List.length_nil, List.length_map]; omega) (opRow_cells _) ?_
      intro w s1 hag hown hor
      obtain ⟨L2, rfl⟩ : ∃ L2, s1 = st ++ (⟨[s, iA U.params, iA U.regs, iA U.code, iA U.spill, bl], 0, 0⟩ :: ⟨[.sc (.slice none 0 0), iA 0, iA 0, iA 0, iA 0, .sc (.slice none 0 0)], 0, 0⟩ :: ⟨[sz, iA U.params, iA U.regs, iA U.code, iA U.spill, blv], 0, ver⟩ :: (L ++ (⟨[f0 i, iA U.blocks[i].e.k, iA U.blocks[i].e.a, iA U.blocks[i].e.t, iA U.blocks[i].e.e, iA U.blocks[i].catch_], 0, 1⟩ :: L2 : St))) := by
        have := Agree.shape (st := st) (M := ⟨[s, iA U.params, iA U.regs, iA U.code, iA U.spill, bl], 0, 0⟩ :: ⟨[.sc (.slice none 0 0), iA 0, iA 0, iA 0, iA 0, .sc (.slice none 0 0)], 0, 0⟩ :: ⟨[sz, iA U.params, iA U.regs, iA U.code, iA U.spill, blv], 0, ver⟩ :: (L ++ [⟨[f0 i, iA U.blocks[i].e.k, iA U.blocks[i].e.a, iA U.blocks[i].e.t, iA U.blocks[i].e.e, iA U.blocks[i].catch_], 0, 1⟩])) (N := [⟨[], 0, 0⟩]) (by simpa using hag) (fun b hb => by have := hb.2; cases this; simp)
        simpa using this
      clear hag hw1
      simp only [List.nil_append] at hown
      have hwl := hown.arr.len
      simp only [List.length_map] at hwl
      have hwc := isCell_len hwl
      have hwo := cellsOf_len hwl
      have hwr : IntKind.wrap .i64 (kk - ((U.blocks[i].ops.take kk.toNat).length : Int)) = kk - ((U.blocks[i].ops.take kk.toNat).length : Int) := wrap_small (by omega) (by omega)
      simp only [k1, k2, k3, k6, k7, k8, hwl, hwc, hwo, hwr, kB, kZ, kD, fillA, partsEv, zeroes, Nat.reduceSub, Int.reduceToNat, Nat.reduceMul, asInt?, asNat?, Int.reduceAdd, Int.reduceLE, Int.reduceLT, Int.reduceNeg, Nat.reduceLeDiff, VOpd.ev, Nat.reduceEqDiff, Nat.reduceAdd, reduceIte, reduceCtorEq, splice, resOf, tupOf, cellsV, AV.toV, AV.cell?, cellVal]
      have hag0 : Agree (fun _ => False) (st ++ (⟨[s, iA U.params, iA U.regs, iA U.code, iA U.spill, bl], 0, 0⟩ :: ⟨[.sc (.slice none 0 0), iA 0, iA 0, iA 0, iA 0, .sc (.slice none 0 0)], 0, 0⟩ :: ⟨[sz, iA U.params, iA U.regs, iA U.code, iA U.spill, blv], 0, ver⟩ :: L : St)) (st ++ (⟨[s, iA U.params, iA U.regs, iA U.code, iA U.spill, bl], 0, 0⟩ :: ⟨[.sc (.slice none 0 0), iA 0, iA 0, iA 0, iA 0, .sc (.slice none 0 0)], 0, 0⟩ :: ⟨[sz, iA U.params, iA U.regs, iA U.code, iA U.spill, blv], 0, ver⟩ :: (L ++ (⟨[w, iA U.blocks[i].e.k, iA U.blocks[i].e.a, iA U.blocks[i].e.t, iA U.blocks[i].e.e, iA U.blocks[i].catch_], 0, 2⟩ :: (L2 ++ [⟨[w, iA U.blocks[i].e.k, iA U.blocks[i].e.a, iA U.blocks[i].e.t, iA U.blocks[i].e.e, iA U.blocks[i].catch_], 0, 0⟩]) : St)) : St)) := by
        simpa using Agree.app _ (st ++ (⟨[s, iA U.params, iA U.regs, iA U.code, iA U.spill, bl], 0, 0⟩ :: ⟨[.sc (.slice none 0 0), iA 0, iA 0, iA 0, iA 0, .sc (.slice none 0 0)], 0, 0⟩ :: ⟨[sz, iA U.params, iA U.regs, iA U.code, iA U.spill, blv], 0, ver⟩ :: L : St)) (⟨[w, iA U.blocks[i].e.k, iA U.blocks[i].e.a, iA U.blocks[i].e.t, iA U.blocks[i].e.e, iA U.blocks[i].catch_], 0, 2⟩ :: (L2 ++ [⟨[w, iA U.blocks[i].e.k, iA U.blocks[i].e.a, iA U.blocks[i].e.t, iA U.blocks[i].e.e, iA U.blocks[i].catch_], 0, 0⟩]) : St)
      have hag1 : Agree (fun n => n = st.length + (L.length + 1 + 1 + 1)) (st ++ (⟨[s, iA U.params, iA U.regs, iA U.code, iA U.spill, bl], 0, 0⟩ :: ⟨[.sc (.slice none 0 0), iA 0, iA 0, iA 0, iA 0, .sc (.slice none 0 0)], 0, 0⟩ :: ⟨[sz, iA U.params, iA U.regs, iA U.code, iA U.spill, blv], 0, ver⟩ :: (L ++ (⟨[f0 i, iA U.blocks[i].e.k, iA U.blocks[i].e.a, iA U.blocks[i].e.t, iA U.blocks[i].e.e, iA U.blocks[i].catch_], 0, 1⟩ :: L2 : St)) : St)) (st ++ (⟨[s, iA U.params, iA U.regs, iA U.code, iA U.spill, bl], 0, 0⟩ :: ⟨[.sc (.slice none 0 0), iA 0, iA 0, iA 0, iA 0, .sc (.slice none 0 0)], 0, 0⟩ :: ⟨[sz, iA U.params, iA U.regs, iA U.code, iA U.spill, blv], 0, ver⟩ :: (L ++ (⟨[w, iA U.blocks[i].e.k, iA U.blocks[i].e.a, iA U.blocks[i].e.t, iA U.blocks[i].e.e, iA U.blocks[i].catch_], 0, 2⟩ :: (L2 ++ [⟨[w, iA U.blocks[i].e.k, iA U.blocks[i].e.a, iA U.blocks[i].e.t, iA U.blocks[i].e.e, iA U.blocks[i].catch_], 0, 0⟩]) : St)) : St)) := by
        have a1 := Agree.swap st (⟨[s, iA U.params, iA U.regs, iA U.code, iA U.spill, bl], 0, 0⟩ :: ⟨[.sc (.slice none 0 0), iA 0, iA 0, iA 0, iA 0, .sc (.slice none 0 0)], 0, 0⟩ :: ⟨[sz, iA U.params, iA U.regs, iA U.code, iA U.spill, blv], 0, ver⟩ :: L) ⟨[f0 i, iA U.blocks[i].e.k, iA U.blocks[i].e.a, iA U.blocks[i].e.t, iA U.blocks[i].e.e, iA U.blocks[i].catch_], 0, 1⟩ ⟨[w, iA U.blocks[i].e.k, iA U.blocks[i].e.a, iA U.blocks[i].e.t, iA U.blocks[i].e.e, iA U.blocks[i].catch_], 0, 2⟩ L2
        have a2 := a1.trans (Agree.app (fun _ => False) _ [⟨[w, iA U.blocks[i].e.k, iA U.blocks[i].e.a, iA U.blocks[i].e.t, iA U.blocks[i].e.e, iA U.blocks[i].catch_], 0, 0⟩])
        refine Agree.mono (by simpa using a2) ?_
        intro n _ hn
        simpa using hn
      have hlo : (st ++ (⟨[s, iA U.params, iA U.regs, iA U.code, iA U.spill, bl], 0, 0⟩ :: ⟨[.sc (.slice none 0 0), iA 0, iA 0, iA 0, iA 0, .sc (.slice none 0 0)], 0, 0⟩ :: ⟨[sz, iA U.params, iA U.regs, iA U.code, iA U.spill, blv], 0, ver⟩ :: L : St)).length = st.length + (L.length + 1 + 1 + 1) := by simp
      have hl1 : (st ++ (⟨[s, iA U.params, iA U.regs, iA U.code, iA U.spill, bl], 0, 0⟩ :: ⟨[.sc (.slice none 0 0), iA 0, iA 0, iA 0, iA 0, .sc (.slice none 0 0)], 0, 0⟩ :: ⟨[sz, iA U.params, iA U.regs, iA U.code, iA U.spill, blv], 0, ver⟩ :: (L ++ (⟨[f0 i, iA U.blocks[i].e.k, iA U.blocks[i].e.a, iA U.blocks[i].e.t, iA U.blocks[i].e.e, iA U.blocks[i].catch_], 0, 1⟩ :: L2 : St)) : St)).length = st.length + (L.length + (L2.length + 1) + 1 + 1 + 1) := by simp
      have hl2 : (st ++ (⟨[s, iA U.params, iA U.regs, iA U.code, iA U.spill, bl], 0, 0⟩ :: ⟨[.sc (.slice none 0 0), iA 0, iA 0, iA 0, iA 0, .sc (.slice none 0 0)], 0, 0⟩ :: ⟨[sz, iA U.params, iA U.regs, iA U.code, iA U.spill, blv], 0, ver⟩ :: (L ++ (⟨[w, iA U.blocks[i].e.k, iA U.blocks[i].e.a, iA U.blocks[i].e.t, iA U.blocks[i].e.e, iA U.blocks[i].catch_], 0, 2⟩ :: (L2 ++ [⟨[w, iA U.blocks[i].e.k, iA U.blocks[i].e.a, iA U.blocks[i].e.t, iA U.blocks[i].e.e, iA U.blocks[i].catch_], 0, 0⟩]) : St)) : St)).length = st.length + (L.length + (L2.length + 1 + 1) + 1 + 1 + 1) := by simp
      have hB2 := hB.agree hag0 (fun _ _ _ h => h)
      have hw2 := hown.agree hag1 (fun b hb => by have := (hown.bnd b hb).1; omega)
      obtain ⟨nb, hnb⟩ : ∃ nb : BlkV, nb = { U.blocks[i] with ops := U.blocks[i].ops.take kk.toNat } := ⟨_, rfl⟩
      have hrow : nb.row w = [w, iA U.blocks[i].e.k, iA U.blocks[i].e.a, iA U.blocks[i].e.t, iA U.blocks[i].e.e, iA U.blocks[i].catch_] := by rw [hnb]; rfl
      refine opR_append (vx := blv) (vy := .sl (st.length + (L.length + (L2.length + 1) + 1 + 1 + 1)) 0 1 6 true) (lo := st.length + 3) (lo' := st.length + (L.length + (L2.length + 1) + 1 + 1 + 1)) (hi' := st.length + (L.length + (L2.length + 1) + 1 + 1 + 1) + 1) (rows := blkRows done f) (rows2 := [nb.row w]) (by simp only [kB, kZ, kD, fillA, partsEv, zeroes, Nat.reduceSub, Int.reduceToNat, Nat.reduceMul, asInt?, asNat?, Int.reduceAdd, Int.reduceLE, Int.reduceLT, Int.reduceNeg, Nat.reduceLeDiff, VOpd.ev, Nat.reduceEqDiff, Nat.reduceAdd, reduceIte, reduceCtorEq, splice, resOf, tupOf, cellsV, AV.toV, AV.cell?, cellVal]) (by simp only [kB, kZ, kD, fillA, partsEv, zeroes, Nat.reduceSub, Int.reduceToNat, Nat.reduceMul, asInt?, asNat?, Int.reduceAdd, Int.reduceLE, Int.reduceLT, Int.reduceNeg, Nat.reduceLeDiff, VOpd.ev, Nat.reduceEqDiff, Nat.reduceAdd, reduceIte, reduceCtorEq, splice, resOf, tupOf, cellsV, AV.toV, AV.cell?, cellVal]) hB2.own (by rw [hl2]; omega) (ArrAt.ofBox (mode := 0) (ver := 0) ?_ (by decide) (by rw [hrow]; simp) rfl) ?_ (by rw [hrow]; simp only [hwc, kB, kZ, kD, fillA, partsEv, zeroes, Nat.reduceSub, Int.reduceToNat, Nat.reduceMul, asInt?, asNat?, Int.reduceAdd, Int.reduceLE, Int.reduceLT, Int.reduceNeg, Nat.reduceLeDiff, VOpd.ev, Nat.reduceEqDiff, Nat.reduceAdd, reduceIte, reduceCtorEq, splice, resOf, tupOf, cellsV, AV.toV, AV.cell?, cellVal]) ?_
      · rw [hrow]
        simp
      · rw [blkRows_length]
        simp only [List.length_cons, List.length_nil]
        omega
      intro bl2 s3 hag3 hown3 hor3
      obtain ⟨_, hbox3, hex3⟩ : [nb.row w] ≠ [] ∧ boxOf bl2 = some (st ++ (⟨[s, iA U.params, iA U.regs, iA U.code, iA U.spill, bl], 0, 0⟩ :: ⟨[.sc (.slice none 0 0), iA 0, iA 0, iA 0, iA 0, .sc (.slice none 0 0)], 0, 0⟩ :: ⟨[sz, iA U.params, iA U.regs, iA U.code, iA U.spill, blv], 0, ver⟩ :: (L ++ (⟨[w, iA U.blocks[i].e.k, iA U.blocks[i].e.a, iA U.blocks[i].e.t, iA U.blocks[i].e.e, iA U.blocks[i].catch_], 0, 2⟩ :: (L2 ++ [⟨[w, iA U.blocks[i].e.k, iA U.blocks[i].e.a, iA U.blocks[i].e.t, iA U.blocks[i].e.e, iA U.blocks[i].catch_], 0, 0⟩]) : St)) : St)).length ∧ ExactBox s3 bl2 6 (blkRows done f ++ [nb.row w]) := by
        rcases hor3 with h | h
        · exact absurd h.1 (by simp)
        · exact h
      have hw3 := hw2.agree hag3 (fun b hb hx => by
        have h1 := (hown.bnd b hb).1
        have h2 := (hB.own.bnd b hx.2).2
        omega)
      have hag4 : Agree (fun n => boxOf blv = some n) (st ++ (⟨[s, iA U.params, iA U.regs, iA U.code, iA U.spill, bl], 0, 0⟩ :: ⟨[.sc (.slice none 0 0), iA 0, iA 0, iA 0, iA 0, .sc (.slice none 0 0)], 0, 0⟩ :: ⟨[sz, iA U.params, iA U.regs, iA U.code, iA U.spill, blv], 0, ver⟩ :: L : St)) s3 := (hag0.trans hag3).mono fun n _ h => by
        rcases h with h | h
        · exact h.elim
        · exact h.2
      have hB3 := OwnB.snoc (b := nb) hB hag4 (fun n _ h => h) (by rw [hnb]; exact hw3.low (by omega)) (fun n hn => by have := (hown.bnd n hn).1; omega) hown3 hex3 (fun n hn => by
        rw [hbox3] at hn
        cases hn
        refine ⟨by omega, fun h => ?_⟩
        have := (hown.bnd _ h).2
        omega)
      have hZ3 := OwnZ.snoc (b := nb) (w := w) (bl' := bl2) hZ hag4 (fun n _ h => h) (fun n hn => by have := (hown.bnd n hn).1; omega) (fun n hn => by
        rw [hbox3] at hn
        cases hn
        omega)
      obtain ⟨L3, rfl⟩ : ∃ L3, s3 = (st ++ (⟨[s, iA U.params, iA U.regs, iA U.code, iA U.spill, bl], 0, 0⟩ :: ⟨[.sc (.slice none 0 0), iA 0, iA 0, iA 0, iA 0, .sc (.slice none 0 0)], 0, 0⟩ :: ⟨[sz, iA U.params, iA U.regs, iA U.code, iA U.spill, blv], 0, ver⟩ :: L3 : St)) := by
        have := Agree.shape (st := st) (M := [⟨[s, iA U.params, iA U.regs, iA U.code, iA U.spill, bl], 0, 0⟩, ⟨[.sc (.slice none 0 0), iA 0, iA 0, iA 0, iA 0, .sc (.slice none 0 0)], 0, 0⟩, ⟨[sz, iA U.params, iA U.regs, iA U.code, iA U.spill, blv], 0, ver⟩]) (N := L) hag4 (fun b hb => (hB.own.bnd b hb).1)
        simpa using this
      have hbl := hown3.arr.len
      have hblc := isCell_len hbl
      have hblo := cellsOf_len hbl
      simp only [k1, k2, k3, k6, k7, k8, hblc, hblo, kB, kZ, kD, fillA, partsEv, zeroes, Nat.reduceSub, Int.reduceToNat, Nat.reduceMul, asInt?, asNat?, Int.reduceAdd, Int.reduceLE, Int.reduceLT, Int.reduceNeg, Nat.reduceLeDiff, VOpd.ev, Nat.reduceEqDiff, Nat.reduceAdd, reduceIte, reduceCtorEq, splice, resOf, tupOf, cellsV, AV.toV, AV.cell?, cellVal]
      have hag5 := Agree.swap st [⟨[s, iA U.params, iA U.regs, iA U.code, iA U.spill, bl], 0, 0⟩, ⟨[.sc (.slice none 0 0), iA 0, iA 0, iA 0, iA 0, .sc (.slice none 0 0)], 0, 0⟩] ⟨[sz, iA U.params, iA U.regs, iA U.code, iA U.spill, blv], 0, ver⟩ ⟨[sz, iA U.params, iA U.regs, iA U.code, iA U.spill, bl2], 0, ver + 1⟩ L3
      have htk : (U.blocks[i].ops.take kk.toNat).length ≤ kk.toNat := by simp; omega
      refine ⟨m - 1, by omega, L3, ver + 1, bl2, i + 1, _, done ++ [nb], _, rfl, rfl, ?_, by omega, by omega, ⟨by omega, by omega⟩, by simp [hdl], ?_, hB3.agree hag5 (fun b hb _ h => by simp at h; omega), hZ3.agree hag5 (fun b hb _ h => by simp at h; omega)⟩
      · rw [wrap_small (by omega) (by omega)]
        simp
      · rw [List.drop_eq_getElem_cons hil, show n - i = (n - (i + 1)) + 1 by omega] at hdone
        simp only [cutB] at hdone
        rw [← hdone, hnb]
        simp
    · have hout : done = cutB U.blocks n k := by
        have h1 : n - i = 0 := by have := of_decide_eq_false hc2; omega
        rw [h1] at hdone
        rw [← hdone]
        cases U.blocks.drop i <;> simp [cutB]
      have hbvc := isCell_len hB.own.arr.len
      have hag := Agree.swap st [⟨[s, iA U.params, iA U.regs, iA U.code, iA U.spill, bl], 0, 0⟩] ⟨[.sc (.slice none 0 0), iA 0, iA 0, iA 0, iA 0, .sc (.slice none 0 0)], 0, 0⟩ ⟨[sz, iA U.params, iA U.regs, iA U.code, iA U.spill, blv], 0, 1⟩ (⟨[sz, iA U.params, iA U.regs, iA U.code, iA U.spill, blv], 0, ver⟩ :: L)
      simp only [hc, k1, k2, k3, k6, k7, k8, l2, hcsz, hbvc, List.append_nil, kB, kZ, kD, fillA, partsEv, zeroes, Nat.reduceSub, Int.reduceToNat, Nat.reduceMul, asInt?, asNat?, Int.reduceAdd, Int.reduceLE, Int.reduceLT, Int.reduceNeg, Nat.reduceLeDiff, VOpd.ev, Nat.reduceEqDiff, Nat.reduceAdd, reduceIte, reduceCtorEq, splice, resOf, tupOf, cellsV, AV.toV, AV.cell?, cellVal]
      rw [hout] at hB hZ
      exact ⟨_, rfl, ⟨_, rfl⟩, ⟨sz, blv, f, rfl, (hZ.agree hag (fun b hb _ h => by simp at h; omega)).low (by omega), (hB.agree hag (fun b hb _ h => by simp at h; omega)).low (by omega)⟩⟩
  · have hout : done = cutB U.blocks n k := by
      have h1 : U.blocks.drop i = [] := List.drop_eq_nil_of_le (by have := of_decide_eq_false hc; omega)
      rw [h1] at hdone
      rw [← hdone]
      simp [cutB]
    have hbvc := isCell_len hB.own.arr.len
    have hag := Agree.swap st [⟨[s, iA U.params, iA U.regs, iA U.code, iA U.spill, bl], 0, 0⟩] ⟨[.sc (.slice none 0 0), iA 0, iA 0, iA 0, iA 0, .sc (.slice none 0 0)], 0, 0⟩ ⟨[sz, iA U.params, iA U.regs, iA U.code, iA U.spill, blv], 0, 1⟩ (⟨[sz, iA U.params, iA U.regs, iA U.code, iA U.spill, blv], 0, ver⟩ :: L)
    simp only [hc, k1, k2, k3, k6, k7, k8, l2, hcsz, hbvc, List.append_nil, kB, kZ, kD, fillA, partsEv, zeroes, Nat.reduceSub, Int.reduceToNat, Nat.reduceMul, asInt?, asNat?, Int.reduceAdd, Int.reduceLE, Int.reduceLT, Int.reduceNeg, Nat.reduceLeDiff, VOpd.ev, Nat.reduceEqDiff, Nat.reduceAdd, reduceIte, reduceCtorEq, splice, resOf, tupOf, cellsV, AV.toV, AV.cell?, cellVal]
    rw [hout] at hB hZ
    exact ⟨_, rfl, ⟨_, rfl⟩, ⟨sz, blv, f, rfl, (hZ.agree hag (fun b hb _ h => by simp at h; omega)).low (by omega), (hB.agree hag (fun b hb _ h => by simp at h; omega)).low (by omega)⟩⟩
end
end Go.VX.Seat
end
section
set_option linter.unusedVariables false
set_option linter.unusedSimpArgs false
/-! Closed calls: a run with fuel. -/
namespace Go.VX
/-! ### Slots in a tree -/
inductive Tr where
  | lf
  | nd (l : Tr) (v : AV) (r : Tr)
  deriving Inhabited
def Tr.get : Tr → Nat → AV
  | .lf, _ => undefA
  | .nd l v r, n => bif Nat.beq n 0 then v else bif Nat.beq (n % 2) 1 then l.get (n / 2) else r.get (n / 2 - 1)
def Tr.put : Nat → Tr → Nat → AV → Tr
  | 0, t, _, _ => t
  | d + 1, .lf, n, v => bif Nat.beq n 0 then .nd .lf v .lf else bif Nat.beq (n % 2) 1 then .nd (Tr.put d .lf (n / 2) v) undefA .lf else .nd .lf undefA (Tr.put d .lf (n / 2 - 1) v)
  | d + 1, .nd l x r, n, v => bif Nat.beq n 0 then .nd l v r else bif Nat.beq (n % 2) 1 then .nd (l.put d (n / 2) v) x r else .nd l x (r.put d (n / 2 - 1) v)
theorem Tr.get_put : ∀ (d : Nat) (t : Tr) (n : Nat) (v : AV) (m : Nat), n + 1 < 2 ^ d → (Tr.put d t n v).get m = if m = n then v else t.get m
  | 0, t, n, v, m, h => by simp at h
  | d + 1, .lf, n, v, m, h => by
    have hp : 2 ^ (d + 1) = 2 * 2 ^ d := by rw [Nat.pow_succ]; omega
    unfold Tr.put
    by_cases h0 : n = 0
    · subst h0
      have : Nat.beq 0 0 = true := rfl
      simp only [this, cond_true, Tr.get]
      by_cases hm : m = 0
      · subst hm; simp
      · have : Nat.beq m 0 = false := by cases hb : Nat.beq m 0 with | false => rfl | true => exact absurd (Nat.eq_of_beq_eq_true hb) hm
        simp [this, hm]
    · have hb0 : Nat.beq n 0 = false := by cases hb : Nat.beq n 0 with | false => rfl | true => exact absurd (Nat.eq_of_beq_eq_true hb) h0
      simp only [hb0, cond_false]
      cases hb1 : Nat.beq (n % 2) 1 with
      | true =>
        have h1 := Nat.eq_of_beq_eq_true hb1
        simp only [cond_true, Tr.get]
        by_cases hm : m = 0
        · subst hm
          have : Nat.beq 0 0 = true := rfl
          simp only [this, cond_true]
          rw [if_neg (by omega)]
        · have hm0 : Nat.beq m 0 = false := by cases hb : Nat.beq m 0 with | false => rfl | true => exact absurd (Nat.eq_of_beq_eq_true hb) hm
          simp only [hm0, cond_false]
          cases hb2 : Nat.beq (m % 2) 1 with
          | true =>
            have h2 := Nat.eq_of_beq_eq_true hb2
            simp only [cond_true]
            rw [Tr.get_put d .lf (n / 2) v (m / 2) (by omega)]
            by_cases hmn : m = n
            · subst hmn; simp
            · rw [if_neg (by omega), if_neg hmn]; rfl
          | false =>
            have h2 : m % 2 ≠ 1 := fun e => by rw [e] at hb2; cases hb2
            simp only [cond_false]
            rw [if_neg (by omega)]
      | false =>
        have h1 : n % 2 ≠ 1 := fun e => by rw [e] at hb1; cases hb1
        simp only [cond_false, Tr.get]
        by_cases hm : m = 0
        · subst hm
          have : Nat.beq 0 0 = true := rfl
          simp only [this, cond_true]
          rw [if_neg (by omega)]
        · have hm0 : Nat.beq m 0 = false := by cases hb : Nat.beq m 0 with | false => rfl | true => exact absurd (Nat.eq_of_beq_eq_true hb) hm
          simp only [hm0, cond_false]
          cases hb2 : Nat.beq (m % 2) 1 with
          | true =>
            have h2 := Nat.eq_of_beq_eq_true hb2
            simp only [cond_true]
            rw [if_neg (by omega)]
          | false =>
            have h2 : m % 2 ≠ 1 := fun e => by rw [e] at hb2; cases hb2
            simp only [cond_false]
            rw [Tr.get_put d .lf (n / 2 - 1) v (m / 2 - 1) (by omega)]
            by_cases hmn : m = n
            · subst hmn; simp
            · rw [if_neg (by omega), if_neg hmn]; rfl
  | d + 1, .nd l x r, n, v, m, h => by
    have hp : 2 ^ (d + 1) = 2 * 2 ^ d := by rw [Nat.pow_succ]; omega
    unfold Tr.put
    by_cases h0 : n = 0
    · subst h0
      have : Nat.beq 0 0 = true := rfl
      simp only [this, cond_true, Tr.get]
      by_cases hm : m = 0
      · subst hm; simp
      · have : Nat.beq m 0 = false := by cases hb : Nat.beq m 0 with | false => rfl | true => exact absurd (Nat.eq_of_beq_eq_true hb) hm
        simp [this, hm]
    · have hb0 : Nat.beq n 0 = false := by cases hb : Nat.beq n 0 with | false => rfl | true => exact absurd (Nat.eq_of_beq_eq_true hb) h0
      simp only [hb0, cond_false]
      cases hb1 : Nat.beq (n % 2) 1 with
      | true =>
        have h1 := Nat.eq_of_beq_eq_true hb1
        simp only [cond_true, Tr.get]
        by_cases hm : m = 0
        · subst hm
          have : Nat.beq 0 0 = true := rfl
          simp only [this, cond_true]
          rw [if_neg (by omega)]
        · have hm0 : Nat.beq m 0 = false := by cases hb : Nat.beq m 0 with | false => rfl | true => exact absurd (Nat.eq_of_beq_eq_true hb) hm
          simp only [hm0, cond_false]
          cases hb2 : Nat.beq (m % 2) 1 with
          | true =>
            have h2 := Nat.eq_of_beq_eq_true hb2
            simp only [cond_true]
            rw [Tr.get_put d l (n / 2) v (m / 2) (by omega)]
            by_cases hmn : m = n
            · subst hmn; simp
            · rw [if_neg (by omega), if_neg hmn]
          | false =>
            have h2 : m % 2 ≠ 1 := fun e => by rw [e] at hb2; cases hb2
            simp only [cond_false]
            rw [if_neg (by omega)]
      | false =>
        have h1 : n % 2 ≠ 1 := fun e => by rw [e] at hb1; cases hb1
        simp only [cond_false, Tr.get]
        by_cases hm : m = 0
        · subst hm
          have : Nat.beq 0 0 = true := rfl
          simp only [this, cond_true]
          rw [if_neg (by omega)]
        · have hm0 : Nat.beq m 0 = false := by cases hb : Nat.beq m 0 with | false => rfl | true => exact absurd (Nat.eq_of_beq_eq_true hb) hm
          simp only [hm0, cond_false]
          cases hb2 : Nat.beq (m % 2) 1 with
          | true =>
            have h2 := Nat.eq_of_beq_eq_true hb2
            simp only [cond_true]
            rw [if_neg (by omega)]
          | false =>
            have h2 : m % 2 ≠ 1 := fun e => by rw [e] at hb2; cases hb2
            simp only [cond_false]
            rw [Tr.get_put d r (n / 2 - 1) v (m / 2 - 1) (by omega)]
            by_cases hmn : m = n
            · subst hmn; simp
            · rw [if_neg (by omega), if_neg hmn]
def Tr.set (t : Tr) : Option Nat → AV → Option Tr
  | none, _ => some t
  | some d, v => bif Nat.blt d 65535 then some (t.put 16 d v) else none
theorem Tr.set_ok {t t' : Tr} {d : Option Nat} {v : AV} (h : t.set d v = some t') : t'.get = Env.put t.get d v := by
  cases d with
  | none => simp [Tr.set] at h; subst h; rfl
  | some d =>
    cases hb : Nat.blt d 65535 with
    | false => simp [Tr.set, hb] at h
    | true =>
      simp only [Tr.set, hb, cond_true, Option.some.injEq] at h
      subst h
      have : d < 65535 := Nat.lt_of_lt_of_le (Nat.lt_succ_self d) (Nat.le_of_ble_eq_true hb)
      funext m
      exact Tr.get_put 16 t d v m (by omega)
def trOf : Nat → Tr → List AV → Option Tr
  | _, t, [] => some t
  | k, t, a :: r => match t.set (some k) a with
    | some t' => trOf (k + 1) t' r
    | none => none
theorem trOf_ok : ∀ {l : List AV} {k : Nat} {t t' : Tr}, trOf k t l = some t' → ∀ m, t'.get m = if k ≤ m ∧ m < k + l.length then l.getD (m - k) undefA else t.get m
  | [], k, t, t', h, m => by
    simp [trOf] at h; subst h
    rw [if_neg]
    rintro ⟨h1, h2⟩
    simp at h2
    omega
  | a :: r, k, t, t', h, m => by
    unfold trOf at h
    split at h
    · rename_i t1 h1
      rw [trOf_ok h m, Tr.set_ok h1]
      simp only [List.length_cons, Env.put]
      by_cases hm : m = k
      · subst hm
        rw [if_neg (by omega), if_pos rfl, if_pos (by omega)]
        simp
      · by_cases h2 : k + 1 ≤ m ∧ m < k + 1 + r.length
        · rw [if_pos h2, if_pos (by omega), show m - k = (m - (k + 1)) + 1 by omega]
          simp
        · rw [if_neg h2, if_neg hm, if_neg (by omega)]
    · cases h
theorem trOf_env {l : List AV} {t : Tr} (h : trOf 0 .lf l = some t) : t.get = envOf l := by
  funext m
  rw [trOf_ok h m]
  unfold envOf
  by_cases hm : m < l.length
  · rw [if_pos (by omega)]; rfl
  · rw [if_neg (by omega), List.getD_eq_getElem?_getD, List.getElem?_eq_none (by omega)]; rfl
/-! ### Runs -/
/-- The boxes that were there are as they were. -/
def keepsB : St → St → Bool
  | [], _ => true
  | _ :: _, [] => false
  | x :: s, y :: s' => Nat.beq x.ver y.ver && (Nat.beq x.mode y.mode && keepsB s s')
theorem keepsB_ok : ∀ {st st' : St}, keepsB st st' = true → (∀ (b : Nat) (x : Box), st[b]? = some x → ∃ y : Box, st'[b]? = some y ∧ (x.ver = y.ver → x.mode = y.mode → x = y)) → st' = st ++ st'.drop st.length
  | [], st', _, _ => by simp
  | x :: s, [], h, _ => by cases h
  | x :: s, y :: s', h, he => by
    simp only [keepsB, Bool.and_eq_true] at h
    obtain ⟨z, hz, hxy⟩ := he 0 x (by simp)
    simp at hz; subst hz
    have h1 := hxy (Nat.eq_of_beq_eq_true h.1) (Nat.eq_of_beq_eq_true h.2.1)
    have := keepsB_ok h.2.2 (fun b z hb => by simpa using he (b + 1) z (by simpa using hb))
    subst h1
    simp only [List.cons_append, List.length_cons, List.drop_succ_cons]
    rw [← this]
abbrev EvC := VC → Tr → St → Option (VX × Tr × St)
abbrev EvF := FuncId → List AV → St → Option (CRes × St)
def evO (P : Program) (call : EvF) : List VOper → Tr → St → Option (VX × Tr × St)
  | [], t, st => some (.norm, t, st)
  | o :: l, t, st =>
    match wantedA t.get o.guard with
    | false => match t.set o.dst undefA with
      | some t' => evO P call l t' st
      | none => none
    | true => match vop P o.op t.get st with
      | some (.val v, st1) => match keptA t.get st st1 o.keep with
        | true => match t.set o.dst v with
          | some t' => evO P call l t' st1
          | none => none
        | false => none
      | some (.skip, st1) => match keptA t.get st st1 o.keep with
        | true => match t.set o.dst undefA with
          | some t' => evO P call l t' st1
          | none => none
        | false => none
      | some (.call f args, _) => match call f args st with
        | some (.ret v, st1) => match keptA t.get st st1 o.keep with
          | true => match t.set o.dst v with
            | some t' => evO P call l t' st1
            | none => none
          | false => none
        | some (.pan v, st1) => some (.pan v, t, st1)
        | none => none
      | some (.pan v, _) => some (.pan v, t, st)
      | none => none
/-- Where the result leads nowhere and what was there stays, the rest is forgotten. -/
def trim (r : CRes) (st st' : St) : CRes × St := match r.flat && keepsB st st' with
  | true => (r, st)
  | false => (r, st')
def evF (F : FuncId → Option VFun) (rec : EvC) (f : FuncId) (args : List AV) (st : St) : Option (CRes × St) :=
  match F f with
  | some fn => match trOf 0 .lf args with
    | some t => match rec fn.body t st with
      | some (.norm, t', st') => match resOf t'.get st' fn.res with
        | some vs => some (trim (.ret (tupOf vs)) st st')
        | none => none
      | some (.ret, t', st') => match resOf t'.get st' fn.res with
        | some vs => some (trim (.ret (tupOf vs)) st st')
        | none => none
      | some (.pan v, _, st') => some (.pan v, st')
      | _ => none
    | none => none
  | none => none
/-- Runs; hk tells of functions that others tell of. -/
def evC (P : Program) (F : FuncId → Option VFun) (hk : EvF → EvF) : Nat → EvC
  | 0, _, _, _ => none
  | n + 1, .skip, t, st => some (.norm, t, st)
  | n + 1, .reg l, t, st => evO P (hk (evF F (evC P F hk n))) l t st
  | n + 1, .seq a b, t, st => match evC P F hk n a t st with
    | some (.norm, t1, st1) => evC P F hk n b t1 st1
    | r => r
  | n + 1, .cond c a b, t, st => match c.ev t.get with
    | .sc (.bool true) => evC P F hk n a t st
    | .sc (.bool false) => evC P F hk n b t st
    | _ => none
  | n + 1, .block id a, t, st => match evC P F hk n a t st with
    | some (x, t1, st1) => some (x.unblock id, t1, st1)
    | none => none
  | n + 1, .loop a, t, st => match evC P F hk n a t st with
    | some (.norm, t1, st1) => evC P F hk n (.loop a) t1 st1
    | r => r
  | n + 1, .exit id, t, st => some (.exit id, t, st)
  | n + 1, .ret, t, st => some (.ret, t, st)
section
variable {P : Program} {F : FuncId → Option VFun} {H : FuncId → List AV → St → CRes → St → Prop} {hk : EvF → EvF}
def CallOk (P : Program) (F : FuncId → Option VFun) (H : FuncId → List AV → St → CRes → St → Prop) (call : EvF) : Prop := ∀ f args st r st', call f args st = some (r, st') → J P F H (.call f args st r st')
def CodeOk (P : Program) (F : FuncId → Option VFun) (H : FuncId → List AV → St → CRes → St → Prop) (rec : EvC) : Prop := ∀ c t st x t' st', rec c t st = some (x, t', st') → J P F H (.code c t.get st x t'.get st')
theorem evO_ok {call : EvF} (hc : CallOk P F H call) : ∀ {l : List VOper} {t : Tr} {st : St} {x : VX} {t' : Tr} {st' : St}, evO P call l t st = some (x, t', st') → J P F H (.ops l t.get st x t'.get st')
  | [], t, st, x, t', st', h => by
    simp only [evO, Option.some.injEq, Prod.mk.injEq] at h
    obtain ⟨rfl, rfl, rfl⟩ := h
    exact .nil
  | o :: l, t, st, x, t', st', h => by
    unfold evO at h
    split at h
    · rename_i hw
      split at h
      · rename_i t1 ht
        have := evO_ok hc h
        rw [Tr.set_ok ht] at this
        exact .idle hw this
      · cases h
    · rename_i hw
      split at h
      · rename_i v st1 hv
        split at h
        · rename_i hk1
          split at h
          · rename_i t1 ht
            have := evO_ok hc h
            rw [Tr.set_ok ht] at this
            exact .val hw hv hk1 this
          · cases h
        · cases h
      · rename_i st1 hv
        split at h
        · rename_i hk1
          split at h
          · rename_i t1 ht
            have := evO_ok hc h
            rw [Tr.set_ok ht] at this
            exact .done hw hv hk1 this
          · cases h
        · cases h
      · rename_i f args st1 hv
        have e1 := vop_call_st hv
        subst e1
        split at h
        · rename_i v st2 hcall
          split at h
          · rename_i hk1
            split at h
            · rename_i t1 ht
              have := evO_ok hc h
              rw [Tr.set_ok ht] at this
              exact .callR hw hv (hc _ _ _ _ _ hcall) hk1 this
            · cases h
          · cases h
        · rename_i v st2 hcall
          simp only [Option.some.injEq, Prod.mk.injEq] at h
          obtain ⟨rfl, rfl, rfl⟩ := h
          exact .callP hw hv (hc _ _ _ _ _ hcall)
        · cases h
      · rename_i v st1 hv
        have e1 := vop_pan_st hv
        subst e1
        simp only [Option.some.injEq, Prod.mk.injEq] at h
        obtain ⟨rfl, rfl, rfl⟩ := h
        exact .panic hw hv
      · cases h
theorem trim_ok (hE : ∀ f args st r st', H f args st r st' → Evo st st') {f : FuncId} {args : List AV} {st st' st2 : St} {r r' : CRes} (h : J P F H (.call f args st r st')) (ht : trim r st st' = (r', st2)) : J P F H (.call f args st r' st2) := by
  unfold trim at ht
  split at ht
  · rename_i hb
    simp only [Bool.and_eq_true] at hb
    cases ht
    have he := J_evo hE h
    have := keepsB_ok hb.2 (fun b x hx => let ⟨y, h1, _, _, h4⟩ := he b x hx; ⟨y, h1, h4⟩)
    rw [this] at h
    exact .forget h hb.1
  · cases ht; exact h
theorem evF_ok (hE : ∀ f args st r st', H f args st r st' → Evo st st') {rec : EvC} (hr : CodeOk P F H rec) : CallOk P F H (evF F rec) := by
  intro f args st r st' h
  unfold evF at h
  split at h
  · rename_i fn hF
    split at h
    · rename_i t ht
      have he := trOf_env ht
      split at h
      · rename_i t1 st1 hb
        split at h
        · rename_i vs hvs
          simp only [Option.some.injEq] at h
          have j := hr _ _ _ _ _ _ hb
          rw [he] at j
          exact trim_ok hE (.call hF j (.inl rfl) hvs) h
        · cases h
      · rename_i t1 st1 hb
        split at h
        · rename_i vs hvs
          simp only [Option.some.injEq] at h
          have j := hr _ _ _ _ _ _ hb
          rw [he] at j
          exact trim_ok hE (.call hF j (.inr rfl) hvs) h
        · cases h
      · rename_i v t1 st1 hb
        simp only [Option.some.injEq, Prod.mk.injEq] at h
        obtain ⟨rfl, rfl⟩ := h
        have j := hr _ _ _ _ _ _ hb
        rw [he] at j
        exact .callX hF j
      · cases h
    · cases h
  · cases h
theorem evC_ok (hE : ∀ f args st r st', H f args st r st' → Evo st st') (hh : ∀ call, CallOk P F H call → CallOk P F H (hk call)) : ∀ n, CodeOk P F H (evC P F hk n)
  | 0 => fun c t st x t' st' h => by simp [evC] at h
  | n + 1 => fun c t st x t' st' h => by
    have ih := evC_ok hE hh n
    cases c with
    | skip => simp only [evC, Option.some.injEq, Prod.mk.injEq] at h; obtain ⟨rfl, rfl, rfl⟩ := h; exact .skip
    | reg l => exact .reg (evO_ok (hh _ (evF_ok hE ih)) h)
    | seq a b =>
      simp only [evC] at h
      split at h
      · rename_i t1 st1 ha
        exact .seqN (ih _ _ _ _ _ _ ha) (ih _ _ _ _ _ _ h)
      · rename_i hno
        refine .seqX (ih _ _ _ _ _ _ h) ?_
        rintro rfl
        exact hno _ _ h
    | cond c a b =>
      simp only [evC] at h
      split at h
      · rename_i hc
        exact .cond (t := true) hc (ih _ _ _ _ _ _ h)
      · rename_i hc
        exact .cond (t := false) hc (ih _ _ _ _ _ _ h)
      · cases h
    | block id a =>
      simp only [evC] at h
      split at h
      · rename_i x1 t1 st1 ha
        simp only [Option.some.injEq, Prod.mk.injEq] at h
        obtain ⟨rfl, rfl, rfl⟩ := h
        exact .block (ih _ _ _ _ _ _ ha)
      · cases h
    | loop a =>
      simp only [evC] at h
      split at h
      · rename_i t1 st1 ha
        exact .loopN (ih _ _ _ _ _ _ ha) (ih _ _ _ _ _ _ h)
      · rename_i hno
        refine .loopX (ih _ _ _ _ _ _ h) ?_
        rintro rfl
        exact hno _ _ h
    | exit id => simp only [evC, Option.some.injEq, Prod.mk.injEq] at h; obtain ⟨rfl, rfl, rfl⟩ := h; exact .exit
    | ret => simp only [evC, Option.some.injEq, Prod.mk.injEq] at h; obtain ⟨rfl, rfl, rfl⟩ := h; exact .ret
end
end Go.VX
end
