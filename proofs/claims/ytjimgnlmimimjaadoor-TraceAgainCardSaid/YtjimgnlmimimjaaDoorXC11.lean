/- A part of the proofs of the statements of layer 17: S45, S46, S47. No condition is added here. -/
import Derived.Test.YtjimgnlmimimjaaDoorXC10
section
set_option linter.unusedVariables false
set_option linter.unusedSimpArgs false
set_option maxRecDepth 4000
/-! What an unrolled block is like; the errors of Check. -/
namespace Go.VX.Seat
open Go.Proofs
theorem opErr_le (ns nb : Nat) (regs spill k d a b c n g : Int) : opErr ns nb regs spill k d a b c n g ≤ 5 := by
  unfold opErr
  repeat' split
  all_goals decide
theorem endErr_le (nb : Nat) (regs k a t e : Int) : endErr nb regs k a t e ≤ 5 := by
  unfold endErr
  repeat' split
  all_goals decide
theorem opsFind_le {U : UnitV} {i : Nat} : ∀ {l : List OpV} {k : Nat} {x : Int × Int × Int}, opsFind U i k l = some x → x.1 ≤ 5
  | [], _, _, h => by cases h
  | o :: r, k, x, h => by
    unfold opsFind at h
    split at h
    · cases h; exact opErr_le _ _ _ _ _ _ _ _ _ _ _
    · exact opsFind_le h
theorem blkFind_le {U : UnitV} : ∀ {l : List BlkV} {i : Nat} {x : Int × Int × Int}, blkFind U i l = some x → x.1 ≤ 5
  | [], _, _, h => by cases h
  | b :: r, i, x, h => by
    unfold blkFind at h
    split at h
    · cases h; exact (by decide : (2 : Int) ≤ 5)
    · split at h
      · cases h; exact (by decide : (3 : Int) ≤ 5)
      · split at h
        · rename_i y hy
          cases h
          exact opsFind_le hy
        · split at h
          · cases h; exact endErr_le _ _ _ _ _ _
          · exact blkFind_le h
theorem chkU_le (U : UnitV) : chkU U ≤ 5 := by
  unfold chkU findU
  split
  · decide
  · split
    · decide
    · split
      · decide
      · split
        · rename_i x hx
          exact blkFind_le hx
        · split <;> decide
theorem thereU_le (U : UnitV) (r : Bool) (b : Int) : thereU U r b ≤ 5 := by
  unfold thereU
  split
  · exact chkU_le U
  · split <;> decide
/-- How many operations leave a loop. -/
def leaveN (e : EndV) (x : Int) : Nat := if e.k = 2 then (if e.t = x then 3 else 1) else 0
theorem again_way {e : EndV} {x : Int} (h : 0 ≤ selfN e x) : (selfN e x = 1 ∧ leaveN e x = 3) ∨ (selfN e x = 2 ∧ leaveN e x = 1) ∨ (selfN e x = 0 ∧ leaveN e x = 0) := by
  unfold selfN selfG isWay toOf wayTo wayElse leaveN at *
  by_cases h1 : e.k = 1
  · by_cases h2 : e.t = x <;> simp [h1, h2] at h ⊢
  · by_cases h2 : e.k = 2
    · by_cases h3 : e.t = x
      · simp [h2, h3]
      · by_cases h4 : e.e = x <;> simp [h2, h3, h4] at h ⊢
    · simp [h1, h2] at h
structure AgV (B : BlkV) (lv n : Nat) (O : List OpV) : Prop where
  len : O.length = B.ops.length + n * (B.ops.length + lv)
  cell : ∀ i j (hj : j < B.ops.length), i ≤ n → O[i * (B.ops.length + lv) + j]? = some B.ops[j]
theorem unroll_again {U : UnitV} {x : Nat} (hx : x < U.blocks.length) (hway : 0 ≤ selfN U.blocks[x].e x) : ∀ n : Nat, ∃ O : List OpV,
    unrollK U x (selfN U.blocks[x].e x) U.blocks[x] n = { U with regs := U.regs + ((n * (leaveN U.blocks[x].e x / 2 * 2) : Nat) : Int), blocks := U.blocks.set x { U.blocks[x] with ops := O } } ∧ AgV U.blocks[x] (leaveN U.blocks[x].e x) n O
  | 0 => by
    refine ⟨U.blocks[x].ops, ?_, by simp, fun i j hj hi => ?_⟩
    · unfold unrollK
      have : U.blocks.set x { U.blocks[x] with ops := U.blocks[x].ops } = U.blocks := List.set_getElem_self hx
      rw [this]
      simp
    · have : i = 0 := by omega
      subst this
      rw [Nat.zero_mul, Nat.zero_add, List.getElem?_eq_getElem hj]
  | n + 1 => by
    obtain ⟨O, hK, hA⟩ := unroll_again hx hway n
    have hw := again_way hway
    have hq : (n + 1) * (U.blocks[x].ops.length + leaveN U.blocks[x].e x) = n * (U.blocks[x].ops.length + leaveN U.blocks[x].e x) + (U.blocks[x].ops.length + leaveN U.blocks[x].e x) := Nat.succ_mul _ _
    have hr : (n + 1) * (leaveN U.blocks[x].e x / 2 * 2) = n * (leaveN U.blocks[x].e x / 2 * 2) + leaveN U.blocks[x].e x / 2 * 2 := Nat.succ_mul _ _
    generalize hB : U.blocks[x] = B at *
    generalize selfN B.e x = way at *
    generalize leaveN B.e x = lv at *
    generalize hV : ({ U with regs := U.regs + ((n * (lv / 2 * 2) : Nat) : Int), blocks := U.blocks.set x { B with ops := O } } : UnitV) = V at *
    have hVb : V.blocks = U.blocks.set x { B with ops := O } := by rw [← hV]
    have hVr : V.regs = U.regs + ((n * (lv / 2 * 2) : Nat) : Int) := by rw [← hV]
    have hVx : V.blocks[x]? = some { B with ops := O } := by rw [hVb, List.getElem?_set_self hx]
    have hext : (extOps V { B with ops := O } way).length = lv := by
      rcases hw with ⟨rfl, rfl⟩ | ⟨rfl, rfl⟩ | ⟨rfl, rfl⟩ <;> rfl
    have hregs : extRegs V way = U.regs + (((n + 1) * (lv / 2 * 2) : Nat) : Int) := by
      rw [hr]
      rcases hw with ⟨rfl, rfl⟩ | ⟨rfl, rfl⟩ | ⟨rfl, rfl⟩
      · show V.regs + 2 = _
        rw [hVr]; omega
      · show V.regs = _
        rw [hVr]; omega
      · show V.regs = _
        rw [hVr]; omega
    refine ⟨O ++ extOps V { B with ops := O } way ++ B.ops, ?_, ?_, fun i j hj hi => ?_⟩
    · unfold unrollK
      rw [hK]
      unfold extAt
      rw [hVx]
      simp only [extBy]
      rw [hregs, hVb, List.set_set, ← hV]
    · rw [List.length_append, List.length_append, hext, hA.len, hq]
      omega
    · by_cases hin : i ≤ n
      · have h1 := hA.cell i j hj hin
        have h2 := (List.getElem?_eq_some_iff.1 h1).1
        rw [List.append_assoc, List.getElem?_append_left h2]
        exact h1
      · have hi' : i = n + 1 := by omega
        subst hi'
        rw [hq, List.getElem?_append_right (by rw [List.length_append, hext, hA.len]; omega), List.length_append, hext, hA.len]
        rw [show n * (B.ops.length + lv) + (B.ops.length + lv) + j - (B.ops.length + n * (B.ops.length + lv) + lv) = j by omega]
        exact List.getElem?_eq_getElem hj
theorem again_size {U : UnitV} {b : Int} {n : Nat} (h : (unrollU U b n).2 = 11) : 0 < n := by
  rcases Nat.eq_zero_or_pos n with rfl | h0
  · exfalso
    unfold unrollU at h
    split at h
    · have := thereU_le U true b
      simp only at h
      omega
    · rename_i hc
      have hth : thereU U true b = 0 := by simpa using hc
      obtain ⟨hchk, _, x, hx, rfl⟩ := there_zero hth
      unfold unrollR at h
      rw [Int.toNat_natCast, List.getElem?_eq_getElem hx] at h
      simp only at h
      split at h
      · simp at h
      · split at h
        · simp at h
        · split at h
          · rename_i hk
            have : chkU (unrollK U x (selfN U.blocks[x].e x) U.blocks[x] 0) = 0 := hchk
            have hk := of_decide_eq_true hk
            exact hk this
          · simp at h
  · exact h0
section
variable (P : Program) (t : TypeId) (a : Int) (ox oy : Operand)
theorem c_rem17 : closed P (do eqGuard .rem t ox oy (.int .i64 a) (.int .i64 17); binOp .rem t (.int .i64 a) (.int .i64 17)) = some (.int .i64 (a.tmod 17)) := rfl
theorem c_quo2 : closed P (do eqGuard .quo t ox oy (.int .i64 a) (.int .i64 2); binOp .quo t (.int .i64 a) (.int .i64 2)) = some (.int .i64 (IntKind.wrap .i64 (a.tdiv 2))) := rfl
theorem c_conv8 (n : Int) : closed Go.Proofs.Tryd.prog (convert 5 3 (.int .u8 n)) = some (.int .i64 (IntKind.wrap .i64 n)) := by kernel_rfl
end
end Go.VX.Seat
end
section
set_option linter.unusedVariables false
set_option linter.unusedSimpArgs false
set_option maxRecDepth 4000
/-! A block is put back. -/
namespace Go.VX.Seat
open Go.Proofs
theorem _root_.Go.VX.ArrAt.inside {s : St} {lo hi esz : Nat} {v : AV} {rows : List (List AV)} (h : ArrAt s lo hi v esz rows) : ArrAt s 0 s.length v esz rows where
  len := h.len
  size := h.size
  row := fun i hi => let ⟨b, o, h1, _, _, h4⟩ := h.row i hi; ⟨b, o, h1, Nat.zero_le _, atN_lt h4, h4⟩
theorem kept_two {env : Env} {s s' : St} {x y : VOpd} {b o b2 o2 : Nat} (hx : x.ev env = .ptr b o) (h : s'[b]? = s[b]?) (hy : y.ev env = .ptr b2 o2) (h2 : s'[b2]? = s[b2]?) : keptA env s s' [x, y] = true := by
  have h1 := kept_one (env := env) (s := s) (s' := s') (x := x) hx h
  have h3 := kept_one (env := env) (s := s) (s' := s') (x := y) hy h2
  unfold keptA at *
  simp only [List.all_cons, List.all_nil, Bool.and_true] at *
  rw [h1, h3]; rfl
theorem again_store {S0 T N : St} {lo hi lo9 P9 ver x : Nat} {bl1 sz3 bl3 : AV} {f1 f3 : Nat → AV} {U V : UnitV} {O : List OpV} (hx : x < U.blocks.length) (hT : T = S0 ++ N)
    (hbo1 : ∀ i (hi' : i < U.blocks.length), OpsAt S0 lo hi (f1 i) U.blocks[i].ops)
    (z9 : OwnZ T lo9 sz3 bl3 f3 V.sizes V.blocks) (b9 : OwnB T lo9 bl3 f3 V.blocks) (hlo9 : S0.length ≤ lo9) (box9 : T[P9]? = some ⟨[sz3, iA V.params, iA V.regs, iA V.code, iA V.spill, bl3], 0, ver⟩) (hsep : ¬ UBox sz3 bl3 f3 V.blocks.length P9) (hP9 : S0.length ≤ P9)
    (hVb : V.blocks = U.blocks.set x { U.blocks[x] with ops := O }) (hVz : V.sizes = U.sizes) (hVp : V.params = U.params) (hVc : V.code = U.code) (hVs : V.spill = U.spill) :
    ∃ bb T2 T3, boxOf bl3 = some bb ∧ S0.length ≤ bb ∧ elemA bl3 6 (x : Int) = some (.ptr bb (x * 6)) ∧ T.put bb (x * 6 + 0) (U.blocks[x].row (f1 x)) = some T2 ∧ (∀ n, n < S0.length → T2[n]? = T[n]?) ∧ T2.put P9 2 [iA U.regs] = some T3 ∧ (∃ m, T3 = S0 ++ m) ∧
      T3.atN P9 0 6 = some [sz3, iA U.params, iA U.regs, iA U.code, iA U.spill, bl3] ∧ UnitAt T3 0 T3.length (.agg [sz3, iA U.params, iA U.regs, iA U.code, iA U.spill, bl3]) U := by
  have hVl : V.blocks.length = U.blocks.length := by rw [hVb, List.length_set]
  have hx' : x < V.blocks.length := by omega
  have hc1 := isCell_len (hbo1 x hx).len
  obtain ⟨bb, T2, hbb, hel, hput, hag, hown2, hex2⟩ := own_setrow b9.own b9.box x (by rw [blkRows_length]; exact hx') 0 (U.blocks[x].row (f1 x)) (by simp [BlkV.row]) (by simp only [BlkV.row, hc1, kB, kZ, kD, fillA, partsEv, zeroes, Nat.reduceSub, Int.reduceToNat, Nat.reduceMul, asInt?, asNat?, Int.reduceAdd, Int.reduceLE, Int.reduceLT, Int.reduceNeg, Nat.reduceLeDiff, VOpd.ev, Nat.reduceEqDiff, Nat.reduceAdd, reduceIte, reduceCtorEq, splice, resOf, tupOf, cellsV, AV.toV, AV.cell?, cellVal])
  have hbblo := (b9.own.bnd bb hbb).1
  have hrow : (blkRows V.blocks f3).set x (splice ((blkRows V.blocks f3)[x]'(by rw [blkRows_length]; exact hx')) 0 (U.blocks[x].row (f1 x))) = blkRows U.blocks (fun j => if j = x then f1 x else f3 j) := by
    rw [blkRows_get _ _ _ hx', show splice (V.blocks[x].row (f3 x)) 0 (U.blocks[x].row (f1 x)) = U.blocks[x].row (f1 x) from rfl, blkRows_set, hVb, List.set_set]
    have : U.blocks.set x U.blocks[x] = U.blocks := List.set_getElem_self hx
    rw [this]
  rw [hrow] at hown2
  have hne9 : P9 ≠ bb := fun e => hsep (.inr (.inl (by rw [e]; exact hbb)))
  have box92 : T2[P9]? = some ⟨[sz3, iA V.params, iA V.regs, iA V.code, iA V.spill, bl3], 0, ver⟩ := hag.box box9 hne9
  have hput3 := put_box (o := 2) (vs := [iA U.regs]) box92 (by simp) rfl
  have hag3 := Agree.set T2 P9 ⟨splice [sz3, iA V.params, iA V.regs, iA V.code, iA V.spill, bl3] 2 [iA U.regs], 0, ver + 1⟩
  have hagA := hag.trans hag3
  have hlt9 : P9 < T2.length := (List.getElem?_eq_some_iff.1 box92).1
  refine ⟨bb, T2, _, hbb, by omega, hel, hput, fun n hn => hag.eq n (by rw [hT]; simp; omega) (by omega), hput3, hagA.ext ⟨N, hT⟩ (fun b hb hx => by rcases hx with h | h <;> omega), ?_, ?_⟩
  · have hb3 : (T2.set P9 ⟨splice [sz3, iA V.params, iA V.regs, iA V.code, iA V.spill, bl3] 2 [iA U.regs], 0, ver + 1⟩)[P9]? = some ⟨[sz3, iA V.params, iA U.regs, iA V.code, iA V.spill, bl3], 0, ver + 1⟩ := by
      rw [List.getElem?_set_self hlt9]; rfl
    have := atN_box hb3 (by decide) 0 6 (by simp)
    rw [← hVp, ← hVc, ← hVs]
    exact this
  · have hz := (z9.own.agree hagA (fun b hb h => by
      rcases h with h | h
      · subst h; exact (z9.sep b hb).1 hbb
      · subst h; exact hsep (.inl hb))).arr
    rw [hVz] at hz
    have hbA := (hown2.agree hag3 (fun b hb h => by subst h; exact hsep (.inr (.inl hb)))).arr
    refine ⟨sz3, bl3, rfl, hz.inside, fun j => if j = x then f1 x else f3 j, hbA.inside, fun j hj => ?_⟩
    by_cases hjx : j = x
    · subst hjx
      show OpsAt _ _ _ (if j = j then f1 j else f3 j) _
      rw [if_pos rfl]
      have h0 := ArrAt.mono (hbo1 j hx) N
      have hlt := fun b (hb : boxOf (f1 j) = some b) => ArrAt.boxlt (hbo1 j hx) hb
      rw [← hT] at h0
      have h1 := h0.agree hagA (fun b hb h => by
        have := hlt b hb
        rcases h with h | h <;> omega)
      exact h1.inside
    · show OpsAt _ _ _ (if j = x then f1 x else f3 j) _
      rw [if_neg hjx]
      have hj' : j < V.blocks.length := by omega
      have h1 := ((b9.ops j hj').agree hagA (fun b hb h => by
        rcases h with h | h
        · subst h; exact b9.sep1 j hj' b hbb hb
        · subst h; exact hsep (.inr (.inr ⟨j, hj', hb⟩)))).arr
      have he : V.blocks[j] = U.blocks[j] := by
        have : V.blocks[j]? = U.blocks[j]? := by rw [hVb, List.getElem?_set_ne (fun e => hjx e.symm)]
        rw [List.getElem?_eq_getElem hj', List.getElem?_eq_getElem hj] at this
        exact Option.some.inj this
      rw [he] at h1
      exact h1.inside
end Go.VX.Seat
end
section
set_option linter.unusedVariables false
set_option linter.unusedSimpArgs false
set_option maxRecDepth 4000
/-! The law TraceAgain. -/
namespace Go.VX.Seat
open Go.Proofs
theorem unrollU_zero {U : UnitV} {b times : Int} (h : (unrollU U b times).2 = 0) : ∃ x : Nat, ∃ hx : x < U.blocks.length, b = x ∧ Wf U ∧ 0 ≤ selfN U.blocks[x].e x ∧ (unrollU U b times).1 = unrollK U x (selfN U.blocks[x].e x) U.blocks[x] times.toNat := by
  by_cases hth : thereU U true b = 0
  · obtain ⟨hchk, _, x, hx, rfl⟩ := there_zero hth
    have hEU : unrollU U x times = unrollR U x times := by
      unfold unrollU
      rw [hth]
      simp
    rw [hEU] at h ⊢
    refine ⟨x, hx, rfl, chk_wf hchk, ?_⟩
    unfold unrollR at h ⊢
    rw [List.getElem?_eq_getElem hx] at h ⊢
    simp only at h ⊢
    by_cases h1 : selfN U.blocks[x].e x < 0
    · rw [if_pos (decide_eq_true h1)] at h; simp at h
    · have h1' : ¬ (decide (selfN U.blocks[x].e x < 0) = true) := by simpa using h1
      rw [if_neg h1'] at h ⊢
      refine ⟨by omega, ?_⟩
      split at h
      · simp at h
      · rename_i h2
        rw [if_neg h2]
        split at h
        · simp at h
        · rename_i h3
          rw [if_neg h3]
  · unfold unrollU at h
    rw [if_pos (decide_eq_true hth)] at h
    exact absurd h hth
section
variable {X : Cx} {st : St}
set_option maxHeartbeats 4000000 in
theorem w_TraceAgain (h : OnH X) (hg : GB st) {lo hi : Nat} {v : AV} {U0 : UnitV} (hv : UnitAt st lo hi v U0) (b : Int) (t : Nat) (ht : t < 256) :
    wpF X 6 [v, iA b, .sc (.int .u8 t)] st fun r s => r = .ret (bA true) ∧ ∃ m, s = st ++ m := by
  refine wpF_go (fn := v_l17_TraceAgain) (by rw [h.F]; rfl) ?_
  have hm := fun L => hv.mono L
  obtain ⟨s, bl, rfl, hs, hb⟩ := hv
  have hcs := isCell_len hs.len
  have hcb : bl.isCell = true := by
    obtain ⟨f, hb, _⟩ := hb
    exact isCell_len hb.len
  have hC := fun (L : St) => w_cut h.toOn (hm L)
  have hfit := chk_cut_fits U0
  generalize cutU U0 16 60 = U at hC hfit
  simp only [v_l17_TraceAgain, hcs, hcb, kB, kZ, kD, fillA, partsEv, zeroes, Nat.reduceSub, Int.reduceToNat, Nat.reduceMul, asInt?, asNat?, Int.reduceAdd, Int.reduceLE, Int.reduceLT, Int.reduceNeg, Nat.reduceLeDiff, VOpd.ev, Nat.reduceEqDiff, Nat.reduceAdd, reduceIte, reduceCtorEq, splice, resOf, tupOf, cellsV, AV.toV, AV.cell?, cellVal]
  refine callO_newU (hC _) ?_
  intro w1 m1 hw1
  obtain ⟨sz1, bl1, f1, rfl, hz1, hb1⟩ := hw1.ex
  have hszc1 := isCell_len hz1.own.arr.len
  have hblc1 := isCell_len hb1.own.arr.len
  have hw8 : IntKind.wrap .i64 (t : Int) = (t : Int) := wrap_small (by omega) (by omega)
  have hrem : (t : Int).tmod 17 = ((t % 17 : Nat) : Int) := rfl
  have hn16 : t % 17 ≤ 16 := by omega
  simp only [hszc1, hblc1, h.P, c_conv8, c_rem17, hw8, hrem, kB, kZ, kD, fillA, partsEv, zeroes, Nat.reduceSub, Int.reduceToNat, Nat.reduceMul, asInt?, asNat?, Int.reduceAdd, Int.reduceLE, Int.reduceLT, Int.reduceNeg, Nat.reduceLeDiff, VOpd.ev, Nat.reduceEqDiff, Nat.reduceAdd, reduceIte, reduceCtorEq, splice, resOf, tupOf, cellsV, AV.toV, AV.cell?, cellVal]
  generalize t % 17 = n at *
  refine callO_newU (hC _) ?_
  intro w2 m2 hw2
  have hU1 : ∀ M : St, OwnU (st ++ (⟨[s, iA U0.params, iA U0.regs, iA U0.code, iA U0.spill, bl], 0, 0⟩ :: (m1 ++ M))) (st.length + 1) (.agg [sz1, iA U.params, iA U.regs, iA U.code, iA U.spill, bl1]) U := fun M => by
    have h1 : OwnU ((st ++ [⟨[s, iA U0.params, iA U0.regs, iA U0.code, iA U0.spill, bl], 0, 0⟩]) ++ m1) (st.length + 1) (.agg [sz1, iA U.params, iA U.regs, iA U.code, iA U.spill, bl1]) U := by simpa using hw1
    have := h1.agree (Agree.app (fun _ => False) _ M) (fun _ _ _ h => h)
    simpa using this
  clear hz1 hb1 hw1
  simp only [kB, kZ, kD, fillA, partsEv, zeroes, Nat.reduceSub, Int.reduceToNat, Nat.reduceMul, asInt?, asNat?, Int.reduceAdd, Int.reduceLE, Int.reduceLT, Int.reduceNeg, Nat.reduceLeDiff, VOpd.ev, Nat.reduceEqDiff, Nat.reduceAdd, reduceIte, reduceCtorEq, splice, resOf, tupOf, cellsV, AV.toV, AV.cell?, cellVal]
  have hu2 : UAt (st ++ (⟨[s, iA U0.params, iA U0.regs, iA U0.code, iA U0.spill, bl], 0, 0⟩ :: (m1 ++ (⟨[sz1, iA U.params, iA U.regs, iA U.code, iA U.spill, bl1], 0, 1⟩ :: m2)))) w2 U := by simpa using hw2.uat
  obtain ⟨_, _, hu2⟩ := hu2
  clear hw2
  refine callO_newUE (w_trace_Unroll h (hg.app _) hu2 b n) ?_
  intro w3 m3 hw3
  obtain ⟨sz3, bl3, f3, rfl, hz3, hb3⟩ := hw3.ex
  have hszc3 := isCell_len hz3.own.arr.len
  have hblc3 := isCell_len hb3.own.arr.len
  simp only [hszc3, hblc3, kB, kZ, kD, fillA, partsEv, zeroes, Nat.reduceSub, Int.reduceToNat, Nat.reduceMul, asInt?, asNat?, Int.reduceAdd, Int.reduceLE, Int.reduceLT, Int.reduceNeg, Nat.reduceLeDiff, VOpd.ev, Nat.reduceEqDiff, Nat.reduceAdd, reduceIte, reduceCtorEq, splice, resOf, tupOf, cellsV, AV.toV, AV.cell?, cellVal]
  have hSe : (st ++ (⟨[s, iA U0.params, iA U0.regs, iA U0.code, iA U0.spill, bl], 0, 0⟩ :: (m1 ++ (⟨[sz1, iA U.params, iA U.regs, iA U.code, iA U.spill, bl1], 0, 1⟩ :: (m2 ++ (m3 ++ [⟨[sz3, iA (unrollU U b n).1.params, iA (unrollU U b n).1.regs, iA (unrollU U b n).1.code, iA (unrollU U b n).1.spill, bl3], 0, 1⟩]))))) : St) = (st ++ (⟨[s, iA U0.params, iA U0.regs, iA U0.code, iA U0.spill, bl], 0, 0⟩ :: (m1 ++ (⟨[sz1, iA U.params, iA U.regs, iA U.code, iA U.spill, bl1], 0, 1⟩ :: m2))) : St) ++ (m3 ++ [⟨[sz3, iA (unrollU U b n).1.params, iA (unrollU U b n).1.regs, iA (unrollU U b n).1.code, iA (unrollU U b n).1.spill, bl3], 0, 1⟩]) := by simp
  have hP9 : (st.length + (m1.length + (m2.length + m3.length + 1) + 1)) = ((st ++ (⟨[s, iA U0.params, iA U0.regs, iA U0.code, iA U0.spill, bl], 0, 0⟩ :: (m1 ++ (⟨[sz1, iA U.params, iA U.regs, iA U.code, iA U.spill, bl1], 0, 1⟩ :: m2))) : St) ++ m3).length := by simp
  have hP7 : (st.length + (m1.length + 1)) < (st ++ (⟨[s, iA U0.params, iA U0.regs, iA U0.code, iA U0.spill, bl], 0, 0⟩ :: (m1 ++ (⟨[sz1, iA U.params, iA U.regs, iA U.code, iA U.spill, bl1], 0, 1⟩ :: m2))) : St).length := by simp
  have d75 : St.at1 (st ++ (⟨[s, iA U0.params, iA U0.regs, iA U0.code, iA U0.spill, bl], 0, 0⟩ :: (m1 ++ (⟨[sz1, iA U.params, iA U.regs, iA U.code, iA U.spill, bl1], 0, 1⟩ :: (m2 ++ (m3 ++ [⟨[sz3, iA (unrollU U b n).1.params, iA (unrollU U b n).1.regs, iA (unrollU U b n).1.code, iA (unrollU U b n).1.spill, bl3], 0, 1⟩]))))) : St) (st.length + (m1.length + 1)) 5 = some bl1 := by simp only [kB, kZ, kD, fillA, partsEv, zeroes, Nat.reduceSub, Int.reduceToNat, Nat.reduceMul, asInt?, asNat?, Int.reduceAdd, Int.reduceLE, Int.reduceLT, Int.reduceNeg, Nat.reduceLeDiff, VOpd.ev, Nat.reduceEqDiff, Nat.reduceAdd, reduceIte, reduceCtorEq, splice, resOf, tupOf, cellsV, AV.toV, AV.cell?, cellVal]
  have d72 : St.at1 (st ++ (⟨[s, iA U0.params, iA U0.regs, iA U0.code, iA U0.spill, bl], 0, 0⟩ :: (m1 ++ (⟨[sz1, iA U.params, iA U.regs, iA U.code, iA U.spill, bl1], 0, 1⟩ :: (m2 ++ (m3 ++ [⟨[sz3, iA (unrollU U b n).1.params, iA (unrollU U b n).1.regs, iA (unrollU U b n).1.code, iA (unrollU U b n).1.spill, bl3], 0, 1⟩]))))) : St) (st.length + (m1.length + 1)) 2 = some (iA U.regs) := by simp only [kB, kZ, kD, fillA, partsEv, zeroes, Nat.reduceSub, Int.reduceToNat, Nat.reduceMul, asInt?, asNat?, Int.reduceAdd, Int.reduceLE, Int.reduceLT, Int.reduceNeg, Nat.reduceLeDiff, VOpd.ev, Nat.reduceEqDiff, Nat.reduceAdd, reduceIte, reduceCtorEq, splice, resOf, tupOf, cellsV, AV.toV, AV.cell?, cellVal]
  have d76 : St.atN (st ++ (⟨[s, iA U0.params, iA U0.regs, iA U0.code, iA U0.spill, bl], 0, 0⟩ :: (m1 ++ (⟨[sz1, iA U.params, iA U.regs, iA U.code, iA U.spill, bl1], 0, 1⟩ :: m2))) : St) (st.length + (m1.length + 1)) 0 6 = some [sz1, iA U.params, iA U.regs, iA U.code, iA U.spill, bl1] := by simp only [kB, kZ, kD, fillA, partsEv, zeroes, Nat.reduceSub, Int.reduceToNat, Nat.reduceMul, asInt?, asNat?, Int.reduceAdd, Int.reduceLE, Int.reduceLT, Int.reduceNeg, Nat.reduceLeDiff, VOpd.ev, Nat.reduceEqDiff, Nat.reduceAdd, reduceIte, reduceCtorEq, splice, resOf, tupOf, cellsV, AV.toV, AV.cell?, cellVal]
  have hu7 : UAt (st ++ (⟨[s, iA U0.params, iA U0.regs, iA U0.code, iA U0.spill, bl], 0, 0⟩ :: (m1 ++ (⟨[sz1, iA U.params, iA U.regs, iA U.code, iA U.spill, bl1], 0, 1⟩ :: m2))) : St) (.agg [sz1, iA U.params, iA U.regs, iA U.code, iA U.spill, bl1]) U := by simpa using (hU1 (⟨[sz1, iA U.params, iA U.regs, iA U.code, iA U.spill, bl1], 0, 1⟩ :: m2)).uat
  have box9 : (st ++ (⟨[s, iA U0.params, iA U0.regs, iA U0.code, iA U0.spill, bl], 0, 0⟩ :: (m1 ++ (⟨[sz1, iA U.params, iA U.regs, iA U.code, iA U.spill, bl1], 0, 1⟩ :: (m2 ++ (m3 ++ [⟨[sz3, iA (unrollU U b n).1.params, iA (unrollU U b n).1.regs, iA (unrollU U b n).1.code, iA (unrollU U b n).1.spill, bl3], 0, 1⟩]))))) : St)[(st.length + (m1.length + (m2.length + m3.length + 1) + 1))]? = some ⟨[sz3, iA (unrollU U b n).1.params, iA (unrollU U b n).1.regs, iA (unrollU U b n).1.code, iA (unrollU U b n).1.spill, bl3], 0, 1⟩ := by
    rw [hSe, hP9, ← List.append_assoc, List.getElem?_append_right (Nat.le_refl _), Nat.sub_self]
    rfl
  have z9 := hz3.agree (Agree.app (fun _ => False) _ [⟨[sz3, iA (unrollU U b n).1.params, iA (unrollU U b n).1.regs, iA (unrollU U b n).1.code, iA (unrollU U b n).1.spill, bl3], 0, 1⟩]) (fun _ _ _ h => h)
  have b9 := hb3.agree (Agree.app (fun _ => False) _ [⟨[sz3, iA (unrollU U b n).1.params, iA (unrollU U b n).1.regs, iA (unrollU U b n).1.code, iA (unrollU U b n).1.spill, bl3], 0, 1⟩]) (fun _ _ _ h => h)
  have hsep : ¬ UBox sz3 bl3 f3 (unrollU U b n).1.blocks.length (st.length + (m1.length + (m2.length + m3.length + 1) + 1)) := fun hx => by
    have := (ubox_lt hz3 hb3 hx).2
    rw [hP9] at this
    omega
  rw [List.append_assoc, ← hSe] at z9 b9
  have hge9 : (st ++ (⟨[s, iA U0.params, iA U0.regs, iA U0.code, iA U0.spill, bl], 0, 0⟩ :: (m1 ++ (⟨[sz1, iA U.params, iA U.regs, iA U.code, iA U.spill, bl1], 0, 1⟩ :: m2))) : St).length ≤ (st.length + (m1.length + (m2.length + m3.length + 1) + 1)) := by rw [hP9]; simp
  have hgS : GB (st ++ (⟨[s, iA U0.params, iA U0.regs, iA U0.code, iA U0.spill, bl], 0, 0⟩ :: (m1 ++ (⟨[sz1, iA U.params, iA U.regs, iA U.code, iA U.spill, bl1], 0, 1⟩ :: (m2 ++ (m3 ++ [⟨[sz3, iA (unrollU U b n).1.params, iA (unrollU U b n).1.regs, iA (unrollU U b n).1.code, iA (unrollU U b n).1.spill, bl3], 0, 1⟩]))))) : St) := hg.app _
  have hend : ∃ m', (st ++ (⟨[s, iA U0.params, iA U0.regs, iA U0.code, iA U0.spill, bl], 0, 0⟩ :: (m1 ++ (⟨[sz1, iA U.params, iA U.regs, iA U.code, iA U.spill, bl1], 0, 1⟩ :: m2))) : St) = st ++ m' := ⟨_, rfl⟩
  clear hz3 hb3 hw3 hP9 hU1 hu2
  generalize (st ++ (⟨[s, iA U0.params, iA U0.regs, iA U0.code, iA U0.spill, bl], 0, 0⟩ :: (m1 ++ (⟨[sz1, iA U.params, iA U.regs, iA U.code, iA U.spill, bl1], 0, 1⟩ :: (m2 ++ (m3 ++ [⟨[sz3, iA (unrollU U b n).1.params, iA (unrollU U b n).1.regs, iA (unrollU U b n).1.code, iA (unrollU U b n).1.spill, bl3], 0, 1⟩]))))) : St) = S at *
  generalize (st ++ (⟨[s, iA U0.params, iA U0.regs, iA U0.code, iA U0.spill, bl], 0, 0⟩ :: (m1 ++ (⟨[sz1, iA U.params, iA U.regs, iA U.code, iA U.spill, bl1], 0, 1⟩ :: m2))) : St) = S0 at *
  generalize (st.length + (m1.length + (m2.length + m3.length + 1) + 1)) = P9 at *
  generalize (st.length + (m1.length + 1)) = P7 at *
  have hendS : ∀ L, ∃ m', S ++ L = st ++ m' := fun L => by
    obtain ⟨m', e⟩ := hend
    exact ⟨m' ++ ((m3 ++ [⟨[sz3, iA (unrollU U b n).1.params, iA (unrollU U b n).1.regs, iA (unrollU U b n).1.code, iA (unrollU U b n).1.spill, bl3], 0, 1⟩]) ++ L), by rw [hSe, e]; simp⟩
  refine condO_intro ?_ ?_ <;> intro hc
  · have hend' : ∃ m', S = st ++ m' := by have := hendS []; simpa using this
    have hc0 : (unrollU U b n).2 ≠ 0 := of_decide_eq_true hc
    by_cases h11 : (unrollU U b n).2 = 11
    · have hn := again_size h11
      have hd : decide (0 < (n : Int)) = true := decide_eq_true (by omega)
      have hd1 : decide ((11 : Int) ≠ 11) = false := rfl
      simp only [h11, hd, hd1, kB, kZ, kD, fillA, partsEv, zeroes, Nat.reduceSub, Int.reduceToNat, Nat.reduceMul, asInt?, asNat?, Int.reduceAdd, Int.reduceLE, Int.reduceLT, Int.reduceNeg, Nat.reduceLeDiff, VOpd.ev, Nat.reduceEqDiff, Nat.reduceAdd, reduceIte, reduceCtorEq, splice, resOf, tupOf, cellsV, AV.toV, AV.cell?, cellVal]
      refine callO_same (.hook (h.alive _ hgS)) ?_
      simp only [kB, kZ, kD, fillA, partsEv, zeroes, Nat.reduceSub, Int.reduceToNat, Nat.reduceMul, asInt?, asNat?, Int.reduceAdd, Int.reduceLE, Int.reduceLT, Int.reduceNeg, Nat.reduceLeDiff, VOpd.ev, Nat.reduceEqDiff, Nat.reduceAdd, reduceIte, reduceCtorEq, splice, resOf, tupOf, cellsV, AV.toV, AV.cell?, cellVal]
      exact hend'
    · have hd : decide ((unrollU U b n).2 ≠ 11) = true := decide_eq_true h11
      simp only [hd, kB, kZ, kD, fillA, partsEv, zeroes, Nat.reduceSub, Int.reduceToNat, Nat.reduceMul, asInt?, asNat?, Int.reduceAdd, Int.reduceLE, Int.reduceLT, Int.reduceNeg, Nat.reduceLeDiff, VOpd.ev, Nat.reduceEqDiff, Nat.reduceAdd, reduceIte, reduceCtorEq, splice, resOf, tupOf, cellsV, AV.toV, AV.cell?, cellVal]
      refine callO_same (.hook (h.alive _ hgS)) ?_
      simp only [kB, kZ, kD, fillA, partsEv, zeroes, Nat.reduceSub, Int.reduceToNat, Nat.reduceMul, asInt?, asNat?, Int.reduceAdd, Int.reduceLE, Int.reduceLT, Int.reduceNeg, Nat.reduceLeDiff, VOpd.ev, Nat.reduceEqDiff, Nat.reduceAdd, reduceIte, reduceCtorEq, splice, resOf, tupOf, cellsV, AV.toV, AV.cell?, cellVal]
      exact hend'
  have hc0 : (unrollU U b n).2 = 0 := Decidable.not_not.1 (of_decide_eq_false hc)
  obtain ⟨x, hx, rfl, wf, hway, hE1⟩ := unrollU_zero hc0
  obtain ⟨O, hK, hA⟩ := unroll_again hx hway n
  have hV : (unrollU U x n).1 = { U with regs := U.regs + ((n * (leaveN U.blocks[x].e x / 2 * 2) : Nat) : Int), blocks := U.blocks.set x { U.blocks[x] with ops := O } } := by rw [hE1, Int.toNat_natCast, hK]
  clear hE1 hK hc hc0
  generalize (unrollU U x n).1 = V at *
  have hVb : V.blocks = U.blocks.set x { U.blocks[x] with ops := O } := by rw [hV]
  have hVr : V.regs = U.regs + ((n * (leaveN U.blocks[x].e x / 2 * 2) : Nat) : Int) := by rw [hV]
  have hVz : V.sizes = U.sizes := by rw [hV]
  have hVp : V.params = U.params := by rw [hV]
  have hVc : V.code = U.code := by rw [hV]
  have hVs : V.spill = U.spill := by rw [hV]
  clear hV
  have hx' : x < V.blocks.length := by rw [hVb, List.length_set]; exact hx
  have hVx : V.blocks[x] = { U.blocks[x] with ops := O } := by
    have : V.blocks[x]? = some { U.blocks[x] with ops := O } := by rw [hVb, List.getElem?_set_self hx]
    rw [List.getElem?_eq_getElem hx'] at this
    exact Option.some.inj this
  obtain ⟨lo7, hi7, sa, ba, ea, hs7, f7, hb7, hbo7⟩ := hu7
  cases ea
  obtain ⟨b1, o1, he1, hn1, _, _⟩ := hb7.get x (by simpa using hx)
  have n1 := hn1 (m3 ++ [⟨[sz3, iA V.params, iA V.regs, iA V.code, iA V.spill, bl3], 0, 1⟩])
  rw [← hSe] at n1
  simp only [List.getElem_mapIdx, BlkV.row] at n1
  obtain ⟨b3, o3, he3, hn3, _, _⟩ := b9.own.arr.get x (by rw [blkRows_length]; exact hx')
  have n3 := hn3 []
  rw [List.append_nil, blkRows_get _ _ _ hx', hVx] at n3
  simp only [BlkV.row] at n3
  have d95 := at1_box box9 (by decide) 5
  simp only [kB, kZ, kD, fillA, partsEv, zeroes, Nat.reduceSub, Int.reduceToNat, Nat.reduceMul, asInt?, asNat?, Int.reduceAdd, Int.reduceLE, Int.reduceLT, Int.reduceNeg, Nat.reduceLeDiff, VOpd.ev, Nat.reduceEqDiff, Nat.reduceAdd, reduceIte, reduceCtorEq, splice, resOf, tupOf, cellsV, AV.toV, AV.cell?, cellVal] at d95
  have d92 := at1_box box9 (by decide) 2
  simp only [kB, kZ, kD, fillA, partsEv, zeroes, Nat.reduceSub, Int.reduceToNat, Nat.reduceMul, asInt?, asNat?, Int.reduceAdd, Int.reduceLE, Int.reduceLT, Int.reduceNeg, Nat.reduceLeDiff, VOpd.ev, Nat.reduceEqDiff, Nat.reduceAdd, reduceIte, reduceCtorEq, splice, resOf, tupOf, cellsV, AV.toV, AV.cell?, cellVal] at d92
  have c1 := isCell_len (hbo7 x hx).len
  have o9 := (b9.ops x hx').arr
  rw [hVx] at o9
  have c3 := isCell_len o9.len
  have h7lt := atN_lt d76
  have h9lt : P9 < S.length := (List.getElem?_eq_some_iff.1 box9).1
  have h3lt := atN_lt n3
  simp only [d75, he1, n1, d95, he3, n3, c1, c3, kB, kZ, kD, fillA, partsEv, zeroes, Nat.reduceSub, Int.reduceToNat, Nat.reduceMul, asInt?, asNat?, Int.reduceAdd, Int.reduceLE, Int.reduceLT, Int.reduceNeg, Nat.reduceLeDiff, VOpd.ev, Nat.reduceEqDiff, Nat.reduceAdd, reduceIte, reduceCtorEq, splice, resOf, tupOf, cellsV, AV.toV, AV.cell?, cellVal]
  refine ⟨kept_two (b := P9) (o := 5) (b2 := b3) (o2 := o3) (by simp only [kB, kZ, kD, fillA, partsEv, zeroes, Nat.reduceSub, Int.reduceToNat, Nat.reduceMul, asInt?, asNat?, Int.reduceAdd, Int.reduceLE, Int.reduceLT, Int.reduceNeg, Nat.reduceLeDiff, VOpd.ev, Nat.reduceEqDiff, Nat.reduceAdd, reduceIte, reduceCtorEq, splice, resOf, tupOf, cellsV, AV.toV, AV.cell?, cellVal]) (by rw [List.getElem?_append_left h9lt, List.getElem?_append_left h9lt]) (by simp only [kB, kZ, kD, fillA, partsEv, zeroes, Nat.reduceSub, Int.reduceToNat, Nat.reduceMul, asInt?, asNat?, Int.reduceAdd, Int.reduceLE, Int.reduceLT, Int.reduceNeg, Nat.reduceLeDiff, VOpd.ev, Nat.reduceEqDiff, Nat.reduceAdd, reduceIte, reduceCtorEq, splice, resOf, tupOf, cellsV, AV.toV, AV.cell?, cellVal]) (by rw [List.getElem?_append_left h3lt, List.getElem?_append_left h3lt]), ?_⟩
  have hlv := again_way hway
  refine cond_cut [1, 7, 8, 9, 11, 12] (fun e => e 13 = iA ((leaveN U.blocks[x].e x : Nat) : Int)) ?_ ?_
  · refine condO_intro ?_ ?_ <;> intro hc
    · have hk : U.blocks[x].e.k = 2 := of_decide_eq_true hc
      simp only [kB, kZ, kD, fillA, partsEv, zeroes, Nat.reduceSub, Int.reduceToNat, Nat.reduceMul, asInt?, asNat?, Int.reduceAdd, Int.reduceLE, Int.reduceLT, Int.reduceNeg, Nat.reduceLeDiff, VOpd.ev, Nat.reduceEqDiff, Nat.reduceAdd, reduceIte, reduceCtorEq, splice, resOf, tupOf, cellsV, AV.toV, AV.cell?, cellVal]
      refine condO_intro ?_ ?_ <;> intro hc2
      · have hl : ((leaveN U.blocks[x].e x : Nat) : Int) = 3 := by unfold leaveN; rw [if_pos hk, if_pos (of_decide_eq_true hc2)]; rfl
        simp only [hl, kB, kZ, kD, fillA, partsEv, zeroes, Nat.reduceSub, Int.reduceToNat, Nat.reduceMul, asInt?, asNat?, Int.reduceAdd, Int.reduceLE, Int.reduceLT, Int.reduceNeg, Nat.reduceLeDiff, VOpd.ev, Nat.reduceEqDiff, Nat.reduceAdd, reduceIte, reduceCtorEq, splice, resOf, tupOf, cellsV, AV.toV, AV.cell?, cellVal]
      · have hl : ((leaveN U.blocks[x].e x : Nat) : Int) = 1 := by unfold leaveN; rw [if_pos hk, if_neg (of_decide_eq_false hc2)]; rfl
        simp only [hl, kB, kZ, kD, fillA, partsEv, zeroes, Nat.reduceSub, Int.reduceToNat, Nat.reduceMul, asInt?, asNat?, Int.reduceAdd, Int.reduceLE, Int.reduceLT, Int.reduceNeg, Nat.reduceLeDiff, VOpd.ev, Nat.reduceEqDiff, Nat.reduceAdd, reduceIte, reduceCtorEq, splice, resOf, tupOf, cellsV, AV.toV, AV.cell?, cellVal]
    · have hl : ((leaveN U.blocks[x].e x : Nat) : Int) = 0 := by unfold leaveN; rw [if_neg (of_decide_eq_false hc)]; rfl
      simp only [hl, kB, kZ, kD, fillA, partsEv, zeroes, Nat.reduceSub, Int.reduceToNat, Nat.reduceMul, asInt?, asNat?, Int.reduceAdd, Int.reduceLE, Int.reduceLT, Int.reduceNeg, Nat.reduceLeDiff, VOpd.ev, Nat.reduceEqDiff, Nat.reduceAdd, reduceIte, reduceCtorEq, splice, resOf, tupOf, cellsV, AV.toV, AV.cell?, cellVal]
  intro e hL e13
  simp only [kB, kZ, kD, fillA, partsEv, zeroes, Nat.reduceSub, Int.reduceToNat, Nat.reduceMul, asInt?, asNat?, Int.reduceAdd, Int.reduceLE, Int.reduceLT, Int.reduceNeg, Nat.reduceLeDiff, VOpd.ev, Nat.reduceEqDiff, Nat.reduceAdd, reduceIte, reduceCtorEq, splice, resOf, tupOf, cellsV, AV.toV, AV.cell?, cellVal] at hL
  obtain ⟨e1, e7, e8, e9, e11, e12⟩ := hL
  have hlv3 : leaveN U.blocks[x].e x = 3 ∨ leaveN U.blocks[x].e x = 1 ∨ leaveN U.blocks[x].e x = 0 := by omega
  clear hlv
  generalize leaveN U.blocks[x].e x = lv at *
  have hmany := (wf.blk _ (List.getElem_mem hx)).ops
  have hrg := wf.regs
  have h87 : IntKind.wrap .i64 ((lv : Int).tdiv 2) = ((lv / 2 : Nat) : Int) := by rcases hlv3 with rfl | rfl | rfl <;> rfl
  have h88 : IntKind.wrap .i64 (((lv / 2 : Nat) : Int) * 2) = ((lv / 2 * 2 : Nat) : Int) := by rcases hlv3 with rfl | rfl | rfl <;> rfl
  have hc2 : lv / 2 * 2 ≤ 2 := by omega
  generalize lv / 2 * 2 = c2 at *
  have hqw : IntKind.wrap .i64 ((U.blocks[x].ops.length : Int) + (lv : Int)) = ((U.blocks[x].ops.length + lv : Nat) : Int) := by rw [wrap_small (by omega) (by omega)]; omega
  have hq3 : U.blocks[x].ops.length + lv ≤ 403 := by omega
  have hAl := hA.len
  have hAc := hA.cell
  clear hA
  have hqge : U.blocks[x].ops.length ≤ U.blocks[x].ops.length + lv := by omega
  generalize U.blocks[x].ops.length + lv = q at hqw hq3 hAl hAc hqge
  have hnq : n * q ≤ 16 * 403 := Nat.mul_le_mul hn16 hq3
  have hnc : n * c2 ≤ 16 * 2 := Nat.mul_le_mul hn16 hc2
  have h71 : IntKind.wrap .i64 ((n : Int) * (q : Int)) = ((n * q : Nat) : Int) := by rw [← Int.natCast_mul, wrap_small (by omega) (by omega)]
  have h72 : IntKind.wrap .i64 ((U.blocks[x].ops.length : Int) + ((n * q : Nat) : Int)) = (O.length : Int) := by rw [wrap_small (by omega) (by omega), hAl]; omega
  have h73 : decide ((O.length : Int) ≠ (O.length : Int)) = false := decide_eq_false fun h => h rfl
  have h90 : IntKind.wrap .i64 ((c2 : Int) * (n : Int)) = ((n * c2 : Nat) : Int) := by rw [← Int.natCast_mul, Nat.mul_comm c2 n, wrap_small (by omega) (by omega)]
  have h91 : IntKind.wrap .i64 (U.regs + ((n * c2 : Nat) : Int)) = U.regs + ((n * c2 : Nat) : Int) := wrap_small (by omega) (by omega)
  have h92 : decide (U.regs + ((n * c2 : Nat) : Int) ≠ U.regs + ((n * c2 : Nat) : Int)) = false := decide_eq_false fun h => h rfl
  have hee : (!endEq U.blocks[x].e.k U.blocks[x].e.a U.blocks[x].e.t U.blocks[x].e.e U.blocks[x].e.k U.blocks[x].e.a U.blocks[x].e.t U.blocks[x].e.e) = false := by
    rw [(endEq_iff _ _ _ _ _ _ _ _).2 ⟨rfl, rfl, rfl, rfl⟩]; rfl
  have l7 := (hbo7 x hx).len
  have l9 := o9.len
  simp only [List.length_map] at l7 l9
  have d72' := at1_app d72 [⟨[f7 x, iA U.blocks[x].e.k, iA U.blocks[x].e.a, iA U.blocks[x].e.t, iA U.blocks[x].e.e, iA U.blocks[x].catch_], 0, 1⟩, ⟨[f3 x, iA U.blocks[x].e.k, iA U.blocks[x].e.a, iA U.blocks[x].e.t, iA U.blocks[x].e.e, iA U.blocks[x].catch_], 0, 1⟩]
  have d92' := at1_app d92 [⟨[f7 x, iA U.blocks[x].e.k, iA U.blocks[x].e.a, iA U.blocks[x].e.t, iA U.blocks[x].e.e, iA U.blocks[x].catch_], 0, 1⟩, ⟨[f3 x, iA U.blocks[x].e.k, iA U.blocks[x].e.a, iA U.blocks[x].e.t, iA U.blocks[x].e.e, iA U.blocks[x].catch_], 0, 1⟩]
  rw [hVr] at d92'
  simp only [e1, e7, e8, e9, e11, e12, e13, l7, l9, hqw, h71, h72, h73, h.P, c_neq_end, hee, c_quo2, h87, h88, h90, h91, h92, d72', d92', kB, kZ, kD, fillA, partsEv, zeroes, Nat.reduceSub, Int.reduceToNat, Nat.reduceMul, asInt?, asNat?, Int.reduceAdd, Int.reduceLE, Int.reduceLT, Int.reduceNeg, Nat.reduceLeDiff, VOpd.ev, Nat.reduceEqDiff, Nat.reduceAdd, reduceIte, reduceCtorEq, splice, resOf, tupOf, cellsV, AV.toV, AV.cell?, cellVal]
  have o7 : OpsAt S lo7 hi7 (f7 x) U.blocks[x].ops := by
    rw [hSe]
    exact ArrAt.mono (hbo7 x hx) _
  refine loop_live [1, 7, 8, 9, 11, 12, 13, 14] (fun m e => ∃ i : Nat, i + m = n + 1 ∧ e 15 = iA i) (n + 1) ?_ ?_
  · exact ⟨0, by omega, by simp only [kB, kZ, kD, fillA, partsEv, zeroes, Nat.reduceSub, Int.reduceToNat, Nat.reduceMul, asInt?, asNat?, Int.reduceAdd, Int.reduceLE, Int.reduceLT, Int.reduceNeg, Nat.reduceLeDiff, VOpd.ev, Nat.reduceEqDiff, Nat.reduceAdd, reduceIte, reduceCtorEq, splice, resOf, tupOf, cellsV, AV.toV, AV.cell?, cellVal]⟩
  intro m e' hL ⟨i, him, k15⟩
  simp only [e1, e7, e8, e9, e11, e12, e13, kB, kZ, kD, fillA, partsEv, zeroes, Nat.reduceSub, Int.reduceToNat, Nat.reduceMul, asInt?, asNat?, Int.reduceAdd, Int.reduceLE, Int.reduceLT, Int.reduceNeg, Nat.reduceLeDiff, VOpd.ev, Nat.reduceEqDiff, Nat.reduceAdd, reduceIte, reduceCtorEq, splice, resOf, tupOf, cellsV, AV.toV, AV.cell?, cellVal] at hL
  obtain ⟨k1, k7, k8, k9, k11, k12, k13, k14⟩ := hL
  simp only [k8, k15, kB, kZ, kD, fillA, partsEv, zeroes, Nat.reduceSub, Int.reduceToNat, Nat.reduceMul, asInt?, asNat?, Int.reduceAdd, Int.reduceLE, Int.reduceLT, Int.reduceNeg, Nat.reduceLeDiff, VOpd.ev, Nat.reduceEqDiff, Nat.reduceAdd, reduceIte, reduceCtorEq, splice, resOf, tupOf, cellsV, AV.toV, AV.cell?, cellVal]
  refine condO_intro ?_ ?_ <;> intro hc <;> simp only [kB, kZ, kD, fillA, partsEv, zeroes, Nat.reduceSub, Int.reduceToNat, Nat.reduceMul, asInt?, asNat?, Int.reduceAdd, Int.reduceLE, Int.reduceLT, Int.reduceNeg, Nat.reduceLeDiff, VOpd.ev, Nat.reduceEqDiff, Nat.reduceAdd, reduceIte, reduceCtorEq, splice, resOf, tupOf, cellsV, AV.toV, AV.cell?, cellVal]
  · have hin : i ≤ n := by have := of_decide_eq_true hc; omega
    refine loop_live [1, 7, 8, 9, 11, 12, 13, 14, 15] (fun m e => ∃ k : Nat, k + m = U.blocks[x].ops.length ∧ e 16 = iA k) U.blocks[x].ops.length ?_ ?_
    · exact ⟨0, by omega, by simp only [kB, kZ, kD, fillA, partsEv, zeroes, Nat.reduceSub, Int.reduceToNat, Nat.reduceMul, asInt?, asNat?, Int.reduceAdd, Int.reduceLE, Int.reduceLT, Int.reduceNeg, Nat.reduceLeDiff, VOpd.ev, Nat.reduceEqDiff, Nat.reduceAdd, reduceIte, reduceCtorEq, splice, resOf, tupOf, cellsV, AV.toV, AV.cell?, cellVal]⟩
    intro m2 e2 hL2 ⟨k, hkm, g16⟩
    simp only [k1, k7, k8, k9, k11, k12, k13, k14, k15, kB, kZ, kD, fillA, partsEv, zeroes, Nat.reduceSub, Int.reduceToNat, Nat.reduceMul, asInt?, asNat?, Int.reduceAdd, Int.reduceLE, Int.reduceLT, Int.reduceNeg, Nat.reduceLeDiff, VOpd.ev, Nat.reduceEqDiff, Nat.reduceAdd, reduceIte, reduceCtorEq, splice, resOf, tupOf, cellsV, AV.toV, AV.cell?, cellVal] at hL2
    obtain ⟨g1, g7, g8, g9, g11, g12, g13, g14, g15⟩ := hL2
    simp only [g14, g16, kB, kZ, kD, fillA, partsEv, zeroes, Nat.reduceSub, Int.reduceToNat, Nat.reduceMul, asInt?, asNat?, Int.reduceAdd, Int.reduceLE, Int.reduceLT, Int.reduceNeg, Nat.reduceLeDiff, VOpd.ev, Nat.reduceEqDiff, Nat.reduceAdd, reduceIte, reduceCtorEq, splice, resOf, tupOf, cellsV, AV.toV, AV.cell?, cellVal]
    refine condO_intro ?_ ?_ <;> intro hc2 <;> simp only [kB, kZ, kD, fillA, partsEv, zeroes, Nat.reduceSub, Int.reduceToNat, Nat.reduceMul, asInt?, asNat?, Int.reduceAdd, Int.reduceLE, Int.reduceLT, Int.reduceNeg, Nat.reduceLeDiff, VOpd.ev, Nat.reduceEqDiff, Nat.reduceAdd, reduceIte, reduceCtorEq, splice, resOf, tupOf, cellsV, AV.toV, AV.cell?, cellVal]
    · have hk : k < U.blocks[x].ops.length := by have := of_decide_eq_true hc2; omega
      have hcell := hAc i k hk hin
      have hlt := (List.getElem?_eq_some_iff.1 hcell).1
      rw [List.getElem?_eq_getElem hlt] at hcell
      have hcell := Option.some.inj hcell
      have hiq : i * q ≤ 16 * 403 := Nat.mul_le_mul (by omega) hq3
      have q1 : IntKind.wrap .i64 ((i : Int) * (q : Int)) = ((i * q : Nat) : Int) := by rw [← Int.natCast_mul, wrap_small (by omega) (by omega)]
      have q2 : IntKind.wrap .i64 (((i * q : Nat) : Int) + (k : Int)) = ((i * q + k : Nat) : Int) := by rw [wrap_small (by omega) (by omega)]; omega
      obtain ⟨bA1, oA1, heA, hnA, _, _⟩ := o9.get (i * q + k) (by simpa using hlt)
      obtain ⟨bB1, oB1, heB, hnB, _, _⟩ := o7.get k (by simpa using hk)
      simp only [List.getElem_map, hcell, OpV.row] at hnA hnB
      have hoo : ∀ o : OpV, (!opEq o.k o.d o.a o.b o.c o.n o.g o.k o.d o.a o.b o.c o.n o.g) = false := fun o => by
        rw [(opEq_iff _ _ _ _ _ _ _ _ _ _ _ _ _ _).2 ⟨rfl, rfl, rfl, rfl, rfl, rfl, rfl⟩]; rfl
      simp only [g1, g7, g8, g9, g11, g12, g13, g14, g15, g16, hqw, q1, q2, heA, heB, hnA, hnB, h.P, c_neq_op, hoo, kB, kZ, kD, fillA, partsEv, zeroes, Nat.reduceSub, Int.reduceToNat, Nat.reduceMul, asInt?, asNat?, Int.reduceAdd, Int.reduceLE, Int.reduceLT, Int.reduceNeg, Nat.reduceLeDiff, VOpd.ev, Nat.reduceEqDiff, Nat.reduceAdd, reduceIte, reduceCtorEq, splice, resOf, tupOf, cellsV, AV.toV, AV.cell?, cellVal]
      rw [wrap_small (by omega) (by omega)]
      exact ⟨m2 - 1, by omega, by simp [k1, k7, k8, k9, k11, k12, k13, k14, k15], k + 1, by omega, by simp⟩
    · simp only [g15, k1, k7, k8, k9, k11, k12, k13, k14, g1, g7, g8, g9, g11, g12, g13, g14, kB, kZ, kD, fillA, partsEv, zeroes, Nat.reduceSub, Int.reduceToNat, Nat.reduceMul, asInt?, asNat?, Int.reduceAdd, Int.reduceLE, Int.reduceLT, Int.reduceNeg, Nat.reduceLeDiff, VOpd.ev, Nat.reduceEqDiff, Nat.reduceAdd, reduceIte, reduceCtorEq, splice, resOf, tupOf, cellsV, AV.toV, AV.cell?, cellVal]
      rw [wrap_small (by omega) (by omega)]
      exact ⟨m - 1, by omega, by simp [e1, e7, e8, e9, e11, e12, e13], i + 1, by omega, by simp⟩
  · have hgS0 : GB S0 := by
      obtain ⟨m', e⟩ := hend
      rw [e]; exact hg.app _
    have z9T := z9.agree (Agree.app (fun _ => False) S [⟨[f7 x, iA U.blocks[x].e.k, iA U.blocks[x].e.a, iA U.blocks[x].e.t, iA U.blocks[x].e.e, iA U.blocks[x].catch_], 0, 1⟩, ⟨[f3 x, iA U.blocks[x].e.k, iA U.blocks[x].e.a, iA U.blocks[x].e.t, iA U.blocks[x].e.e, iA U.blocks[x].catch_], 0, 1⟩]) (fun _ _ _ h => h)
    have b9T := b9.agree (Agree.app (fun _ => False) S [⟨[f7 x, iA U.blocks[x].e.k, iA U.blocks[x].e.a, iA U.blocks[x].e.t, iA U.blocks[x].e.e, iA U.blocks[x].catch_], 0, 1⟩, ⟨[f3 x, iA U.blocks[x].e.k, iA U.blocks[x].e.a, iA U.blocks[x].e.t, iA U.blocks[x].e.e, iA U.blocks[x].catch_], 0, 1⟩]) (fun _ _ _ h => h)
    have box9T : (S ++ [⟨[f7 x, iA U.blocks[x].e.k, iA U.blocks[x].e.a, iA U.blocks[x].e.t, iA U.blocks[x].e.e, iA U.blocks[x].catch_], 0, 1⟩, ⟨[f3 x, iA U.blocks[x].e.k, iA U.blocks[x].e.a, iA U.blocks[x].e.t, iA U.blocks[x].e.e, iA U.blocks[x].catch_], 0, 1⟩] : St)[P9]? = some ⟨[sz3, iA V.params, iA V.regs, iA V.code, iA V.spill, bl3], 0, 1⟩ := by rw [List.getElem?_append_left h9lt]; exact box9
    have hT : (S ++ [⟨[f7 x, iA U.blocks[x].e.k, iA U.blocks[x].e.a, iA U.blocks[x].e.t, iA U.blocks[x].e.e, iA U.blocks[x].catch_], 0, 1⟩, ⟨[f3 x, iA U.blocks[x].e.k, iA U.blocks[x].e.a, iA U.blocks[x].e.t, iA U.blocks[x].e.e, iA U.blocks[x].catch_], 0, 1⟩] : St) = S0 ++ ((m3 ++ [⟨[sz3, iA V.params, iA V.regs, iA V.code, iA V.spill, bl3], 0, 1⟩]) ++ [⟨[f7 x, iA U.blocks[x].e.k, iA U.blocks[x].e.a, iA U.blocks[x].e.t, iA U.blocks[x].e.e, iA U.blocks[x].catch_], 0, 1⟩, ⟨[f3 x, iA U.blocks[x].e.k, iA U.blocks[x].e.a, iA U.blocks[x].e.t, iA U.blocks[x].e.e, iA U.blocks[x].catch_], 0, 1⟩]) := by rw [hSe]; simp
    have d95T := at1_app d95 [⟨[f7 x, iA U.blocks[x].e.k, iA U.blocks[x].e.a, iA U.blocks[x].e.t, iA U.blocks[x].e.e, iA U.blocks[x].catch_], 0, 1⟩, ⟨[f3 x, iA U.blocks[x].e.k, iA U.blocks[x].e.a, iA U.blocks[x].e.t, iA U.blocks[x].e.e, iA U.blocks[x].catch_], 0, 1⟩]
    obtain ⟨bb, T2, T3, hbb, hbbS, hel, hput, hkeep, hput3, ⟨mm, hext⟩, d9f, uv⟩ := again_store (lo := lo7) (hi := hi7) (bl1 := bl1) (f1 := f7) hx hT hbo7 z9T b9T (Nat.le_refl _) box9T hsep hge9 hVb hVz hVp hVc hVs
    simp only [BlkV.row, Nat.add_zero] at hput
    have d76' : T3.atN P7 0 6 = some [sz1, iA U.params, iA U.regs, iA U.code, iA U.spill, bl1] := by rw [hext]; exact atN_app d76 mm
    have uo : UnitAt T3 lo7 hi7 (.agg [sz1, iA U.params, iA U.regs, iA U.code, iA U.spill, bl1]) U := by
      rw [hext]
      exact UnitAt.mono ⟨_, _, rfl, hs7, f7, hb7, hbo7⟩ mm
    have hUU : decide (U = U) = true := decide_eq_true rfl
    simp only [k1, k7, k9, k11, hel, d95T, d72', hput, kB, kZ, kD, fillA, partsEv, zeroes, Nat.reduceSub, Int.reduceToNat, Nat.reduceMul, asInt?, asNat?, Int.reduceAdd, Int.reduceLE, Int.reduceLT, Int.reduceNeg, Nat.reduceLeDiff, VOpd.ev, Nat.reduceEqDiff, Nat.reduceAdd, reduceIte, reduceCtorEq, splice, resOf, tupOf, cellsV, AV.toV, AV.cell?, cellVal]
    refine ⟨kept_one (b := P7) (o := 2) (by simp only [kB, kZ, kD, fillA, partsEv, zeroes, Nat.reduceSub, Int.reduceToNat, Nat.reduceMul, asInt?, asNat?, Int.reduceAdd, Int.reduceLE, Int.reduceLT, Int.reduceNeg, Nat.reduceLeDiff, VOpd.ev, Nat.reduceEqDiff, Nat.reduceAdd, reduceIte, reduceCtorEq, splice, resOf, tupOf, cellsV, AV.toV, AV.cell?, cellVal]) (hkeep P7 hP7), ?_⟩
    simp only [k7, k9, hput3, d9f, d76', kB, kZ, kD, fillA, partsEv, zeroes, Nat.reduceSub, Int.reduceToNat, Nat.reduceMul, asInt?, asNat?, Int.reduceAdd, Int.reduceLE, Int.reduceLT, Int.reduceNeg, Nat.reduceLeDiff, VOpd.ev, Nat.reduceEqDiff, Nat.reduceAdd, reduceIte, reduceCtorEq, splice, resOf, tupOf, cellsV, AV.toV, AV.cell?, cellVal]
    refine callO_same (j_r07_Same h.toOn uv uo hfit) ?_
    simp only [hUU, kB, kZ, kD, fillA, partsEv, zeroes, Nat.reduceSub, Int.reduceToNat, Nat.reduceMul, asInt?, asNat?, Int.reduceAdd, Int.reduceLE, Int.reduceLT, Int.reduceNeg, Nat.reduceLeDiff, VOpd.ev, Nat.reduceEqDiff, Nat.reduceAdd, reduceIte, reduceCtorEq, splice, resOf, tupOf, cellsV, AV.toV, AV.cell?, cellVal]
    refine callO_same (.hook (h.alive _ (by rw [hext]; exact hgS0.app _))) ?_
    simp only [kB, kZ, kD, fillA, partsEv, zeroes, Nat.reduceSub, Int.reduceToNat, Nat.reduceMul, asInt?, asNat?, Int.reduceAdd, Int.reduceLE, Int.reduceLT, Int.reduceNeg, Nat.reduceLeDiff, VOpd.ev, Nat.reduceEqDiff, Nat.reduceAdd, reduceIte, reduceCtorEq, splice, resOf, tupOf, cellsV, AV.toV, AV.cell?, cellVal]
    obtain ⟨m', e⟩ := hend
    exact ⟨m' ++ mm, by rw [hext, e, List.append_assoc]⟩
end
end Go.VX.Seat
end
