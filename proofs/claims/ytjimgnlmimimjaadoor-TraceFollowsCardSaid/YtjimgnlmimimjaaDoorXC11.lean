/- A part of the proofs of the statements of layer 17: S45, S46, S51, S52, S53. No condition is added here. -/
import Derived.Test.YtjimgnlmimimjaaDoorXC10
section
set_option linter.unusedVariables false
set_option linter.unusedSimpArgs false
set_option maxRecDepth 4000
/-! What an unrolled block is like; the errors of Check. -/
namespace Go.VX.Seat
open Go.Proofs
theorem opErr_le (ns nb : Nat) (regs spill k d a b c n g : Int) : opErr ns nb regs spill k d a b c n g ≤ 5 := by
  unfold opErr
  repeat' split
  all_goals decide
theorem endErr_le (nb : Nat) (regs k a t e : Int) : endErr nb regs k a t e ≤ 5 := by
  unfold endErr
  repeat' split
  all_goals decide
theorem opsFind_le {U : UnitV} {i : Nat} : ∀ {l : List OpV} {k : Nat} {x : Int × Int × Int}, opsFind U i k l = some x → x.1 ≤ 5
  | [], _, _, h => by cases h
  | o :: r, k, x, h => by
    unfold opsFind at h
    split at h
    · cases h; exact opErr_le _ _ _ _ _ _ _ _ _ _ _
    · exact opsFind_le h
theorem blkFind_le {U : UnitV} : ∀ {l : List BlkV} {i : Nat} {x : Int × Int × Int}, blkFind U i l = some x → x.1 ≤ 5
  | [], _, _, h => by cases h
  | b :: r, i, x, h => by
    unfold blkFind at h
    split at h
    · cases h; exact (by decide : (2 : Int) ≤ 5)
    · split at h
      · cases h; exact (by decide : (3 : Int) ≤ 5)
      · split at h
        · rename_i y hy
          cases h
          exact opsFind_le hy
        · split at h
          · cases h; exact endErr_le _ _ _ _ _ _
          · exact blkFind_le h
theorem chkU_le (U : UnitV) : chkU U ≤ 5 := by
  unfold chkU findU
  split
  · decide
  · split
    · decide
    · split
      · decide
      · split
        · rename_i x hx
          exact blkFind_le hx
        · split <;> decide
theorem thereU_le (U : UnitV) (r : Bool) (b : Int) : thereU U r b ≤ 5 := by
  unfold thereU
  split
  · exact chkU_le U
  · split <;> decide
/-- How many operations leave a loop. -/
def leaveN (e : EndV) (x : Int) : Nat := if e.k = 2 then (if e.t = x then 3 else 1) else 0
theorem again_way {e : EndV} {x : Int} (h : 0 ≤ selfN e x) : (selfN e x = 1 ∧ leaveN e x = 3) ∨ (selfN e x = 2 ∧ leaveN e x = 1) ∨ (selfN e x = 0 ∧ leaveN e x = 0) := by
  unfold selfN selfG isWay toOf wayTo wayElse leaveN at *
  by_cases h1 : e.k = 1
  · by_cases h2 : e.t = x <;> simp [h1, h2] at h ⊢
  · by_cases h2 : e.k = 2
    · by_cases h3 : e.t = x
      · simp [h2, h3]
      · by_cases h4 : e.e = x <;> simp [h2, h3, h4] at h ⊢
    · simp [h1, h2] at h
structure AgV (B : BlkV) (lv n : Nat) (O : List OpV) : Prop where
  len : O.length = B.ops.length + n * (B.ops.length + lv)
  cell : ∀ i j (hj : j < B.ops.length), i ≤ n → O[i * (B.ops.length + lv) + j]? = some B.ops[j]
theorem unroll_again {U : UnitV} {x : Nat} (hx : x < U.blocks.length) (hway : 0 ≤ selfN U.blocks[x].e x) : ∀ n : Nat, ∃ O : List OpV,
    unrollK U x (selfN U.blocks[x].e x) U.blocks[x] n = { U with regs := U.regs + ((n * (leaveN U.blocks[x].e x / 2 * 2) : Nat) : Int), blocks := U.blocks.set x { U.blocks[x] with ops := O } } ∧ AgV U.blocks[x] (leaveN U.blocks[x].e x) n O
  | 0 => by
    refine ⟨U.blocks[x].ops, ?_, by simp, fun i j hj hi => ?_⟩
    · unfold unrollK
      have : U.blocks.set x { U.blocks[x] with ops := U.blocks[x].ops } = U.blocks := List.set_getElem_self hx
      rw [this]
      simp
    · have : i = 0 := by omega
      subst this
      rw [Nat.zero_mul, Nat.zero_add, List.getElem?_eq_getElem hj]
  | n + 1 => by
    obtain ⟨O, hK, hA⟩ := unroll_again hx hway n
    have hw := again_way hway
    have hq : (n + 1) * (U.blocks[x].ops.length + leaveN U.blocks[x].e x) = n * (U.blocks[x].ops.length + leaveN U.blocks[x].e x) + (U.blocks[x].ops.length + leaveN U.blocks[x].e x) := Nat.succ_mul _ _
    have hr : (n + 1) * (leaveN U.blocks[x].e x / 2 * 2) = n * (leaveN U.blocks[x].e x / 2 * 2) + leaveN U.blocks[x].e x / 2 * 2 := Nat.succ_mul _ _
    generalize hB : U.blocks[x] = B at *
    generalize selfN B.e x = way at *
    generalize leaveN B.e x = lv at *
    generalize hV : ({ U with regs := U.regs + ((n * (lv / 2 * 2) : Nat) : Int), blocks := U.blocks.set x { B with ops := O } } : UnitV) = V at *
    have hVb : V.blocks = U.blocks.set x { B with ops := O } := by rw [← hV]
    have hVr : V.regs = U.regs + ((n * (lv / 2 * 2) : Nat) : Int) := by rw [← hV]
    have hVx : V.blocks[x]? = some { B with ops := O } := by rw [hVb, List.getElem?_set_self hx]
    have hext : (extOps V { B with ops := O } way).length = lv := by
      rcases hw with ⟨rfl, rfl⟩ | ⟨rfl, rfl⟩ | ⟨rfl, rfl⟩ <;> rfl
    have hregs : extRegs V way = U.regs + (((n + 1) * (lv / 2 * 2) : Nat) : Int) := by
      rw [hr]
      rcases hw with ⟨rfl, rfl⟩ | ⟨rfl, rfl⟩ | ⟨rfl, rfl⟩
      · show V.regs + 2 = _
        rw [hVr]; omega
      · show V.regs = _
        rw [hVr]; omega
      · show V.regs = _
        rw [hVr]; omega
    refine ⟨O ++ extOps V { B with ops := O } way ++ B.ops, ?_, ?_, fun i j hj hi => ?_⟩
    · unfold unrollK
      rw [hK]
      unfold extAt
      rw [hVx]
      simp only [extBy]
      rw [hregs, hVb, List.set_set, ← hV]
    · rw [List.length_append, List.length_append, hext, hA.len, hq]
      omega
    · by_cases hin : i ≤ n
      · have h1 := hA.cell i j hj hin
        have h2 := (List.getElem?_eq_some_iff.1 h1).1
        rw [List.append_assoc, List.getElem?_append_left h2]
        exact h1
      · have hi' : i = n + 1 := by omega
        subst hi'
        rw [hq, List.getElem?_append_right (by rw [List.length_append, hext, hA.len]; omega), List.length_append, hext, hA.len]
        rw [show n * (B.ops.length + lv) + (B.ops.length + lv) + j - (B.ops.length + n * (B.ops.length + lv) + lv) = j by omega]
        exact List.getElem?_eq_getElem hj
theorem again_size {U : UnitV} {b : Int} {n : Nat} (h : (unrollU U b n).2 = 11) : 0 < n := by
  rcases Nat.eq_zero_or_pos n with rfl | h0
  · exfalso
    unfold unrollU at h
    split at h
    · have := thereU_le U true b
      simp only at h
      omega
    · rename_i hc
      have hth : thereU U true b = 0 := by simpa using hc
      obtain ⟨hchk, _, x, hx, rfl⟩ := there_zero hth
      unfold unrollR at h
      rw [Int.toNat_natCast, List.getElem?_eq_getElem hx] at h
      simp only at h
      split at h
      · simp at h
      · split at h
        · simp at h
        · split at h
          · rename_i hk
            have : chkU (unrollK U x (selfN U.blocks[x].e x) U.blocks[x] 0) = 0 := hchk
            have hk := of_decide_eq_true hk
            exact hk this
          · simp at h
  · exact h0
section
variable (P : Program) (t : TypeId) (a : Int) (ox oy : Operand)
theorem c_rem17 : closed P (do eqGuard .rem t ox oy (.int .i64 a) (.int .i64 17); binOp .rem t (.int .i64 a) (.int .i64 17)) = some (.int .i64 (a.tmod 17)) := rfl
theorem c_quo2 : closed P (do eqGuard .quo t ox oy (.int .i64 a) (.int .i64 2); binOp .quo t (.int .i64 a) (.int .i64 2)) = some (.int .i64 (IntKind.wrap .i64 (a.tdiv 2))) := rfl
theorem c_conv8 (n : Int) : closed Go.Proofs.Tryd.prog (convert 5 3 (.int .u8 n)) = some (.int .i64 (IntKind.wrap .i64 n)) := by kernel_rfl
end
end Go.VX.Seat
end
section
set_option linter.unusedVariables false
set_option linter.unusedSimpArgs false
set_option maxRecDepth 4000
/-! A block is put back. -/
namespace Go.VX.Seat
open Go.Proofs
theorem _root_.Go.VX.ArrAt.inside {s : St} {lo hi esz : Nat} {v : AV} {rows : List (List AV)} (h : ArrAt s lo hi v esz rows) : ArrAt s 0 s.length v esz rows where
  len := h.len
  size := h.size
  row := fun i hi => let ⟨b, o, h1, _, _, h4⟩ := h.row i hi; ⟨b, o, h1, Nat.zero_le _, atN_lt h4, h4⟩
theorem kept_two {env : Env} {s s' : St} {x y : VOpd} {b o b2 o2 : Nat} (hx : x.ev env = .ptr b o) (h : s'[b]? = s[b]?) (hy : y.ev env = .ptr b2 o2) (h2 : s'[b2]? = s[b2]?) : keptA env s s' [x, y] = true := by
  have h1 := kept_one (env := env) (s := s) (s' := s') (x := x) hx h
  have h3 := kept_one (env := env) (s := s) (s' := s') (x := y) hy h2
  unfold keptA at *
  simp only [List.all_cons, List.all_nil, Bool.and_true] at *
  rw [h1, h3]; rfl
theorem again_store {S0 T N : St} {lo hi lo9 P9 ver x : Nat} {bl1 sz3 bl3 : AV} {f1 f3 : Nat → AV} {U V : UnitV} {O : List OpV} (hx : x < U.blocks.length) (hT : T = S0 ++ N)
    (hbo1 : ∀ i (hi' : i < U.blocks.length), OpsAt S0 lo hi (f1 i) U.blocks[i].ops)
    (z9 : OwnZ T lo9 sz3 bl3 f3 V.sizes V.blocks) (b9 : OwnB T lo9 bl3 f3 V.blocks) (hlo9 : S0.length ≤ lo9) (box9 : T[P9]? = some ⟨[sz3, iA V.params, iA V.regs, iA V.code, iA V.spill, bl3], 0, ver⟩) (hsep : ¬ UBox sz3 bl3 f3 V.blocks.length P9) (hP9 : S0.length ≤ P9)
    (hVb : V.blocks = U.blocks.set x { U.blocks[x] with ops := O }) (hVz : V.sizes = U.sizes) (hVp : V.params = U.params) (hVc : V.code = U.code) (hVs : V.spill = U.spill) :
    ∃ bb T2 T3, boxOf bl3 = some bb ∧ S0.length ≤ bb ∧ elemA bl3 6 (x : Int) = some (.ptr bb (x * 6)) ∧ T.put bb (x * 6 + 0) (U.blocks[x].row (f1 x)) = some T2 ∧ (∀ n, n < S0.length → T2[n]? = T[n]?) ∧ T2.put P9 2 [iA U.regs] = some T3 ∧ (∃ m, T3 = S0 ++ m) ∧
      T3.atN P9 0 6 = some [sz3, iA U.params, iA U.regs, iA U.code, iA U.spill, bl3] ∧ UnitAt T3 0 T3.length (.agg [sz3, iA U.params, iA U.regs, iA U.code, iA U.spill, bl3]) U := by
  have hVl : V.blocks.length = U.blocks.length := by rw [hVb, List.length_set]
  have hx' : x < V.blocks.length := by omega
  have hc1 := isCell_len (hbo1 x hx).len
  obtain ⟨bb, T2, hbb, hel, hput, hag, hown2, hex2⟩ := own_setrow b9.own b9.box x (by rw [blkRows_length]; exact hx') 0 (U.blocks[x].row (f1 x)) (by simp [BlkV.row]) (by simp only [BlkV.row, hc1, kB, kZ, kD, fillA, partsEv, zeroes, Nat.reduceSub, Int.reduceToNat, Nat.reduceMul, asInt?, asNat?, Int.reduceAdd, Int.reduceLE, Int.reduceLT, Int.reduceNeg, Nat.reduceLeDiff, VOpd.ev, Nat.reduceEqDiff, Nat.reduceAdd, reduceIte, reduceCtorEq, splice, resOf, tupOf, cellsV, AV.toV, AV.cell?, cellVal])
  have hbblo := (b9.own.bnd bb hbb).1
  have hrow : (blkRows V.blocks f3).set x (splice ((blkRows V.blocks f3)[x]'(by rw [blkRows_length]; exact hx')) 0 (U.blocks[x].row (f1 x))) = blkRows U.blocks (fun j => if j = x then f1 x else f3 j) := by
    rw [blkRows_get _ _ _ hx', show splice (V.blocks[x].row (f3 x)) 0 (U.blocks[x].row (f1 x)) = U.blocks[x].row (f1 x) from rfl, blkRows_set, hVb, List.set_set]
    have : U.blocks.set x U.blocks[x] = U.blocks := List.set_getElem_self hx
    rw [this]
  rw [hrow] at hown2
  have hne9 : P9 ≠ bb := fun e => hsep (.inr (.inl (by rw [e]; exact hbb)))
  have box92 : T2[P9]? = some ⟨[sz3, iA V.params, iA V.regs, iA V.code, iA V.spill, bl3], 0, ver⟩ := hag.box box9 hne9
  have hput3 := put_box (o := 2) (vs := [iA U.regs]) box92 (by simp) rfl
  have hag3 := Agree.set T2 P9 ⟨splice [sz3, iA V.params, iA V.regs, iA V.code, iA V.spill, bl3] 2 [iA U.regs], 0, ver + 1⟩
  have hagA := hag.trans hag3
  have hlt9 : P9 < T2.length := (List.getElem?_eq_some_iff.1 box92).1
  refine ⟨bb, T2, _, hbb, by omega, hel, hput, fun n hn => hag.eq n (by rw [hT]; simp; omega) (by omega), hput3, hagA.ext ⟨N, hT⟩ (fun b hb hx => by rcases hx with h | h <;> omega), ?_, ?_⟩
  · have hb3 : (T2.set P9 ⟨splice [sz3, iA V.params, iA V.regs, iA V.code, iA V.spill, bl3] 2 [iA U.regs], 0, ver + 1⟩)[P9]? = some ⟨[sz3, iA V.params, iA U.regs, iA V.code, iA V.spill, bl3], 0, ver + 1⟩ := by
      rw [List.getElem?_set_self hlt9]; rfl
    have := atN_box hb3 (by decide) 0 6 (by simp)
    rw [← hVp, ← hVc, ← hVs]
    exact this
  · have hz := (z9.own.agree hagA (fun b hb h => by
      rcases h with h | h
      · subst h; exact (z9.sep b hb).1 hbb
      · subst h; exact hsep (.inl hb))).arr
    rw [hVz] at hz
    have hbA := (hown2.agree hag3 (fun b hb h => by subst h; exact hsep (.inr (.inl hb)))).arr
    refine ⟨sz3, bl3, rfl, hz.inside, fun j => if j = x then f1 x else f3 j, hbA.inside, fun j hj => ?_⟩
    by_cases hjx : j = x
    · subst hjx
      show OpsAt _ _ _ (if j = j then f1 j else f3 j) _
      rw [if_pos rfl]
      have h0 := ArrAt.mono (hbo1 j hx) N
      have hlt := fun b (hb : boxOf (f1 j) = some b) => ArrAt.boxlt (hbo1 j hx) hb
      rw [← hT] at h0
      have h1 := h0.agree hagA (fun b hb h => by
        have := hlt b hb
        rcases h with h | h <;> omega)
      exact h1.inside
    · show OpsAt _ _ _ (if j = x then f1 x else f3 j) _
      rw [if_neg hjx]
      have hj' : j < V.blocks.length := by omega
      have h1 := ((b9.ops j hj').agree hagA (fun b hb h => by
        rcases h with h | h
        · subst h; exact b9.sep1 j hj' b hbb hb
        · subst h; exact hsep (.inr (.inr ⟨j, hj', hb⟩)))).arr
      have he : V.blocks[j] = U.blocks[j] := by
        have : V.blocks[j]? = U.blocks[j]? := by rw [hVb, List.getElem?_set_ne (fun e => hjx e.symm)]
        rw [List.getElem?_eq_getElem hj', List.getElem?_eq_getElem hj] at this
        exact Option.some.inj this
      rw [he] at h1
      exact h1.inside
end Go.VX.Seat
end
section
set_option linter.unusedVariables false
set_option linter.unusedSimpArgs false
set_option maxRecDepth 4000
/-! biremeref17.follow. -/
namespace Go.VX.Seat
open Go.Proofs
/-- A unit that stays, whatever is written into the first boxes of a call. -/
def Cl (a : Nat) (st S : St) (v : AV) (V : UnitV) : Prop := ∀ S', Agree (fun n => a ≤ n ∧ n < st.length + 3) S S' → UAt S' v V
theorem Cl.app {a : Nat} {st S : St} {v : AV} {V : UnitV} (h : Cl a st S v V) (L : St) : Cl a st (S ++ L) v V := fun S' ha => h S' (((Agree.app (fun _ => False) S L).trans ha).mono fun n _ hn => by
  rcases hn with hn | hn
  · exact hn.elim
  · exact hn)
theorem Cl.agree {a : Nat} {st S S' : St} {v : AV} {V : UnitV} (h : Cl a st S v V) (ha : Agree (fun n => a ≤ n ∧ n < st.length + 3) S S') : Cl a st S' v V := fun S2 ha2 => h S2 ((ha.trans ha2).mono fun n _ hn => by
  rcases hn with hn | hn <;> exact hn)
theorem UAt.cells {S : St} {v : AV} {V : UnitV} (h : UAt S v V) : ∃ sz bl, v = .agg [sz, iA V.params, iA V.regs, iA V.code, iA V.spill, bl] ∧ sz.isCell = true ∧ bl.isCell = true := by
  obtain ⟨lo, hi, s, bl, rfl, hs, hb⟩ := h
  obtain ⟨f, hb, _⟩ := hb
  exact ⟨s, bl, rfl, isCell_len hs.len, isCell_len hb.len⟩
theorem put_six {S : St} {b ver : Nat} {cs vs : List AV} (h : S[b]? = some ⟨cs, 0, ver⟩) (h6 : cs.length = 6) (hv : vs.length = 6) (hc : vs.all AV.isCell = true) : ∃ S2, S.put b 0 vs = some S2 ∧ S2[b]? = some ⟨vs, 0, ver + 1⟩ ∧ S2.atN b 0 6 = some vs ∧ Agree (fun n => n = b) S S2 := by
  have hput := put_box (o := 0) (vs := vs) h (by omega) hc
  have hsp : splice cs 0 vs = vs := by
    unfold splice
    rw [List.take_zero, List.nil_append, Nat.zero_add, List.drop_eq_nil_of_le (by omega), List.append_nil]
  rw [hsp] at hput
  have hb : (S.set b ⟨vs, 0, ver + 1⟩)[b]? = some ⟨vs, 0, ver + 1⟩ := List.getElem?_set_self (List.getElem?_eq_some_iff.1 h).1
  refine ⟨_, hput, hb, ?_, Agree.set _ _ _⟩
  have := atN_box hb (by decide) 0 6 (by omega)
  rw [this, List.drop_zero, List.take_of_length_le (by omega)]
section
variable {X : Cx} {st : St}
set_option maxHeartbeats 4000000 in
theorem w_r17_follow (h : On X) {st0 N0 : St} (hst0 : st = st0 ++ N0) {lo hi lo2 hi2 : Nat} {v w : AV} {U : UnitV} {rT : List Int} (hv : UnitAt st0 lo hi v U) (x : Nat) (hx : x < U.blocks.length) (hl : IntsAt st lo2 hi2 w ((x : Int) :: rT)) (wf : Wf U) {cx : Int} (hlk : Links U cx ((x : Int) :: rT)) (hTl : rT.length ≤ U.blocks.length) (size : Int) :
    wpF X 51 [v, v, w, iA size] st fun r s => ∃ wv, r = .ret (.tup [wv, iA ((followK U x size rT U x 0).2 : Int)]) ∧ (∃ m, s = st ++ m) ∧ ∀ S', Agree (fun n => st0.length ≤ n ∧ n < st.length) s S' → UAt S' wv (followK U x size rT U x 0).1 := by
  refine wpF_go (fn := v_r17_follow) (by rw [h.F]; rfl) ?_
  have hnb := wf.nb
  have hreg := wf.regs
  have hle0 : st0.length ≤ st.length := by rw [hst0]; simp
  have hm := fun L => hv.mono L
  have hml := fun L => ArrAt.mono hl L
  have hclU : ∀ L : St, Cl st0.length st (st ++ L) v U := fun L S' ha => by
    obtain ⟨m', rfl⟩ := ha.ext (a := st0) ⟨N0 ++ L, by rw [hst0, List.append_assoc]⟩ (fun b hb hx => by omega)
    exact ⟨_, _, hm m'⟩
  have hlB := fun L => (hml L).get 0 (by simp)
  obtain ⟨s, ba, rfl, hs, fa, hba, hbo⟩ := hv
  have hcs := isCell_len hs.len
  have hcb := isCell_len hba.len
  have l1 := hl.len
  simp only [List.length_map, List.length_cons] at l1
  obtain ⟨b0, o0, he0, _, ha0, _⟩ := hl.get 0 (by simp)
  have a0 := fun L => ha0 L 0 (by omega)
  simp only [List.getElem_map, List.getElem_cons_zero, Nat.add_zero, List.getElem?_cons_zero] at a0
  have hsub : IntKind.wrap .i64 (((rT.length + 1 : Nat) : Int) - 1) = (rT.length : Int) := by rw [wrap_small (by omega) (by omega)]; omega
  have he00 : elemA w 1 0 = some (.ptr b0 o0) := he0
  simp only [v_r17_follow, hcs, hcb, he00, a0, kB, kZ, kD, fillA, partsEv, zeroes, Nat.reduceSub, Int.reduceToNat, Nat.reduceMul, asInt?, asNat?, Int.reduceAdd, Int.reduceLE, Int.reduceLT, Int.reduceNeg, Nat.reduceLeDiff, VOpd.ev, Nat.reduceEqDiff, Nat.reduceAdd, reduceIte, reduceCtorEq, splice, resOf, tupOf, cellsV, AV.toV, AV.cell?, cellVal]
  refine loop_inv (fun m e S => ∃ (i k ver : Nat) (V : UnitV) (sz bl : AV), m + i = rT.length ∧ e 2 = w ∧ e 3 = iA size ∧ e 4 = .ptr (st.length + 0) 0 ∧ e 5 = .ptr (st.length + 1) 0 ∧ e 8 = .ptr (st.length + 2) 0 ∧ e 10 = iA x ∧ e 11 = iA ((i + 1 : Nat) : Int) ∧
    (k < U.blocks.length ∧ ((x : Int) :: rT)[i]? = some (k : Int)) ∧ (∃ m, S = st ++ m) ∧ S[st.length + 0]? = some ⟨[sz, iA V.params, iA V.regs, iA V.code, iA V.spill, bl], 0, ver⟩ ∧ S[st.length + 1]? = some ⟨[s, iA U.params, iA U.regs, iA U.code, iA U.spill, ba], 0, 0⟩ ∧
    (∃ cs, S[st.length + 2]? = some ⟨cs, 0, 0⟩ ∧ cs.length = 6) ∧ Cl st0.length st S (.agg [sz, iA V.params, iA V.regs, iA V.code, iA V.spill, bl]) V ∧ Flw U V x i ∧ (∃ hxV : x < V.blocks.length, ∃ hk : k < U.blocks.length, V.blocks[x].e = U.blocks[k].e) ∧ followK U x size (rT.drop i) V k i = followK U x size rT U x 0) ?_ rT.length ?_
  case refine_2 =>
    exact ⟨0, x, 0, U, s, ba, by omega, by simp only [kB, kZ, kD, fillA, partsEv, zeroes, Nat.reduceSub, Int.reduceToNat, Nat.reduceMul, asInt?, asNat?, Int.reduceAdd, Int.reduceLE, Int.reduceLT, Int.reduceNeg, Nat.reduceLeDiff, VOpd.ev, Nat.reduceEqDiff, Nat.reduceAdd, reduceIte, reduceCtorEq, splice, resOf, tupOf, cellsV, AV.toV, AV.cell?, cellVal], by simp only [kB, kZ, kD, fillA, partsEv, zeroes, Nat.reduceSub, Int.reduceToNat, Nat.reduceMul, asInt?, asNat?, Int.reduceAdd, Int.reduceLE, Int.reduceLT, Int.reduceNeg, Nat.reduceLeDiff, VOpd.ev, Nat.reduceEqDiff, Nat.reduceAdd, reduceIte, reduceCtorEq, splice, resOf, tupOf, cellsV, AV.toV, AV.cell?, cellVal], by simp only [kB, kZ, kD, fillA, partsEv, zeroes, Nat.reduceSub, Int.reduceToNat, Nat.reduceMul, asInt?, asNat?, Int.reduceAdd, Int.reduceLE, Int.reduceLT, Int.reduceNeg, Nat.reduceLeDiff, VOpd.ev, Nat.reduceEqDiff, Nat.reduceAdd, reduceIte, reduceCtorEq, splice, resOf, tupOf, cellsV, AV.toV, AV.cell?, cellVal], by simp only [kB, kZ, kD, fillA, partsEv, zeroes, Nat.reduceSub, Int.reduceToNat, Nat.reduceMul, asInt?, asNat?, Int.reduceAdd, Int.reduceLE, Int.reduceLT, Int.reduceNeg, Nat.reduceLeDiff, VOpd.ev, Nat.reduceEqDiff, Nat.reduceAdd, reduceIte, reduceCtorEq, splice, resOf, tupOf, cellsV, AV.toV, AV.cell?, cellVal], by simp only [kB, kZ, kD, fillA, partsEv, zeroes, Nat.reduceSub, Int.reduceToNat, Nat.reduceMul, asInt?, asNat?, Int.reduceAdd, Int.reduceLE, Int.reduceLT, Int.reduceNeg, Nat.reduceLeDiff, VOpd.ev, Nat.reduceEqDiff, Nat.reduceAdd, reduceIte, reduceCtorEq, splice, resOf, tupOf, cellsV, AV.toV, AV.cell?, cellVal], by simp only [kB, kZ, kD, fillA, partsEv, zeroes, Nat.reduceSub, Int.reduceToNat, Nat.reduceMul, asInt?, asNat?, Int.reduceAdd, Int.reduceLE, Int.reduceLT, Int.reduceNeg, Nat.reduceLeDiff, VOpd.ev, Nat.reduceEqDiff, Nat.reduceAdd, reduceIte, reduceCtorEq, splice, resOf, tupOf, cellsV, AV.toV, AV.cell?, cellVal], by simp only [kB, kZ, kD, fillA, partsEv, zeroes, Nat.reduceSub, Int.reduceToNat, Nat.reduceMul, asInt?, asNat?, Int.reduceAdd, Int.reduceLE, Int.reduceLT, Int.reduceNeg, Nat.reduceLeDiff, VOpd.ev, Nat.reduceEqDiff, Nat.reduceAdd, reduceIte, reduceCtorEq, splice, resOf, tupOf, cellsV, AV.toV, AV.cell?, cellVal], ⟨hx, rfl⟩, ⟨_, rfl⟩, by rw [List.getElem?_append_right (by omega), Nat.add_sub_cancel_left]; rfl, by rw [List.getElem?_append_right (by omega), Nat.add_sub_cancel_left]; rfl,
      ⟨_, by rw [List.getElem?_append_right (by omega), Nat.add_sub_cancel_left]; rfl, rfl⟩, hclU _, ⟨rfl, by omega, fun b hb => by have := (wf.blk b hb).ops; omega, rfl⟩, ⟨hx, hx, rfl⟩, by rw [List.drop_zero]⟩
  rintro m e S ⟨i, k, ver, V, sz, bl, him, e2, e3, e4, e5, e8, e10, e11, ⟨hk, hTi⟩, ⟨mS, hxS⟩, box4, box5, ⟨cs8, box8, hc8⟩, hcl, hF, ⟨hxV, _, hVe⟩, hfk⟩
  simp only [e2, e11, l1, kB, kZ, kD, fillA, partsEv, zeroes, Nat.reduceSub, Int.reduceToNat, Nat.reduceMul, asInt?, asNat?, Int.reduceAdd, Int.reduceLE, Int.reduceLT, Int.reduceNeg, Nat.reduceLeDiff, VOpd.ev, Nat.reduceEqDiff, Nat.reduceAdd, reduceIte, reduceCtorEq, splice, resOf, tupOf, cellsV, AV.toV, AV.cell?, cellVal]
  refine condO_intro ?_ ?_ <;> intro hc <;> simp only [kB, kZ, kD, fillA, partsEv, zeroes, Nat.reduceSub, Int.reduceToNat, Nat.reduceMul, asInt?, asNat?, Int.reduceAdd, Int.reduceLE, Int.reduceLT, Int.reduceNeg, Nat.reduceLeDiff, VOpd.ev, Nat.reduceEqDiff, Nat.reduceAdd, reduceIte, reduceCtorEq, splice, resOf, tupOf, cellsV, AV.toV, AV.cell?, cellVal]
  · have hil : i < rT.length := by have := of_decide_eq_true hc; omega
    have hTn : ((x : Int) :: rT)[i + 1]? = some rT[i] := by rw [List.getElem?_cons_succ, List.getElem?_eq_getElem hil]
    obtain ⟨k', y, hk', hy, ek, ey, hck, hcy, hself⟩ := hlk i _ _ hTi hTn
    have hkk : k = k' := by omega
    subst hkk
    obtain ⟨ba2, oa2, hea2, _, haa2, _⟩ := hl.get (i + 1) (by simp; omega)
    have a20 := haa2 mS 0 (by omega)
    rw [← hxS] at a20
    simp only [List.getElem_map, List.getElem_cons_succ, ey, Nat.add_zero, List.getElem?_cons_zero] at a20
    obtain ⟨loV, hiV, huV⟩ := hcl S (Agree.refl _ _)
    obtain ⟨sV, bV, eV, hsV, fV, hbV, hboV⟩ := huV
    have huV := (⟨loV, hiV, sV, bV, eV, hsV, fV, hbV, hboV⟩ : UAt S _ V)
    cases eV
    obtain ⟨bx, ox, hex, _, _, hmx⟩ := hbV.get x (by simpa using hxV)
    have rx := hmx [] 1 4 (by omega)
    simp only [List.getElem_mapIdx, BlkV.row, List.append_nil, hVe, kB, kZ, kD, fillA, partsEv, zeroes, Nat.reduceSub, Int.reduceToNat, Nat.reduceMul, asInt?, asNat?, Int.reduceAdd, Int.reduceLE, Int.reduceLT, Int.reduceNeg, Nat.reduceLeDiff, VOpd.ev, Nat.reduceEqDiff, Nat.reduceAdd, reduceIte, reduceCtorEq, splice, resOf, tupOf, cellsV, AV.toV, AV.cell?, cellVal] at rx
    have d45 := at1_box box4 (by decide) 5
    simp only [kB, kZ, kD, fillA, partsEv, zeroes, Nat.reduceSub, Int.reduceToNat, Nat.reduceMul, asInt?, asNat?, Int.reduceAdd, Int.reduceLE, Int.reduceLT, Int.reduceNeg, Nat.reduceLeDiff, VOpd.ev, Nat.reduceEqDiff, Nat.reduceAdd, reduceIte, reduceCtorEq, splice, resOf, tupOf, cellsV, AV.toV, AV.cell?, cellVal] at d45
    have d46 := atN_box box4 (by decide) 0 6 (by simp)
    simp only [kB, kZ, kD, fillA, partsEv, zeroes, Nat.reduceSub, Int.reduceToNat, Nat.reduceMul, asInt?, asNat?, Int.reduceAdd, Int.reduceLE, Int.reduceLT, Int.reduceNeg, Nat.reduceLeDiff, VOpd.ev, Nat.reduceEqDiff, Nat.reduceAdd, reduceIte, reduceCtorEq, splice, resOf, tupOf, cellsV, AV.toV, AV.cell?, cellVal] at d46
    simp only [e2, e4, e10, e11, d45, hex, rx, kB, kZ, kD, fillA, partsEv, zeroes, Nat.reduceSub, Int.reduceToNat, Nat.reduceMul, asInt?, asNat?, Int.reduceAdd, Int.reduceLE, Int.reduceLT, Int.reduceNeg, Nat.reduceLeDiff, VOpd.ev, Nat.reduceEqDiff, Nat.reduceAdd, reduceIte, reduceCtorEq, splice, resOf, tupOf, cellsV, AV.toV, AV.cell?, cellVal]
    refine callO_same (j_r17_Next h _ _ _ _ _) ?_
    simp only [kB, kZ, kD, fillA, partsEv, zeroes, Nat.reduceSub, Int.reduceToNat, Nat.reduceMul, asInt?, asNat?, Int.reduceAdd, Int.reduceLE, Int.reduceLT, Int.reduceNeg, Nat.reduceLeDiff, VOpd.ev, Nat.reduceEqDiff, Nat.reduceAdd, reduceIte, reduceCtorEq, splice, resOf, tupOf, cellsV, AV.toV, AV.cell?, cellVal]
    have hT0 : (if wayTo U.blocks[k].e.k 0 then U.blocks[k].e.t else if wayElse U.blocks[k].e.k 0 then U.blocks[k].e.e else 0) = toOf U.blocks[k].e ((0 : Nat) : Int) := rfl
    have hW0 : (wayTo U.blocks[k].e.k 0 || wayElse U.blocks[k].e.k 0) = isWay U.blocks[k].e ((0 : Nat) : Int) := rfl
    simp only [hT0, hW0]
    refine loop_live [2, 3, 4, 5, 8, 10, 11] (fun m e => ∃ j : Nat, j + m = 3 ∧ e 12 = iA j ∧ e 13 = iA (toOf U.blocks[k].e j) ∧ e 14 = bA (isWay U.blocks[k].e j) ∧ ∀ j' : Nat, j' < j → selfG U.blocks[k].e y j' = false) 3 ?_ ?_
    · exact ⟨0, rfl, by simp only [kB, kZ, kD, fillA, partsEv, zeroes, Nat.reduceSub, Int.reduceToNat, Nat.reduceMul, asInt?, asNat?, Int.reduceAdd, Int.reduceLE, Int.reduceLT, Int.reduceNeg, Nat.reduceLeDiff, VOpd.ev, Nat.reduceEqDiff, Nat.reduceAdd, reduceIte, reduceCtorEq, splice, resOf, tupOf, cellsV, AV.toV, AV.cell?, cellVal], by simp only [kB, kZ, kD, fillA, partsEv, zeroes, Nat.reduceSub, Int.reduceToNat, Nat.reduceMul, asInt?, asNat?, Int.reduceAdd, Int.reduceLE, Int.reduceLT, Int.reduceNeg, Nat.reduceLeDiff, VOpd.ev, Nat.reduceEqDiff, Nat.reduceAdd, reduceIte, reduceCtorEq, splice, resOf, tupOf, cellsV, AV.toV, AV.cell?, cellVal], by simp only [kB, kZ, kD, fillA, partsEv, zeroes, Nat.reduceSub, Int.reduceToNat, Nat.reduceMul, asInt?, asNat?, Int.reduceAdd, Int.reduceLE, Int.reduceLT, Int.reduceNeg, Nat.reduceLeDiff, VOpd.ev, Nat.reduceEqDiff, Nat.reduceAdd, reduceIte, reduceCtorEq, splice, resOf, tupOf, cellsV, AV.toV, AV.cell?, cellVal], fun _ h => absurd h (by omega)⟩
    intro m2 e' hL ⟨j, hjm, g12, g13, g14, hpre⟩
    simp only [e2, e3, e4, e5, e8, e10, e11, kB, kZ, kD, fillA, partsEv, zeroes, Nat.reduceSub, Int.reduceToNat, Nat.reduceMul, asInt?, asNat?, Int.reduceAdd, Int.reduceLE, Int.reduceLT, Int.reduceNeg, Nat.reduceLeDiff, VOpd.ev, Nat.reduceEqDiff, Nat.reduceAdd, reduceIte, reduceCtorEq, splice, resOf, tupOf, cellsV, AV.toV, AV.cell?, cellVal] at hL
    obtain ⟨g2, g3, g4, g5, g8, g10, g11⟩ := hL
    have hj3 : j < 3 := by
      rcases Nat.lt_or_ge j 3 with h | h
      · exact h
      · have : j = 3 := by omega
        subst this
        rw [selfN_none hpre] at hself
        omega
    have hway : (j : Int) = 0 ∨ (j : Int) = 1 ∨ (j : Int) = 2 := by omega
    have hstep : selfG U.blocks[k].e y j = false → ∀ j' : Nat, j' < j + 1 → selfG U.blocks[k].e y j' = false := fun hq j' hj' => by
      by_cases he : j' = j
      · subst he; exact hq
      · exact hpre j' (by omega)
    have hj1 : IntKind.wrap .i64 ((j : Int) + 1) = ((j + 1 : Nat) : Int) := by rw [wrap_small (by omega) (by omega)]; omega
    have hTj : (if wayTo U.blocks[k].e.k ((j + 1 : Nat) : Int) then U.blocks[k].e.t else if wayElse U.blocks[k].e.k ((j + 1 : Nat) : Int) then U.blocks[k].e.e else 0) = toOf U.blocks[k].e ((j + 1 : Nat) : Int) := rfl
    have hWj : (wayTo U.blocks[k].e.k ((j + 1 : Nat) : Int) || wayElse U.blocks[k].e.k ((j + 1 : Nat) : Int)) = isWay U.blocks[k].e ((j + 1 : Nat) : Int) := rfl
    by_cases hG : selfG U.blocks[k].e y j = true
    case neg =>
      have hG : selfG U.blocks[k].e y j = false := by simpa using hG
      by_cases hw : isWay U.blocks[k].e j = true
      · have hne : decide (toOf U.blocks[k].e j ≠ (y : Int)) = true := by
          unfold selfG at hG
          rw [hw, Bool.true_and] at hG
          exact decide_eq_true (of_decide_eq_false hG)
        simp only [g12, g13, g14, hw, g2, g11, hea2, a20, hne, g4, g10, d45, hex, rx, hj1, kB, kZ, kD, fillA, partsEv, zeroes, Nat.reduceSub, Int.reduceToNat, Nat.reduceMul, asInt?, asNat?, Int.reduceAdd, Int.reduceLE, Int.reduceLT, Int.reduceNeg, Nat.reduceLeDiff, VOpd.ev, Nat.reduceEqDiff, Nat.reduceAdd, reduceIte, reduceCtorEq, splice, resOf, tupOf, cellsV, AV.toV, AV.cell?, cellVal]
        refine callO_same (j_r17_Next h _ _ _ _ _) ?_
        simp only [hTj, hWj, kB, kZ, kD, fillA, partsEv, zeroes, Nat.reduceSub, Int.reduceToNat, Nat.reduceMul, asInt?, asNat?, Int.reduceAdd, Int.reduceLE, Int.reduceLT, Int.reduceNeg, Nat.reduceLeDiff, VOpd.ev, Nat.reduceEqDiff, Nat.reduceAdd, reduceIte, reduceCtorEq, splice, resOf, tupOf, cellsV, AV.toV, AV.cell?, cellVal]
        exact ⟨m2 - 1, by omega, by simp [g2, g3, g4, g5, g8, g10, g11, e2, e3, e4, e5, e8, e10, e11], j + 1, by omega, rfl, rfl, rfl, hstep hG⟩
      · have hw : isWay U.blocks[k].e j = false := by simpa using hw
        simp only [g12, g13, g14, hw, g4, g10, d45, hex, rx, hj1, kB, kZ, kD, fillA, partsEv, zeroes, Nat.reduceSub, Int.reduceToNat, Nat.reduceMul, asInt?, asNat?, Int.reduceAdd, Int.reduceLE, Int.reduceLT, Int.reduceNeg, Nat.reduceLeDiff, VOpd.ev, Nat.reduceEqDiff, Nat.reduceAdd, reduceIte, reduceCtorEq, splice, resOf, tupOf, cellsV, AV.toV, AV.cell?, cellVal]
        refine callO_same (j_r17_Next h _ _ _ _ _) ?_
        simp only [hTj, hWj, kB, kZ, kD, fillA, partsEv, zeroes, Nat.reduceSub, Int.reduceToNat, Nat.reduceMul, asInt?, asNat?, Int.reduceAdd, Int.reduceLE, Int.reduceLT, Int.reduceNeg, Nat.reduceLeDiff, VOpd.ev, Nat.reduceEqDiff, Nat.reduceAdd, reduceIte, reduceCtorEq, splice, resOf, tupOf, cellsV, AV.toV, AV.cell?, cellVal]
        exact ⟨m2 - 1, by omega, by simp [g2, g3, g4, g5, g8, g10, g11, e2, e3, e4, e5, e8, e10, e11], j + 1, by omega, rfl, rfl, rfl, hstep hG⟩
    have hw : isWay U.blocks[k].e j = true := by
      unfold selfG at hG
      exact (Bool.and_eq_true _ _ ▸ hG).1
    have hne : decide (toOf U.blocks[k].e j ≠ (y : Int)) = false := by
      unfold selfG at hG
      rw [hw, Bool.true_and] at hG
      exact decide_eq_false fun h => h (of_decide_eq_true hG)
    have hsj := selfN_hit hj3 hG hpre
    obtain ⟨bY, oY, heY, hnY, _, _⟩ := hba.get y (by simpa using hy)
    have nY := hnY (N0 ++ mS)
    rw [← List.append_assoc, ← hst0, ← hxS] at nY
    simp only [List.getElem_mapIdx, BlkV.row] at nY
    have hcY := isCell_len (hbo y hy).len
    have d55 := at1_box box5 (by decide) 5
    simp only [kB, kZ, kD, fillA, partsEv, zeroes, Nat.reduceSub, Int.reduceToNat, Nat.reduceMul, asInt?, asNat?, Int.reduceAdd, Int.reduceLE, Int.reduceLT, Int.reduceNeg, Nat.reduceLeDiff, VOpd.ev, Nat.reduceEqDiff, Nat.reduceAdd, reduceIte, reduceCtorEq, splice, resOf, tupOf, cellsV, AV.toV, AV.cell?, cellVal] at d55
    simp only [g13, g14, hw, g2, g11, hea2, a20, hne, g12, g10, g4, g5, d46, d55, heY, nY, hcY, kB, kZ, kD, fillA, partsEv, zeroes, Nat.reduceSub, Int.reduceToNat, Nat.reduceMul, asInt?, asNat?, Int.reduceAdd, Int.reduceLE, Int.reduceLT, Int.reduceNeg, Nat.reduceLeDiff, VOpd.ev, Nat.reduceEqDiff, Nat.reduceAdd, reduceIte, reduceCtorEq, splice, resOf, tupOf, cellsV, AV.toV, AV.cell?, cellVal]
    have huZ := (UAt.mono huV [⟨[.sc (.slice none 0 0), iA 0, iA 0, iA 0, iA 0, .sc (.slice none 0 0)], 0, 0⟩])
    obtain ⟨_, _, huZ⟩ := huZ
    have hoY : OpsAt (S ++ [⟨[.sc (.slice none 0 0), iA 0, iA 0, iA 0, iA 0, .sc (.slice none 0 0)], 0, 0⟩]) lo hi (fa y) U.blocks[y].ops := by
      rw [hxS, hst0, List.append_assoc, List.append_assoc]
      exact ArrAt.mono (hbo y hy) _
    have hi2000 : i * 403 ≤ 2000 * 403 := Nat.mul_le_mul_right _ (by omega)
    have hBy := (wf.blk _ (List.getElem_mem hy)).ops
    refine callO_newU (w_r17_with h (by_ := U.blocks[y]) huZ hoY x hxV j (by rw [hF.sizes]; have := wf.sizes; omega) (by rw [hF.len]; omega) (fun b hb => by have := hF.ops b hb; omega) (by omega) (by have := hF.regs; omega)) ?_
    intro w3 m3 hw3
    rw [← extAt_eq hxV] at hw3
    obtain ⟨sz3, bl3, f3, rfl, hz3, hb3⟩ := hw3.ex
    have hszc3 := isCell_len hz3.own.arr.len
    have hblc3 := isCell_len hb3.own.arr.len
    have hagZ : Agree (fun n => n = S.length) (S ++ [⟨[.sc (.slice none 0 0), iA 0, iA 0, iA 0, iA 0, .sc (.slice none 0 0)], 0, 0⟩] ++ m3) (S ++ (⟨[sz3, iA (extAt V x j U.blocks[y]).params, iA (extAt V x j U.blocks[y]).regs, iA (extAt V x j U.blocks[y]).code, iA (extAt V x j U.blocks[y]).spill, bl3], 0, 1⟩ :: m3)) := by
      have := Agree.swap S [] ⟨[.sc (.slice none 0 0), iA 0, iA 0, iA 0, iA 0, .sc (.slice none 0 0)], 0, 0⟩ ⟨[sz3, iA (extAt V x j U.blocks[y]).params, iA (extAt V x j U.blocks[y]).regs, iA (extAt V x j U.blocks[y]).code, iA (extAt V x j U.blocks[y]).spill, bl3], 0, 1⟩ m3
      simpa using this
    have hlZ : (S ++ [⟨[.sc (.slice none 0 0), iA 0, iA 0, iA 0, iA 0, .sc (.slice none 0 0)], 0, 0⟩] : St).length = S.length + 1 := by simp
    rw [hlZ] at hz3 hb3
    have z3 := hz3.agree hagZ (fun b hb _ hx => by omega)
    have b3 := hb3.agree hagZ (fun b hb _ hx => by omega)
    have hclV3 := hcl.app (⟨[sz3, iA (extAt V x j U.blocks[y]).params, iA (extAt V x j U.blocks[y]).regs, iA (extAt V x j U.blocks[y]).code, iA (extAt V x j U.blocks[y]).spill, bl3], 0, 1⟩ :: m3)
    have hx3 : ∃ m, (S ++ (⟨[sz3, iA (extAt V x j U.blocks[y]).params, iA (extAt V x j U.blocks[y]).regs, iA (extAt V x j U.blocks[y]).code, iA (extAt V x j U.blocks[y]).spill, bl3], 0, 1⟩ :: m3) : St) = st ++ m := ⟨mS ++ (⟨[sz3, iA (extAt V x j U.blocks[y]).params, iA (extAt V x j U.blocks[y]).regs, iA (extAt V x j U.blocks[y]).code, iA (extAt V x j U.blocks[y]).spill, bl3], 0, 1⟩ :: m3), by rw [hxS, List.append_assoc]⟩
    have k8 := (List.getElem?_eq_some_iff.1 box8).1
    have box43 : (S ++ (⟨[sz3, iA (extAt V x j U.blocks[y]).params, iA (extAt V x j U.blocks[y]).regs, iA (extAt V x j U.blocks[y]).code, iA (extAt V x j U.blocks[y]).spill, bl3], 0, 1⟩ :: m3) : St)[st.length + 0]? = some ⟨[sz, iA V.params, iA V.regs, iA V.code, iA V.spill, bl], 0, ver⟩ := by rw [List.getElem?_append_left (by omega)]; exact box4
    have box53 : (S ++ (⟨[sz3, iA (extAt V x j U.blocks[y]).params, iA (extAt V x j U.blocks[y]).regs, iA (extAt V x j U.blocks[y]).code, iA (extAt V x j U.blocks[y]).spill, bl3], 0, 1⟩ :: m3) : St)[st.length + 1]? = some ⟨[s, iA U.params, iA U.regs, iA U.code, iA U.spill, ba], 0, 0⟩ := by rw [List.getElem?_append_left (by omega)]; exact box5
    have box83 : (S ++ (⟨[sz3, iA (extAt V x j U.blocks[y]).params, iA (extAt V x j U.blocks[y]).regs, iA (extAt V x j U.blocks[y]).code, iA (extAt V x j U.blocks[y]).spill, bl3], 0, 1⟩ :: m3) : St)[st.length + 2]? = some ⟨cs8, 0, 0⟩ := by rw [List.getElem?_append_left (by omega)]; exact box8
    have box15 : (S ++ (⟨[sz3, iA (extAt V x j U.blocks[y]).params, iA (extAt V x j U.blocks[y]).regs, iA (extAt V x j U.blocks[y]).code, iA (extAt V x j U.blocks[y]).spill, bl3], 0, 1⟩ :: m3) : St)[S.length]? = some ⟨[sz3, iA (extAt V x j U.blocks[y]).params, iA (extAt V x j U.blocks[y]).regs, iA (extAt V x j U.blocks[y]).code, iA (extAt V x j U.blocks[y]).spill, bl3], 0, 1⟩ := by rw [List.getElem?_append_right (Nat.le_refl _), Nat.sub_self]; rfl
    simp only [hszc3, hblc3, kB, kZ, kD, fillA, partsEv, zeroes, Nat.reduceSub, Int.reduceToNat, Nat.reduceMul, asInt?, asNat?, Int.reduceAdd, Int.reduceLE, Int.reduceLT, Int.reduceNeg, Nat.reduceLeDiff, VOpd.ev, Nat.reduceEqDiff, Nat.reduceAdd, reduceIte, reduceCtorEq, splice, resOf, tupOf, cellsV, AV.toV, AV.cell?, cellVal]
    clear hz3 hb3 hw3 hagZ
    generalize (S ++ (⟨[sz3, iA (extAt V x j U.blocks[y]).params, iA (extAt V x j U.blocks[y]).regs, iA (extAt V x j U.blocks[y]).code, iA (extAt V x j U.blocks[y]).spill, bl3], 0, 1⟩ :: m3) : St) = S3 at *
    obtain ⟨hxE, hlenE⟩ := extBy_ops_len hxV hway U.blocks[y]
    have d15 := at1_box box15 (by decide) 5
    simp only [kB, kZ, kD, fillA, partsEv, zeroes, Nat.reduceSub, Int.reduceToNat, Nat.reduceMul, asInt?, asNat?, Int.reduceAdd, Int.reduceLE, Int.reduceLT, Int.reduceNeg, Nat.reduceLeDiff, VOpd.ev, Nat.reduceEqDiff, Nat.reduceAdd, reduceIte, reduceCtorEq, splice, resOf, tupOf, cellsV, AV.toV, AV.cell?, cellVal] at d15
    have d156 := atN_box box15 (by decide) 0 6 (by simp)
    simp only [kB, kZ, kD, fillA, partsEv, zeroes, Nat.reduceSub, Int.reduceToNat, Nat.reduceMul, asInt?, asNat?, Int.reduceAdd, Int.reduceLE, Int.reduceLT, Int.reduceNeg, Nat.reduceLeDiff, VOpd.ev, Nat.reduceEqDiff, Nat.reduceAdd, reduceIte, reduceCtorEq, splice, resOf, tupOf, cellsV, AV.toV, AV.cell?, cellVal] at d156
    have d463 := atN_box box43 (by decide) 0 6 (by simp)
    simp only [kB, kZ, kD, fillA, partsEv, zeroes, Nat.reduceSub, Int.reduceToNat, Nat.reduceMul, asInt?, asNat?, Int.reduceAdd, Int.reduceLE, Int.reduceLT, Int.reduceNeg, Nat.reduceLeDiff, VOpd.ev, Nat.reduceEqDiff, Nat.reduceAdd, reduceIte, reduceCtorEq, splice, resOf, tupOf, cellsV, AV.toV, AV.cell?, cellVal] at d463
    obtain ⟨bE, oE, heE, _, haE, _⟩ := b3.own.arr.get x (by rw [blkRows_length]; exact hxE)
    have aE := haE [] 0 (by omega)
    rw [List.append_nil, blkRows_get _ _ _ hxE] at aE
    simp only [BlkV.row, List.getElem?_cons_zero] at aE
    have lE := (b3.ops x hxE).arr.len
    simp only [List.length_map] at lE
    have hstepK : followK U x size (rT.drop i) V k i = if size < (((extAt V x j U.blocks[y]).blocks[x]'hxE).ops.length : Int) then (V, i) else followK U x size (rT.drop (i + 1)) (extAt V x j U.blocks[y]) y (i + 1) := by
      rw [List.drop_eq_getElem_cons hil, followK, ey, Int.toNat_natCast, List.getElem?_eq_getElem hk, List.getElem?_eq_getElem hy]
      simp only [hsj]
      rw [List.getElem?_eq_getElem hxE]
    rw [hstepK] at hfk
    have hcsz := hszc3
    obtain ⟨szq, blq, eq, hq1, hq2⟩ := UAt.cells huV
    cases eq
    simp only [g3, g10, d15, heE, aE, lE, kB, kZ, kD, fillA, partsEv, zeroes, Nat.reduceSub, Int.reduceToNat, Nat.reduceMul, asInt?, asNat?, Int.reduceAdd, Int.reduceLE, Int.reduceLT, Int.reduceNeg, Nat.reduceLeDiff, VOpd.ev, Nat.reduceEqDiff, Nat.reduceAdd, reduceIte, reduceCtorEq, splice, resOf, tupOf, cellsV, AV.toV, AV.cell?, cellVal]
    refine condO_intro ?_ ?_ <;> intro hc2
    · have h2 := of_decide_eq_true hc2
      rw [if_pos h2] at hfk
      obtain ⟨S4, hput, _, d8, hag8⟩ := put_six (vs := [sz, iA V.params, iA V.regs, iA V.code, iA V.spill, bl]) box83 hc8 rfl (by simp only [hq1, hq2, kB, kZ, kD, fillA, partsEv, zeroes, Nat.reduceSub, Int.reduceToNat, Nat.reduceMul, asInt?, asNat?, Int.reduceAdd, Int.reduceLE, Int.reduceLT, Int.reduceNeg, Nat.reduceLeDiff, VOpd.ev, Nat.reduceEqDiff, Nat.reduceAdd, reduceIte, reduceCtorEq, splice, resOf, tupOf, cellsV, AV.toV, AV.cell?, cellVal])
      have hii : IntKind.wrap .i64 (((i + 1 : Nat) : Int) - 1) = (i : Int) := by rw [wrap_small (by omega) (by omega)]; omega
      simp only [g4, g8, g11, d463, hii, hput, d8, hq1, hq2, kB, kZ, kD, fillA, partsEv, zeroes, Nat.reduceSub, Int.reduceToNat, Nat.reduceMul, asInt?, asNat?, Int.reduceAdd, Int.reduceLE, Int.reduceLT, Int.reduceNeg, Nat.reduceLeDiff, VOpd.ev, Nat.reduceEqDiff, Nat.reduceAdd, reduceIte, reduceCtorEq, splice, resOf, tupOf, cellsV, AV.toV, AV.cell?, cellVal]
      rw [← hfk]
      refine ⟨_, rfl, hag8.ext hx3 (fun b hb hx => by omega), fun S' ha => hclV3 S' ((hag8.trans ha).mono fun n _ hn => by omega)⟩
    · have h2 := of_decide_eq_false hc2
      rw [if_neg h2] at hfk
      obtain ⟨S5, hput, box45, _, hag5⟩ := put_six (vs := [sz3, iA (extAt V x j U.blocks[y]).params, iA (extAt V x j U.blocks[y]).regs, iA (extAt V x j U.blocks[y]).code, iA (extAt V x j U.blocks[y]).spill, bl3]) box43 rfl rfl (by simp only [hszc3, hblc3, kB, kZ, kD, fillA, partsEv, zeroes, Nat.reduceSub, Int.reduceToNat, Nat.reduceMul, asInt?, asNat?, Int.reduceAdd, Int.reduceLE, Int.reduceLT, Int.reduceNeg, Nat.reduceLeDiff, VOpd.ev, Nat.reduceEqDiff, Nat.reduceAdd, reduceIte, reduceCtorEq, splice, resOf, tupOf, cellsV, AV.toV, AV.cell?, cellVal])
      have hi2 : IntKind.wrap .i64 (((i + 1 : Nat) : Int) + 1) = ((i + 1 + 1 : Nat) : Int) := by rw [wrap_small (by omega) (by omega)]; omega
      simp only [g2, g3, g4, g5, g8, g10, g11, d156, hszc3, hblc3, hput, hi2, kB, kZ, kD, fillA, partsEv, zeroes, Nat.reduceSub, Int.reduceToNat, Nat.reduceMul, asInt?, asNat?, Int.reduceAdd, Int.reduceLE, Int.reduceLT, Int.reduceNeg, Nat.reduceLeDiff, VOpd.ev, Nat.reduceEqDiff, Nat.reduceAdd, reduceIte, reduceCtorEq, splice, resOf, tupOf, cellsV, AV.toV, AV.cell?, cellVal]
      refine ⟨m - 1, by omega, i + 1, y, ver + 1, extAt V x j U.blocks[y], sz3, bl3, by omega, rfl, ⟨hy, by rw [hTn, ey]⟩, hag5.ext hx3 (fun b hb hx => by omega), box45, hag5.box box53 (by omega), ⟨cs8, hag5.box box83 (by omega), hc8⟩, fun S' ha => ?_, flw_step wf hF hx j (List.getElem_mem hy), ⟨hxE, hy, ?_⟩, hfk⟩
      · have ha2 := hag5.trans ha
        exact ⟨_, _, (show OwnU S' (S.length + 1) _ _ from ⟨sz3, bl3, f3, rfl, z3.agree ha2 (fun b hb _ hx => by omega), b3.agree ha2 (fun b hb _ hx => by omega)⟩).unit⟩
      · have : (extAt V x j U.blocks[y]).blocks[x]? = some { V.blocks[x] with ops := V.blocks[x].ops ++ extOps V V.blocks[x] j ++ U.blocks[y].ops, e := U.blocks[y].e } := by
          rw [extAt_eq hxV]
          simp only [extBy]
          rw [List.getElem?_set_self hxV]
        rw [List.getElem?_eq_getElem hxE] at this
        rw [Option.some.inj this]
  · have hi : i = rT.length := by have := of_decide_eq_false hc; omega
    subst hi
    rw [List.drop_length] at hfk
    have hfk2 : followK U x size rT U x 0 = (V, rT.length) := hfk.symm
    obtain ⟨szq, blq, eq, hq1, hq2⟩ := UAt.cells (hcl S (Agree.refl _ _))
    cases eq
    have d46 := atN_box box4 (by decide) 0 6 (by simp)
    simp only [kB, kZ, kD, fillA, partsEv, zeroes, Nat.reduceSub, Int.reduceToNat, Nat.reduceMul, asInt?, asNat?, Int.reduceAdd, Int.reduceLE, Int.reduceLT, Int.reduceNeg, Nat.reduceLeDiff, VOpd.ev, Nat.reduceEqDiff, Nat.reduceAdd, reduceIte, reduceCtorEq, splice, resOf, tupOf, cellsV, AV.toV, AV.cell?, cellVal] at d46
    obtain ⟨S4, hput, _, d8, hag8⟩ := put_six (vs := [sz, iA V.params, iA V.regs, iA V.code, iA V.spill, bl]) box8 hc8 rfl (by simp only [hq1, hq2, kB, kZ, kD, fillA, partsEv, zeroes, Nat.reduceSub, Int.reduceToNat, Nat.reduceMul, asInt?, asNat?, Int.reduceAdd, Int.reduceLE, Int.reduceLT, Int.reduceNeg, Nat.reduceLeDiff, VOpd.ev, Nat.reduceEqDiff, Nat.reduceAdd, reduceIte, reduceCtorEq, splice, resOf, tupOf, cellsV, AV.toV, AV.cell?, cellVal])
    simp only [e2, e4, e8, l1, hsub, d46, hput, d8, hq1, hq2, kB, kZ, kD, fillA, partsEv, zeroes, Nat.reduceSub, Int.reduceToNat, Nat.reduceMul, asInt?, asNat?, Int.reduceAdd, Int.reduceLE, Int.reduceLT, Int.reduceNeg, Nat.reduceLeDiff, VOpd.ev, Nat.reduceEqDiff, Nat.reduceAdd, reduceIte, reduceCtorEq, splice, resOf, tupOf, cellsV, AV.toV, AV.cell?, cellVal]
    rw [hfk2]
    exact ⟨_, rfl, hag8.ext ⟨mS, hxS⟩ (fun b hb hx => by omega), fun S' ha => hcl S' ((hag8.trans ha).mono fun n _ hn => by omega)⟩
end
end Go.VX.Seat
end
section
set_option linter.unusedVariables false
set_option linter.unusedSimpArgs false
set_option maxRecDepth 4000
/-! biremeref17.Follow. -/
namespace Go.VX.Seat
open Go.Proofs
/-- A unit, a number and an error; the unit stays, whatever is written into memory between. -/
def RefU3 (st0 st s : St) (r : CRes) (x : UnitV × Int × Int) : Prop := ∃ w, r = .ret (.tup [w, iA x.2.1, iA x.2.2]) ∧ (∃ m, s = st ++ m) ∧ ∀ S', Agree (fun n => st0.length ≤ n ∧ n < st.length) s S' → UAt S' w x.1
theorem refU3_zero (st0 st m : St) (e : Int) : RefU3 st0 st (st ++ m) (.ret (.tup [zeroA, iA 0, iA e])) (zeroU, 0, e) := ⟨_, rfl, ⟨m, rfl⟩, fun S' _ => (own_zero S' 0).uat⟩
section
variable {X : Cx} {st : St}
set_option maxHeartbeats 2000000 in
theorem w_r17_Follow (h : On X) {st0 N0 : St} (hst0 : st = st0 ++ N0) {lo hi lo2 hi2 : Nat} {v pv : AV} {U : UnitV} {P : List CntV} (hv : UnitAt st0 lo hi v U) (hp : CntsAt st lo2 hi2 pv P) (wf : Wf U) (hPN : P.length = U.blocks.length) (x : Nat) (hx : x < U.blocks.length) (size : Int) :
    wpF X 20 [v, pv, iA x, iA size] st fun r s => RefU3 st0 st s r (followFR U P x size) := by
  refine wpF_go (fn := v_r17_Follow) (by rw [h.F]; rfl) ?_
  have hnb := wf.nb
  have hmp := fun L => ArrAt.mono hp L
  have hm := fun L : St => (by rw [hst0, List.append_assoc]; exact hv.mono _ : UnitAt (st ++ L) lo hi v U)
  have hv0 := hv
  have hle0 : st0.length ≤ st.length := by rw [hst0]; simp
  obtain ⟨s, bl, rfl, hs, hb⟩ := hv
  have hcs := isCell_len hs.len
  have hcb : bl.isCell = true := by
    obtain ⟨f, hb, _⟩ := hb
    exact isCell_len hb.len
  simp only [v_r17_Follow, hcs, hcb, kB, kZ, kD, fillA, partsEv, zeroes, Nat.reduceSub, Int.reduceToNat, Nat.reduceMul, asInt?, asNat?, Int.reduceAdd, Int.reduceLE, Int.reduceLT, Int.reduceNeg, Nat.reduceLeDiff, VOpd.ev, Nat.reduceEqDiff, Nat.reduceAdd, reduceIte, reduceCtorEq, splice, resOf, tupOf, cellsV, AV.toV, AV.cell?, cellVal]
  refine condO_intro ?_ ?_ <;> intro hc
  · have hE : followFR U P x size = (zeroU, 0, 2) := by unfold followFR; rw [if_pos hc]
    simp only [hc, kB, kZ, kD, fillA, partsEv, zeroes, Nat.reduceSub, Int.reduceToNat, Nat.reduceMul, asInt?, asNat?, Int.reduceAdd, Int.reduceLE, Int.reduceLT, Int.reduceNeg, Nat.reduceLeDiff, VOpd.ev, Nat.reduceEqDiff, Nat.reduceAdd, reduceIte, reduceCtorEq, splice, resOf, tupOf, cellsV, AV.toV, AV.cell?, cellVal]
    rw [hE]
    exact refU3_zero _ _ [_, _] _
  have hE : followFR U P x size = if decide (chkU (followR U P x size).1 ≠ 0) then (zeroU, 0, 11) else ((followR U P x size).1, ((followR U P x size).2 : Int), 0) := by unfold followFR; rw [hc]; rfl
  rw [hE]
  clear hE
  simp only [kB, kZ, kD, fillA, partsEv, zeroes, Nat.reduceSub, Int.reduceToNat, Nat.reduceMul, asInt?, asNat?, Int.reduceAdd, Int.reduceLE, Int.reduceLT, Int.reduceNeg, Nat.reduceLeDiff, VOpd.ev, Nat.reduceEqDiff, Nat.reduceAdd, reduceIte, reduceCtorEq, splice, resOf, tupOf, cellsV, AV.toV, AV.cell?, cellVal]
  refine wpF.mono (w_r17_Trace h (hm _) (hmp _) wf hPN x hx) ?_
  rintro r s' ⟨w, rfl, ⟨m1, rfl⟩, hw⟩
  refine ⟨kept_app _ _ _ _, ?_⟩
  obtain ⟨hlk, rT, hT⟩ := traceK_links wf (P := P) (cx := U.blocks[x].catch_) U.blocks.length [(x : Int)] x (fun i a b ha hb => by simp at hb) (by simp) rfl ⟨hx, rfl⟩
  have hTl := traceK_len U P U.blocks[x].catch_ U.blocks.length [(x : Int)] x
  have hFR : followR U P x size = followK U x size rT U x 0 := by
    unfold followR traceU
    rw [Int.toNat_natCast, List.getElem?_eq_getElem hx]
    simp only [hT]
    rfl
  generalize traceK U P U.blocks[x].catch_ U.blocks.length [(x : Int)] x = T at *
  subst hT
  simp only [List.cons_append, List.nil_append, List.length_cons, List.length_nil] at hTl hlk
  have hwA := hw.arr
  simp only [List.cons_append, List.nil_append, List.append_assoc] at hwA
  simp only [kB, kZ, kD, fillA, partsEv, zeroes, Nat.reduceSub, Int.reduceToNat, Nat.reduceMul, asInt?, asNat?, Int.reduceAdd, Int.reduceLE, Int.reduceLT, Int.reduceNeg, Nat.reduceLeDiff, VOpd.ev, Nat.reduceEqDiff, Nat.reduceAdd, reduceIte, reduceCtorEq, splice, resOf, tupOf, cellsV, AV.toV, AV.cell?, cellVal]
  refine wpF.mono (w_r17_follow h (st0 := st0) (N0 := N0 ++ (⟨[s, iA U.params, iA U.regs, iA U.code, iA U.spill, bl], 0, 0⟩ :: ⟨[.sc (.slice none 0 0), iA 0, iA 0, iA 0, iA 0, .sc (.slice none 0 0)], 0, 0⟩ :: ⟨[.sc (.slice none 0 0), iA 0, iA 0, iA 0, iA 0, .sc (.slice none 0 0)], 0, 0⟩ :: m1)) (by rw [hst0]; simp) hv0 x hx hwA wf hlk (by omega) size) ?_
  rintro r s' ⟨wv, rfl, ⟨m2, rfl⟩, hcl⟩
  refine ⟨kept_app _ _ _ _, ?_⟩
  rw [← hFR] at hcl ⊢
  generalize followR U P x size = V at *
  obtain ⟨szv, blv, rfl, c1, c2⟩ := UAt.cells (hcl _ (Agree.refl _ _))
  simp only [c1, c2, kB, kZ, kD, fillA, partsEv, zeroes, Nat.reduceSub, Int.reduceToNat, Nat.reduceMul, asInt?, asNat?, Int.reduceAdd, Int.reduceLE, Int.reduceLT, Int.reduceNeg, Nat.reduceLeDiff, VOpd.ev, Nat.reduceEqDiff, Nat.reduceAdd, reduceIte, reduceCtorEq, splice, resOf, tupOf, cellsV, AV.toV, AV.cell?, cellVal]
  have hag := Agree.swap st [⟨[s, iA U.params, iA U.regs, iA U.code, iA U.spill, bl], 0, 0⟩, ⟨[.sc (.slice none 0 0), iA 0, iA 0, iA 0, iA 0, .sc (.slice none 0 0)], 0, 0⟩] ⟨[.sc (.slice none 0 0), iA 0, iA 0, iA 0, iA 0, .sc (.slice none 0 0)], 0, 0⟩ ⟨[szv, iA V.1.params, iA V.1.regs, iA V.1.code, iA V.1.spill, blv], 0, 1⟩ (m1 ++ m2)
  simp only [List.cons_append, List.nil_append, List.length_cons, List.length_nil, List.append_assoc] at hag hcl
  have hlen : (st ++ (⟨[s, iA U.params, iA U.regs, iA U.code, iA U.spill, bl], 0, 0⟩ :: ⟨[.sc (.slice none 0 0), iA 0, iA 0, iA 0, iA 0, .sc (.slice none 0 0)], 0, 0⟩ :: ⟨[.sc (.slice none 0 0), iA 0, iA 0, iA 0, iA 0, .sc (.slice none 0 0)], 0, 0⟩ :: m1) : St).length = st.length + (m1.length + 3) := by simp
  rw [hlen] at hcl
  obtain ⟨_, _, hu3⟩ := hcl _ (hag.mono fun n _ hn => by omega)
  refine callO_same (j_r07_Check h hu3) ?_
  simp only [kB, kZ, kD, fillA, partsEv, zeroes, Nat.reduceSub, Int.reduceToNat, Nat.reduceMul, asInt?, asNat?, Int.reduceAdd, Int.reduceLE, Int.reduceLT, Int.reduceNeg, Nat.reduceLeDiff, VOpd.ev, Nat.reduceEqDiff, Nat.reduceAdd, reduceIte, reduceCtorEq, splice, resOf, tupOf, cellsV, AV.toV, AV.cell?, cellVal]
  refine condO_intro ?_ ?_ <;> intro hc3
  · simp only [hc3, kB, kZ, kD, fillA, partsEv, zeroes, Nat.reduceSub, Int.reduceToNat, Nat.reduceMul, asInt?, asNat?, Int.reduceAdd, Int.reduceLE, Int.reduceLT, Int.reduceNeg, Nat.reduceLeDiff, VOpd.ev, Nat.reduceEqDiff, Nat.reduceAdd, reduceIte, reduceCtorEq, splice, resOf, tupOf, cellsV, AV.toV, AV.cell?, cellVal]
    exact refU3_zero _ _ _ _
  · simp only [hc3, c1, c2, kB, kZ, kD, fillA, partsEv, zeroes, Nat.reduceSub, Int.reduceToNat, Nat.reduceMul, asInt?, asNat?, Int.reduceAdd, Int.reduceLE, Int.reduceLT, Int.reduceNeg, Nat.reduceLeDiff, VOpd.ev, Nat.reduceEqDiff, Nat.reduceAdd, reduceIte, reduceCtorEq, splice, resOf, tupOf, cellsV, AV.toV, AV.cell?, cellVal]
    have hag2 := Agree.swap st [⟨[s, iA U.params, iA U.regs, iA U.code, iA U.spill, bl], 0, 0⟩] ⟨[.sc (.slice none 0 0), iA 0, iA 0, iA 0, iA 0, .sc (.slice none 0 0)], 0, 0⟩ ⟨[szv, iA V.1.params, iA V.1.regs, iA V.1.code, iA V.1.spill, blv], 0, 1⟩ (⟨[szv, iA V.1.params, iA V.1.regs, iA V.1.code, iA V.1.spill, blv], 0, 1⟩ :: (m1 ++ m2))
    simp only [List.cons_append, List.nil_append, List.length_cons, List.length_nil] at hag2
    exact ⟨_, rfl, ⟨_, rfl⟩, fun S' ha => hcl S' (((hag.trans hag2).trans ha).mono fun n _ hn => by omega)⟩
end
end Go.VX.Seat
end
section
set_option linter.unusedVariables false
set_option linter.unusedSimpArgs false
set_option maxRecDepth 4000
/-! The law TraceFollows. -/
namespace Go.VX.Seat
open Go.Proofs
theorem followFR_cases (U : UnitV) (P : List CntV) (x : Nat) (size : Int) : ((followFR U P x size).2.2 = 0 ∧ Fits (followFR U P x size).1) ∨ ((followFR U P x size).2.2 ≠ 0 ∧ (followFR U P x size).1 = zeroU) := by
  unfold followFR
  split
  · exact .inr ⟨by decide, rfl⟩
  · split
    · exact .inr ⟨by decide, rfl⟩
    · rename_i hn
      exact .inl ⟨rfl, fits_wf (chk_wf (by simpa using hn))⟩
theorem followU_cases (U : UnitV) (P : List CntV) (b size : Int) : ((followU U P b size).2.2 = 0 ∧ Fits (followU U P b size).1) ∨ ((followU U P b size).2.2 ≠ 0 ∧ (followU U P b size).1 = zeroU) := by
  unfold followU
  split
  · rename_i h
    exact .inr ⟨of_decide_eq_true h, rfl⟩
  · exact followFR_cases _ _ _ _
/-- Behind the second unit of the law. -/
structure CutG (st S : St) (e : Env) (P12 P15 : Nat) (U F : UnitV) (cnt err : Int) (sz1 bl1 sz2 bl2 sz3 bl3 : AV) : Prop where
  ext : ∃ m, S = st ++ m
  e9 : e 9 = .ptr (st.length + 1) 0
  e10 : e 10 = .ptr (st.length + 2) 0
  e12 : e 12 = .ptr P12 0
  e15 : e 15 = .ptr P15 0
  e13 : e 13 = iA cnt
  e16 : e 16 = iA cnt
  e14 : e 14 = iA err
  e17 : e 17 = iA err
  d9 : S.atN (st.length + 1) 0 6 = some (unitC sz1 bl1 U)
  d10 : S.atN (st.length + 2) 0 6 = some (unitC sz2 bl2 U)
  d12 : S.atN P12 0 6 = some (unitC sz3 bl3 F)
  u9 : UAt S (.agg (unitC sz1 bl1 U)) U
  u10 : UAt S (.agg (unitC sz2 bl2 U)) U
  u12 : UAt S (.agg (unitC sz3 bl3 F)) F
  u15 : ∃ sz4 bl4, S.atN P15 0 6 = some (unitC sz4 bl4 F) ∧ UAt S (.agg (unitC sz4 bl4 F)) F
section
variable {X : Cx} {st : St}
set_option maxHeartbeats 4000000 in
theorem w_TraceFollows (h : OnH X) (hg : GB st) {lo hi lo2 hi2 : Nat} {v pv : AV} {U0 : UnitV} {P0 : List CntV} (hv : UnitAt st lo hi v U0) (hp : CntsAt st lo2 hi2 pv P0) (b size : Int) :
    wpF X 4 [v, pv, iA b, iA size] st fun r s => r = .ret (bA true) ∧ ∃ m, s = st ++ m := by
  refine wpF_go (fn := v_l17_TraceFollows) (by rw [h.F]; rfl) ?_
  have hm := fun L => hv.mono L
  have hmp := fun L => ArrAt.mono hp L
  obtain ⟨s, bl, rfl, hs, hb⟩ := hv
  have hcs := isCell_len hs.len
  have hcb : bl.isCell = true := by
    obtain ⟨f, hb, _⟩ := hb
    exact isCell_len hb.len
  have hC := fun (L : St) => w_cut h.toOn (hm L)
  have hR := fun (L : St) => w_profile h.toOn (hmp L)
  have hfit := chk_cut_fits U0
  generalize cutU U0 16 60 = U at hC hfit
  generalize P0.take 20 = P at hR
  simp only [v_l17_TraceFollows, hcs, hcb, kB, kZ, kD, fillA, partsEv, zeroes, Nat.reduceSub, Int.reduceToNat, Nat.reduceMul, asInt?, asNat?, Int.reduceAdd, Int.reduceLE, Int.reduceLT, Int.reduceNeg, Nat.reduceLeDiff, VOpd.ev, Nat.reduceEqDiff, Nat.reduceAdd, reduceIte, reduceCtorEq, splice, resOf, tupOf, cellsV, AV.toV, AV.cell?, cellVal]
  refine callO_newU (hC _) ?_
  intro w1 m1 hw1
  simp only [kB, kZ, kD, fillA, partsEv, zeroes, Nat.reduceSub, Int.reduceToNat, Nat.reduceMul, asInt?, asNat?, Int.reduceAdd, Int.reduceLE, Int.reduceLT, Int.reduceNeg, Nat.reduceLeDiff, VOpd.ev, Nat.reduceEqDiff, Nat.reduceAdd, reduceIte, reduceCtorEq, splice, resOf, tupOf, cellsV, AV.toV, AV.cell?, cellVal]
  refine callO_newU (hC _) ?_
  intro w2 m2 hw2
  simp only [kB, kZ, kD, fillA, partsEv, zeroes, Nat.reduceSub, Int.reduceToNat, Nat.reduceMul, asInt?, asNat?, Int.reduceAdd, Int.reduceLE, Int.reduceLT, Int.reduceNeg, Nat.reduceLeDiff, VOpd.ev, Nat.reduceEqDiff, Nat.reduceAdd, reduceIte, reduceCtorEq, splice, resOf, tupOf, cellsV, AV.toV, AV.cell?, cellVal]
  refine callO_prof (hR _) ?_
  intro p1 n1 hp1
  have hO1 : ∀ A M : St, A.length = 3 → OwnU (st ++ (A ++ (m1 ++ M))) (st.length + 3) w1 U := fun A M hA => by
    have h1 : OwnU (st ++ (([⟨[s, iA U0.params, iA U0.regs, iA U0.code, iA U0.spill, bl], 0, 0⟩, ⟨[.sc (.slice none 0 0), iA 0, iA 0, iA 0, iA 0, .sc (.slice none 0 0)], 0, 0⟩, ⟨[.sc (.slice none 0 0), iA 0, iA 0, iA 0, iA 0, .sc (.slice none 0 0)], 0, 0⟩] : St) ++ m1)) (st.length + 3) w1 U := by simpa using hw1
    exact h1.agree (Agree.head st [⟨[s, iA U0.params, iA U0.regs, iA U0.code, iA U0.spill, bl], 0, 0⟩, ⟨[.sc (.slice none 0 0), iA 0, iA 0, iA 0, iA 0, .sc (.slice none 0 0)], 0, 0⟩, ⟨[.sc (.slice none 0 0), iA 0, iA 0, iA 0, iA 0, .sc (.slice none 0 0)], 0, 0⟩] A m1 M (by rw [hA]; rfl)) (fun b hb _ hx => by simp at hx; omega)
  have hO2 : ∀ A M : St, A.length = 3 → OwnU (st ++ (A ++ ((m1 ++ m2) ++ M))) (st.length + 3) w2 U := fun A M hA => by
    have h2 : OwnU (st ++ (([⟨[s, iA U0.params, iA U0.regs, iA U0.code, iA U0.spill, bl], 0, 0⟩, ⟨[.sc (.slice none 0 0), iA 0, iA 0, iA 0, iA 0, .sc (.slice none 0 0)], 0, 0⟩, ⟨[.sc (.slice none 0 0), iA 0, iA 0, iA 0, iA 0, .sc (.slice none 0 0)], 0, 0⟩] : St) ++ (m1 ++ m2))) (st.length + 3) w2 U := by
      have := hw2.low (lo' := st.length + 3) (by simp)
      simpa using this
    exact h2.agree (Agree.head st [⟨[s, iA U0.params, iA U0.regs, iA U0.code, iA U0.spill, bl], 0, 0⟩, ⟨[.sc (.slice none 0 0), iA 0, iA 0, iA 0, iA 0, .sc (.slice none 0 0)], 0, 0⟩, ⟨[.sc (.slice none 0 0), iA 0, iA 0, iA 0, iA 0, .sc (.slice none 0 0)], 0, 0⟩] A (m1 ++ m2) M (by rw [hA]; rfl)) (fun b hb _ hx => by simp at hx; omega)
  have hP1 : ∀ A M : St, A.length = 3 → CAt (st ++ (A ++ ((m1 ++ (m2 ++ n1)) ++ M))) p1 P := fun A M hA => by
    have h2 : OwnS (st ++ (([⟨[s, iA U0.params, iA U0.regs, iA U0.code, iA U0.spill, bl], 0, 0⟩, ⟨[.sc (.slice none 0 0), iA 0, iA 0, iA 0, iA 0, .sc (.slice none 0 0)], 0, 0⟩, ⟨[.sc (.slice none 0 0), iA 0, iA 0, iA 0, iA 0, .sc (.slice none 0 0)], 0, 0⟩] : St) ++ (m1 ++ (m2 ++ n1)))) (st.length + 3) p1 3 (P.map CntV.row) := by
      have := hp1.low (lo' := st.length + 3) (by simp)
      simpa using this
    exact (h2.agree (Agree.head st [⟨[s, iA U0.params, iA U0.regs, iA U0.code, iA U0.spill, bl], 0, 0⟩, ⟨[.sc (.slice none 0 0), iA 0, iA 0, iA 0, iA 0, .sc (.slice none 0 0)], 0, 0⟩, ⟨[.sc (.slice none 0 0), iA 0, iA 0, iA 0, iA 0, .sc (.slice none 0 0)], 0, 0⟩] A (m1 ++ (m2 ++ n1)) M (by rw [hA]; rfl)) (fun b hb hx => by have := (h2.bnd b hb).1; simp at hx; omega)).cat
  have hpl1 := hp1.arr.len
  simp only [List.length_map] at hpl1
  obtain ⟨sz1, bl1, f1, rfl, hz1, hb1⟩ := hw1.ex
  obtain ⟨sz2, bl2, f2, rfl, hz2, hb2⟩ := hw2.ex
  have hszc1 := isCell_len hz1.own.arr.len
  have hblc1 := isCell_len hb1.own.arr.len
  have hbl1 := hb1.own.arr.len
  rw [blkRows_length] at hbl1
  have hszc2 := isCell_len hz2.own.arr.len
  have hblc2 := isCell_len hb2.own.arr.len
  clear hz1 hb1 hz2 hb2 hw1 hw2 hp1
  simp only [hszc1, hblc1, hszc2, hblc2, kB, kZ, kD, fillA, partsEv, zeroes, Nat.reduceSub, Int.reduceToNat, Nat.reduceMul, asInt?, asNat?, Int.reduceAdd, Int.reduceLE, Int.reduceLT, Int.reduceNeg, Nat.reduceLeDiff, VOpd.ev, Nat.reduceEqDiff, Nat.reduceAdd, reduceIte, reduceCtorEq, splice, resOf, tupOf, cellsV, AV.toV, AV.cell?, cellVal]
  refine callO_prof (hR _) ?_
  intro p2 n2 hp2
  have hu2 : UAt (st ++ (⟨[s, iA U0.params, iA U0.regs, iA U0.code, iA U0.spill, bl], 0, 0⟩ :: ⟨[sz1, iA U.params, iA U.regs, iA U.code, iA U.spill, bl1], 0, 1⟩ :: ⟨[sz2, iA U.params, iA U.regs, iA U.code, iA U.spill, bl2], 0, 1⟩ :: (m1 ++ (m2 ++ (n1 ++ (⟨[.sc (.slice none 0 0), iA 0, iA 0, iA 0, iA 0, .sc (.slice none 0 0)], 0, 0⟩ :: n2)))))) (.agg [sz2, iA U.params, iA U.regs, iA U.code, iA U.spill, bl2]) U := by simpa using (hO2 [⟨[s, iA U0.params, iA U0.regs, iA U0.code, iA U0.spill, bl], 0, 0⟩, ⟨[sz1, iA U.params, iA U.regs, iA U.code, iA U.spill, bl1], 0, 1⟩, ⟨[sz2, iA U.params, iA U.regs, iA U.code, iA U.spill, bl2], 0, 1⟩] (n1 ++ (⟨[.sc (.slice none 0 0), iA 0, iA 0, iA 0, iA 0, .sc (.slice none 0 0)], 0, 0⟩ :: n2)) rfl).uat
  have hc2 : CAt (st ++ (⟨[s, iA U0.params, iA U0.regs, iA U0.code, iA U0.spill, bl], 0, 0⟩ :: ⟨[sz1, iA U.params, iA U.regs, iA U.code, iA U.spill, bl1], 0, 1⟩ :: ⟨[sz2, iA U.params, iA U.regs, iA U.code, iA U.spill, bl2], 0, 1⟩ :: (m1 ++ (m2 ++ (n1 ++ (⟨[.sc (.slice none 0 0), iA 0, iA 0, iA 0, iA 0, .sc (.slice none 0 0)], 0, 0⟩ :: n2)))))) p2 P := by simpa using hp2.cat
  obtain ⟨_, _, hu2⟩ := hu2
  obtain ⟨_, _, hc2⟩ := hc2
  clear hp2
  simp only [kB, kZ, kD, fillA, partsEv, zeroes, Nat.reduceSub, Int.reduceToNat, Nat.reduceMul, asInt?, asNat?, Int.reduceAdd, Int.reduceLE, Int.reduceLT, Int.reduceNeg, Nat.reduceLeDiff, VOpd.ev, Nat.reduceEqDiff, Nat.reduceAdd, reduceIte, reduceCtorEq, splice, resOf, tupOf, cellsV, AV.toV, AV.cell?, cellVal]
  refine callO_newU3 (w_trace_Follow h (hg.app _) hu2 hc2 b size) ?_
  intro w3 m3 hw3
  obtain ⟨sz3, bl3, f3, rfl, hz3, hb3⟩ := hw3.ex
  have hszc3 := isCell_len hz3.own.arr.len
  have hblc3 := isCell_len hb3.own.arr.len
  have hO3 : ∀ M : St, OwnU (st ++ (⟨[s, iA U0.params, iA U0.regs, iA U0.code, iA U0.spill, bl], 0, 0⟩ :: ⟨[sz1, iA U.params, iA U.regs, iA U.code, iA U.spill, bl1], 0, 1⟩ :: ⟨[sz2, iA U.params, iA U.regs, iA U.code, iA U.spill, bl2], 0, 1⟩ :: (m1 ++ (m2 ++ (n1 ++ (⟨[sz3, iA (followU U P b size).1.params, iA (followU U P b size).1.regs, iA (followU U P b size).1.code, iA (followU U P b size).1.spill, bl3], 0, 1⟩ :: (n2 ++ (m3 ++ M)))))))) (st.length + 3) (.agg [sz3, iA (followU U P b size).1.params, iA (followU U P b size).1.regs, iA (followU U P b size).1.code, iA (followU U P b size).1.spill, bl3]) (followU U P b size).1 := fun M => by
    have hag : Agree (fun n => n = st.length + (m1.length + (m2.length + n1.length) + 1 + 1 + 1)) (st ++ (⟨[s, iA U0.params, iA U0.regs, iA U0.code, iA U0.spill, bl], 0, 0⟩ :: ⟨[sz1, iA U.params, iA U.regs, iA U.code, iA U.spill, bl1], 0, 1⟩ :: ⟨[sz2, iA U.params, iA U.regs, iA U.code, iA U.spill, bl2], 0, 1⟩ :: (m1 ++ (m2 ++ (n1 ++ (⟨[.sc (.slice none 0 0), iA 0, iA 0, iA 0, iA 0, .sc (.slice none 0 0)], 0, 0⟩ :: n2))))) ++ m3) (st ++ (⟨[s, iA U0.params, iA U0.regs, iA U0.code, iA U0.spill, bl], 0, 0⟩ :: ⟨[sz1, iA U.params, iA U.regs, iA U.code, iA U.spill, bl1], 0, 1⟩ :: ⟨[sz2, iA U.params, iA U.regs, iA U.code, iA U.spill, bl2], 0, 1⟩ :: (m1 ++ (m2 ++ (n1 ++ (⟨[sz3, iA (followU U P b size).1.params, iA (followU U P b size).1.regs, iA (followU U P b size).1.code, iA (followU U P b size).1.spill, bl3], 0, 1⟩ :: (n2 ++ m3))))))) := by
      have a := Agree.swap st (⟨[s, iA U0.params, iA U0.regs, iA U0.code, iA U0.spill, bl], 0, 0⟩ :: ⟨[sz1, iA U.params, iA U.regs, iA U.code, iA U.spill, bl1], 0, 1⟩ :: ⟨[sz2, iA U.params, iA U.regs, iA U.code, iA U.spill, bl2], 0, 1⟩ :: (m1 ++ (m2 ++ n1))) ⟨[.sc (.slice none 0 0), iA 0, iA 0, iA 0, iA 0, .sc (.slice none 0 0)], 0, 0⟩ ⟨[sz3, iA (followU U P b size).1.params, iA (followU U P b size).1.regs, iA (followU U P b size).1.code, iA (followU U P b size).1.spill, bl3], 0, 1⟩ (n2 ++ m3)
      simpa using a
    have h3 := hw3.agree hag (fun b hb _ hx => by simp at hb; omega)
    have h4 := (h3.low (lo' := st.length + 3) (by simp)).agree (Agree.app (fun _ => False) _ M) (fun _ _ _ h => h)
    simpa using h4
  clear hz3 hb3 hw3 hu2 hc2
  simp only [hszc3, hblc3, hpl1, hbl1, kB, kZ, kD, fillA, partsEv, zeroes, Nat.reduceSub, Int.reduceToNat, Nat.reduceMul, asInt?, asNat?, Int.reduceAdd, Int.reduceLE, Int.reduceLT, Int.reduceNeg, Nat.reduceLeDiff, VOpd.ev, Nat.reduceEqDiff, Nat.reduceAdd, reduceIte, reduceCtorEq, splice, resOf, tupOf, cellsV, AV.toV, AV.cell?, cellVal]
  refine callO_same (j_l17_there h.toOn (by simpa using (hO1 [_, _, _] _ rfl).unit) _ b) ?_
  have hwu : thereU U (decide ((P.length : Int) = U.blocks.length)) b = withU U P b := rfl
  rw [hwu]
  simp only [hszc1, hblc1, kB, kZ, kD, fillA, partsEv, zeroes, Nat.reduceSub, Int.reduceToNat, Nat.reduceMul, asInt?, asNat?, Int.reduceAdd, Int.reduceLE, Int.reduceLT, Int.reduceNeg, Nat.reduceLeDiff, VOpd.ev, Nat.reduceEqDiff, Nat.reduceAdd, reduceIte, reduceCtorEq, splice, resOf, tupOf, cellsV, AV.toV, AV.cell?, cellVal]
  have hF := followU_cases U P b size
  refine anyCond m0 (fun e S => CutG st S e (st.length + (m1.length + (m2.length + n1.length) + 1 + 1 + 1)) (st.length + (m1.length + (m2.length + (n1.length + (n2.length + m3.length + 1))) + 1 + 1 + 1)) U (followU U P b size).1 (followU U P b size).2.1 (followU U P b size).2.2 sz1 bl1 sz2 bl2 sz3 bl3) ?_ ?_
  · refine condO_intro ?_ ?_ <;> intro hc
    · have hw0 : withU U P b = 0 := of_decide_eq_true hc
      obtain ⟨wf, hPN, x, hx, rfl⟩ := with_zero hw0
      have hEU : followU U P x size = followFR U P x size := by
        unfold followU
        rw [if_neg (by rw [hw0]; simp), Int.toNat_natCast]
      have hv0 : UAt (st ++ (⟨[s, iA U0.params, iA U0.regs, iA U0.code, iA U0.spill, bl], 0, 0⟩ :: ⟨[sz1, iA U.params, iA U.regs, iA U.code, iA U.spill, bl1], 0, 1⟩ :: ⟨[sz2, iA U.params, iA U.regs, iA U.code, iA U.spill, bl2], 0, 1⟩ :: m1) : St) (.agg [sz1, iA U.params, iA U.regs, iA U.code, iA U.spill, bl1]) U := by simpa using (hO1 [⟨[s, iA U0.params, iA U0.regs, iA U0.code, iA U0.spill, bl], 0, 0⟩, ⟨[sz1, iA U.params, iA U.regs, iA U.code, iA U.spill, bl1], 0, 1⟩, ⟨[sz2, iA U.params, iA U.regs, iA U.code, iA U.spill, bl2], 0, 1⟩] [] rfl).uat
      obtain ⟨_, _, hv0⟩ := hv0
      have hp5 : CAt (st ++ (⟨[s, iA U0.params, iA U0.regs, iA U0.code, iA U0.spill, bl], 0, 0⟩ :: ⟨[sz1, iA U.params, iA U.regs, iA U.code, iA U.spill, bl1], 0, 1⟩ :: ⟨[sz2, iA U.params, iA U.regs, iA U.code, iA U.spill, bl2], 0, 1⟩ :: (m1 ++ (m2 ++ (n1 ++ (⟨[sz3, iA (followU U P x size).1.params, iA (followU U P x size).1.regs, iA (followU U P x size).1.code, iA (followU U P x size).1.spill, bl3], 0, 1⟩ :: (n2 ++ (m3 ++ [⟨[.sc (.slice none 0 0), iA 0, iA 0, iA 0, iA 0, .sc (.slice none 0 0)], 0, 1⟩]))))))) : St) p1 P := by simpa using hP1 [⟨[s, iA U0.params, iA U0.regs, iA U0.code, iA U0.spill, bl], 0, 0⟩, ⟨[sz1, iA U.params, iA U.regs, iA U.code, iA U.spill, bl1], 0, 1⟩, ⟨[sz2, iA U.params, iA U.regs, iA U.code, iA U.spill, bl2], 0, 1⟩] (⟨[sz3, iA (followU U P x size).1.params, iA (followU U P x size).1.regs, iA (followU U P x size).1.code, iA (followU U P x size).1.spill, bl3], 0, 1⟩ :: (n2 ++ (m3 ++ [⟨[.sc (.slice none 0 0), iA 0, iA 0, iA 0, iA 0, .sc (.slice none 0 0)], 0, 1⟩]))) rfl
      obtain ⟨_, _, hp5⟩ := hp5
      have hr := w_r17_Follow (st := (st ++ (⟨[s, iA U0.params, iA U0.regs, iA U0.code, iA U0.spill, bl], 0, 0⟩ :: ⟨[sz1, iA U.params, iA U.regs, iA U.code, iA U.spill, bl1], 0, 1⟩ :: ⟨[sz2, iA U.params, iA U.regs, iA U.code, iA U.spill, bl2], 0, 1⟩ :: (m1 ++ (m2 ++ (n1 ++ (⟨[sz3, iA (followU U P x size).1.params, iA (followU U P x size).1.regs, iA (followU U P x size).1.code, iA (followU U P x size).1.spill, bl3], 0, 1⟩ :: (n2 ++ (m3 ++ [⟨[.sc (.slice none 0 0), iA 0, iA 0, iA 0, iA 0, .sc (.slice none 0 0)], 0, 1⟩]))))))) : St)) h.toOn (st0 := (st ++ (⟨[s, iA U0.params, iA U0.regs, iA U0.code, iA U0.spill, bl], 0, 0⟩ :: ⟨[sz1, iA U.params, iA U.regs, iA U.code, iA U.spill, bl1], 0, 1⟩ :: ⟨[sz2, iA U.params, iA U.regs, iA U.code, iA U.spill, bl2], 0, 1⟩ :: m1) : St)) (N0 := m2 ++ (n1 ++ (⟨[sz3, iA (followU U P x size).1.params, iA (followU U P x size).1.regs, iA (followU U P x size).1.code, iA (followU U P x size).1.spill, bl3], 0, 1⟩ :: (n2 ++ (m3 ++ [⟨[.sc (.slice none 0 0), iA 0, iA 0, iA 0, iA 0, .sc (.slice none 0 0)], 0, 1⟩]))))) (by simp) hv0 hp5 wf hPN x hx size
      rw [← hEU] at hr
      simp only [hw0, kB, kZ, kD, fillA, partsEv, zeroes, Nat.reduceSub, Int.reduceToNat, Nat.reduceMul, asInt?, asNat?, Int.reduceAdd, Int.reduceLE, Int.reduceLT, Int.reduceNeg, Nat.reduceLeDiff, VOpd.ev, Nat.reduceEqDiff, Nat.reduceAdd, reduceIte, reduceCtorEq, splice, resOf, tupOf, cellsV, AV.toV, AV.cell?, cellVal]
      refine wpF.mono hr ?_
      rintro r s' ⟨w4, rfl, ⟨m6, rfl⟩, hcl4⟩
      refine ⟨kept_app _ _ _ _, ?_⟩
      clear hr hp5 hEU
      generalize followU U P x size = E at *
      obtain ⟨sz4, bl4, rfl, c1, c2⟩ := UAt.cells (hcl4 _ (Agree.refl _ _))
      have hag : Agree (fun n => n = (st.length + (m1.length + (m2.length + (n1.length + (n2.length + m3.length + 1))) + 1 + 1 + 1))) (st ++ (⟨[s, iA U0.params, iA U0.regs, iA U0.code, iA U0.spill, bl], 0, 0⟩ :: ⟨[sz1, iA U.params, iA U.regs, iA U.code, iA U.spill, bl1], 0, 1⟩ :: ⟨[sz2, iA U.params, iA U.regs, iA U.code, iA U.spill, bl2], 0, 1⟩ :: (m1 ++ (m2 ++ (n1 ++ (⟨[sz3, iA E.1.params, iA E.1.regs, iA E.1.code, iA E.1.spill, bl3], 0, 1⟩ :: (n2 ++ (m3 ++ [⟨[.sc (.slice none 0 0), iA 0, iA 0, iA 0, iA 0, .sc (.slice none 0 0)], 0, 1⟩]))))))) ++ m6) (st ++ (⟨[s, iA U0.params, iA U0.regs, iA U0.code, iA U0.spill, bl], 0, 0⟩ :: ⟨[sz1, iA U.params, iA U.regs, iA U.code, iA U.spill, bl1], 0, 1⟩ :: ⟨[sz2, iA U.params, iA U.regs, iA U.code, iA U.spill, bl2], 0, 1⟩ :: (m1 ++ (m2 ++ (n1 ++ (⟨[sz3, iA E.1.params, iA E.1.regs, iA E.1.code, iA E.1.spill, bl3], 0, 1⟩ :: (n2 ++ (m3 ++ (⟨[sz4, iA E.1.params, iA E.1.regs, iA E.1.code, iA E.1.spill, bl4], 0, 2⟩ :: m6))))))))) := by
        have a := Agree.swap st (⟨[s, iA U0.params, iA U0.regs, iA U0.code, iA U0.spill, bl], 0, 0⟩ :: ⟨[sz1, iA U.params, iA U.regs, iA U.code, iA U.spill, bl1], 0, 1⟩ :: ⟨[sz2, iA U.params, iA U.regs, iA U.code, iA U.spill, bl2], 0, 1⟩ :: (m1 ++ (m2 ++ (n1 ++ (⟨[sz3, iA E.1.params, iA E.1.regs, iA E.1.code, iA E.1.spill, bl3], 0, 1⟩ :: (n2 ++ m3)))))) ⟨[.sc (.slice none 0 0), iA 0, iA 0, iA 0, iA 0, .sc (.slice none 0 0)], 0, 1⟩ ⟨[sz4, iA E.1.params, iA E.1.regs, iA E.1.code, iA E.1.spill, bl4], 0, 2⟩ m6
        simpa using a
      have hu4 := hcl4 _ (hag.mono fun n _ hn => by subst hn; simp)
      simp only [c1, c2, kB, kZ, kD, fillA, partsEv, zeroes, Nat.reduceSub, Int.reduceToNat, Nat.reduceMul, asInt?, asNat?, Int.reduceAdd, Int.reduceLE, Int.reduceLT, Int.reduceNeg, Nat.reduceLeDiff, VOpd.ev, Nat.reduceEqDiff, Nat.reduceAdd, reduceIte, reduceCtorEq, splice, resOf, tupOf, cellsV, AV.toV, AV.cell?, cellVal]
      exact {
        ext := ⟨_, rfl⟩
        e9 := by simp only [kB, kZ, kD, fillA, partsEv, zeroes, Nat.reduceSub, Int.reduceToNat, Nat.reduceMul, asInt?, asNat?, Int.reduceAdd, Int.reduceLE, Int.reduceLT, Int.reduceNeg, Nat.reduceLeDiff, VOpd.ev, Nat.reduceEqDiff, Nat.reduceAdd, reduceIte, reduceCtorEq, splice, resOf, tupOf, cellsV, AV.toV, AV.cell?, cellVal]
        e10 := by simp only [kB, kZ, kD, fillA, partsEv, zeroes, Nat.reduceSub, Int.reduceToNat, Nat.reduceMul, asInt?, asNat?, Int.reduceAdd, Int.reduceLE, Int.reduceLT, Int.reduceNeg, Nat.reduceLeDiff, VOpd.ev, Nat.reduceEqDiff, Nat.reduceAdd, reduceIte, reduceCtorEq, splice, resOf, tupOf, cellsV, AV.toV, AV.cell?, cellVal]
        e12 := by simp only [kB, kZ, kD, fillA, partsEv, zeroes, Nat.reduceSub, Int.reduceToNat, Nat.reduceMul, asInt?, asNat?, Int.reduceAdd, Int.reduceLE, Int.reduceLT, Int.reduceNeg, Nat.reduceLeDiff, VOpd.ev, Nat.reduceEqDiff, Nat.reduceAdd, reduceIte, reduceCtorEq, splice, resOf, tupOf, cellsV, AV.toV, AV.cell?, cellVal]
        e15 := by simp only [kB, kZ, kD, fillA, partsEv, zeroes, Nat.reduceSub, Int.reduceToNat, Nat.reduceMul, asInt?, asNat?, Int.reduceAdd, Int.reduceLE, Int.reduceLT, Int.reduceNeg, Nat.reduceLeDiff, VOpd.ev, Nat.reduceEqDiff, Nat.reduceAdd, reduceIte, reduceCtorEq, splice, resOf, tupOf, cellsV, AV.toV, AV.cell?, cellVal]
        e13 := by simp only [kB, kZ, kD, fillA, partsEv, zeroes, Nat.reduceSub, Int.reduceToNat, Nat.reduceMul, asInt?, asNat?, Int.reduceAdd, Int.reduceLE, Int.reduceLT, Int.reduceNeg, Nat.reduceLeDiff, VOpd.ev, Nat.reduceEqDiff, Nat.reduceAdd, reduceIte, reduceCtorEq, splice, resOf, tupOf, cellsV, AV.toV, AV.cell?, cellVal]
        e16 := by simp only [kB, kZ, kD, fillA, partsEv, zeroes, Nat.reduceSub, Int.reduceToNat, Nat.reduceMul, asInt?, asNat?, Int.reduceAdd, Int.reduceLE, Int.reduceLT, Int.reduceNeg, Nat.reduceLeDiff, VOpd.ev, Nat.reduceEqDiff, Nat.reduceAdd, reduceIte, reduceCtorEq, splice, resOf, tupOf, cellsV, AV.toV, AV.cell?, cellVal]
        e14 := by simp only [kB, kZ, kD, fillA, partsEv, zeroes, Nat.reduceSub, Int.reduceToNat, Nat.reduceMul, asInt?, asNat?, Int.reduceAdd, Int.reduceLE, Int.reduceLT, Int.reduceNeg, Nat.reduceLeDiff, VOpd.ev, Nat.reduceEqDiff, Nat.reduceAdd, reduceIte, reduceCtorEq, splice, resOf, tupOf, cellsV, AV.toV, AV.cell?, cellVal]
        e17 := by simp only [kB, kZ, kD, fillA, partsEv, zeroes, Nat.reduceSub, Int.reduceToNat, Nat.reduceMul, asInt?, asNat?, Int.reduceAdd, Int.reduceLE, Int.reduceLT, Int.reduceNeg, Nat.reduceLeDiff, VOpd.ev, Nat.reduceEqDiff, Nat.reduceAdd, reduceIte, reduceCtorEq, splice, resOf, tupOf, cellsV, AV.toV, AV.cell?, cellVal]
        d9 := by simp only [kB, kZ, kD, fillA, partsEv, zeroes, Nat.reduceSub, Int.reduceToNat, Nat.reduceMul, asInt?, asNat?, Int.reduceAdd, Int.reduceLE, Int.reduceLT, Int.reduceNeg, Nat.reduceLeDiff, VOpd.ev, Nat.reduceEqDiff, Nat.reduceAdd, reduceIte, reduceCtorEq, splice, resOf, tupOf, cellsV, AV.toV, AV.cell?, cellVal]
        d10 := by simp only [kB, kZ, kD, fillA, partsEv, zeroes, Nat.reduceSub, Int.reduceToNat, Nat.reduceMul, asInt?, asNat?, Int.reduceAdd, Int.reduceLE, Int.reduceLT, Int.reduceNeg, Nat.reduceLeDiff, VOpd.ev, Nat.reduceEqDiff, Nat.reduceAdd, reduceIte, reduceCtorEq, splice, resOf, tupOf, cellsV, AV.toV, AV.cell?, cellVal]
        d12 := by simp only [kB, kZ, kD, fillA, partsEv, zeroes, Nat.reduceSub, Int.reduceToNat, Nat.reduceMul, asInt?, asNat?, Int.reduceAdd, Int.reduceLE, Int.reduceLT, Int.reduceNeg, Nat.reduceLeDiff, VOpd.ev, Nat.reduceEqDiff, Nat.reduceAdd, reduceIte, reduceCtorEq, splice, resOf, tupOf, cellsV, AV.toV, AV.cell?, cellVal]
        u9 := by simpa using (hO1 [_, _, _] _ rfl).uat
        u10 := by simpa using (hO2 [_, _, _] _ rfl).uat
        u12 := by simpa using (hO3 _).uat
        u15 := ⟨sz4, bl4, by simp only [kB, kZ, kD, fillA, partsEv, zeroes, Nat.reduceSub, Int.reduceToNat, Nat.reduceMul, asInt?, asNat?, Int.reduceAdd, Int.reduceLE, Int.reduceLT, Int.reduceNeg, Nat.reduceLeDiff, VOpd.ev, Nat.reduceEqDiff, Nat.reduceAdd, reduceIte, reduceCtorEq, splice, resOf, tupOf, cellsV, AV.toV, AV.cell?, cellVal], hu4⟩ }
    · have hw0 : ¬ withU U P b = 0 := of_decide_eq_false hc
      have hEU : followU U P b size = (zeroU, 0, withU U P b) := by
        unfold followU
        rw [if_pos (decide_eq_true hw0)]
      rw [hEU] at hO3 ⊢
      simp only [kB, kZ, kD, fillA, partsEv, zeroes, Nat.reduceSub, Int.reduceToNat, Nat.reduceMul, asInt?, asNat?, Int.reduceAdd, Int.reduceLE, Int.reduceLT, Int.reduceNeg, Nat.reduceLeDiff, VOpd.ev, Nat.reduceEqDiff, Nat.reduceAdd, reduceIte, reduceCtorEq, splice, resOf, tupOf, cellsV, AV.toV, AV.cell?, cellVal]
      exact {
        ext := ⟨_, rfl⟩
        e9 := by simp only [kB, kZ, kD, fillA, partsEv, zeroes, Nat.reduceSub, Int.reduceToNat, Nat.reduceMul, asInt?, asNat?, Int.reduceAdd, Int.reduceLE, Int.reduceLT, Int.reduceNeg, Nat.reduceLeDiff, VOpd.ev, Nat.reduceEqDiff, Nat.reduceAdd, reduceIte, reduceCtorEq, splice, resOf, tupOf, cellsV, AV.toV, AV.cell?, cellVal]
        e10 := by simp only [kB, kZ, kD, fillA, partsEv, zeroes, Nat.reduceSub, Int.reduceToNat, Nat.reduceMul, asInt?, asNat?, Int.reduceAdd, Int.reduceLE, Int.reduceLT, Int.reduceNeg, Nat.reduceLeDiff, VOpd.ev, Nat.reduceEqDiff, Nat.reduceAdd, reduceIte, reduceCtorEq, splice, resOf, tupOf, cellsV, AV.toV, AV.cell?, cellVal]
        e12 := by simp only [kB, kZ, kD, fillA, partsEv, zeroes, Nat.reduceSub, Int.reduceToNat, Nat.reduceMul, asInt?, asNat?, Int.reduceAdd, Int.reduceLE, Int.reduceLT, Int.reduceNeg, Nat.reduceLeDiff, VOpd.ev, Nat.reduceEqDiff, Nat.reduceAdd, reduceIte, reduceCtorEq, splice, resOf, tupOf, cellsV, AV.toV, AV.cell?, cellVal]
        e15 := by simp only [kB, kZ, kD, fillA, partsEv, zeroes, Nat.reduceSub, Int.reduceToNat, Nat.reduceMul, asInt?, asNat?, Int.reduceAdd, Int.reduceLE, Int.reduceLT, Int.reduceNeg, Nat.reduceLeDiff, VOpd.ev, Nat.reduceEqDiff, Nat.reduceAdd, reduceIte, reduceCtorEq, splice, resOf, tupOf, cellsV, AV.toV, AV.cell?, cellVal]
        e13 := by simp only [kB, kZ, kD, fillA, partsEv, zeroes, Nat.reduceSub, Int.reduceToNat, Nat.reduceMul, asInt?, asNat?, Int.reduceAdd, Int.reduceLE, Int.reduceLT, Int.reduceNeg, Nat.reduceLeDiff, VOpd.ev, Nat.reduceEqDiff, Nat.reduceAdd, reduceIte, reduceCtorEq, splice, resOf, tupOf, cellsV, AV.toV, AV.cell?, cellVal]
        e16 := by simp only [kB, kZ, kD, fillA, partsEv, zeroes, Nat.reduceSub, Int.reduceToNat, Nat.reduceMul, asInt?, asNat?, Int.reduceAdd, Int.reduceLE, Int.reduceLT, Int.reduceNeg, Nat.reduceLeDiff, VOpd.ev, Nat.reduceEqDiff, Nat.reduceAdd, reduceIte, reduceCtorEq, splice, resOf, tupOf, cellsV, AV.toV, AV.cell?, cellVal]
        e14 := by simp only [kB, kZ, kD, fillA, partsEv, zeroes, Nat.reduceSub, Int.reduceToNat, Nat.reduceMul, asInt?, asNat?, Int.reduceAdd, Int.reduceLE, Int.reduceLT, Int.reduceNeg, Nat.reduceLeDiff, VOpd.ev, Nat.reduceEqDiff, Nat.reduceAdd, reduceIte, reduceCtorEq, splice, resOf, tupOf, cellsV, AV.toV, AV.cell?, cellVal]
        e17 := by simp only [kB, kZ, kD, fillA, partsEv, zeroes, Nat.reduceSub, Int.reduceToNat, Nat.reduceMul, asInt?, asNat?, Int.reduceAdd, Int.reduceLE, Int.reduceLT, Int.reduceNeg, Nat.reduceLeDiff, VOpd.ev, Nat.reduceEqDiff, Nat.reduceAdd, reduceIte, reduceCtorEq, splice, resOf, tupOf, cellsV, AV.toV, AV.cell?, cellVal]
        d9 := by simp only [kB, kZ, kD, fillA, partsEv, zeroes, Nat.reduceSub, Int.reduceToNat, Nat.reduceMul, asInt?, asNat?, Int.reduceAdd, Int.reduceLE, Int.reduceLT, Int.reduceNeg, Nat.reduceLeDiff, VOpd.ev, Nat.reduceEqDiff, Nat.reduceAdd, reduceIte, reduceCtorEq, splice, resOf, tupOf, cellsV, AV.toV, AV.cell?, cellVal]
        d10 := by simp only [kB, kZ, kD, fillA, partsEv, zeroes, Nat.reduceSub, Int.reduceToNat, Nat.reduceMul, asInt?, asNat?, Int.reduceAdd, Int.reduceLE, Int.reduceLT, Int.reduceNeg, Nat.reduceLeDiff, VOpd.ev, Nat.reduceEqDiff, Nat.reduceAdd, reduceIte, reduceCtorEq, splice, resOf, tupOf, cellsV, AV.toV, AV.cell?, cellVal]
        d12 := by simp only [kB, kZ, kD, fillA, partsEv, zeroes, Nat.reduceSub, Int.reduceToNat, Nat.reduceMul, asInt?, asNat?, Int.reduceAdd, Int.reduceLE, Int.reduceLT, Int.reduceNeg, Nat.reduceLeDiff, VOpd.ev, Nat.reduceEqDiff, Nat.reduceAdd, reduceIte, reduceCtorEq, splice, resOf, tupOf, cellsV, AV.toV, AV.cell?, cellVal]
        u9 := by simpa using (hO1 [_, _, _] _ rfl).uat
        u10 := by simpa using (hO2 [_, _, _] _ rfl).uat
        u12 := by simpa using (hO3 _).uat
        u15 := ⟨.sc (.slice none 0 0), .sc (.slice none 0 0), by simp only [kB, kZ, kD, fillA, partsEv, zeroes, Nat.reduceSub, Int.reduceToNat, Nat.reduceMul, asInt?, asNat?, Int.reduceAdd, Int.reduceLE, Int.reduceLT, Int.reduceNeg, Nat.reduceLeDiff, VOpd.ev, Nat.reduceEqDiff, Nat.reduceAdd, reduceIte, reduceCtorEq, splice, resOf, tupOf, cellsV, AV.toV, AV.cell?, cellVal]; rfl, (own_zero _ 0).uat⟩ }
  clear hO1 hO2 hO3 hP1 hszc3 hblc3
  generalize followU U P b size = F at *
  generalize (st.length + (m1.length + (m2.length + n1.length) + 1 + 1 + 1)) = P12 at *
  generalize (st.length + (m1.length + (m2.length + (n1.length + (n2.length + m3.length + 1))) + 1 + 1 + 1)) = P15 at *
  rintro e S ⟨⟨mS, hS⟩, e9, e10, e12, e15, e13, e16, e14, e17, d9, d10, d12, ⟨_, _, u9⟩, ⟨_, _, u10⟩, ⟨_, _, u12⟩, ⟨sz4, bl4, d15, _, _, u15⟩⟩
  have hgS : GB S := by rw [hS]; exact hg.app _
  have hUU : decide (U = U) = true := decide_eq_true rfl
  have hcc : decide (F.2.1 = F.2.1) = true := decide_eq_true rfl
  simp only [e12, e13, e14, e15, e16, e17, d12, d15, kB, kZ, kD, fillA, partsEv, zeroes, Nat.reduceSub, Int.reduceToNat, Nat.reduceMul, asInt?, asNat?, Int.reduceAdd, Int.reduceLE, Int.reduceLT, Int.reduceNeg, Nat.reduceLeDiff, VOpd.ev, Nat.reduceEqDiff, Nat.reduceAdd, reduceIte, reduceCtorEq, splice, resOf, tupOf, cellsV, AV.toV, AV.cell?, cellVal]
  refine callO_same (j_l17_same h.toOn u12 u15 F.2.2 hF) ?_
  simp only [e9, e10, e13, e16, d9, d10, hcc, kB, kZ, kD, fillA, partsEv, zeroes, Nat.reduceSub, Int.reduceToNat, Nat.reduceMul, asInt?, asNat?, Int.reduceAdd, Int.reduceLE, Int.reduceLT, Int.reduceNeg, Nat.reduceLeDiff, VOpd.ev, Nat.reduceEqDiff, Nat.reduceAdd, reduceIte, reduceCtorEq, splice, resOf, tupOf, cellsV, AV.toV, AV.cell?, cellVal]
  refine callO_same (j_r07_Same h.toOn u9 u10 hfit) ?_
  simp only [hUU, kB, kZ, kD, fillA, partsEv, zeroes, Nat.reduceSub, Int.reduceToNat, Nat.reduceMul, asInt?, asNat?, Int.reduceAdd, Int.reduceLE, Int.reduceLT, Int.reduceNeg, Nat.reduceLeDiff, VOpd.ev, Nat.reduceEqDiff, Nat.reduceAdd, reduceIte, reduceCtorEq, splice, resOf, tupOf, cellsV, AV.toV, AV.cell?, cellVal]
  refine callO_same (.hook (h.alive _ hgS)) ?_
  simp only [kB, kZ, kD, fillA, partsEv, zeroes, Nat.reduceSub, Int.reduceToNat, Nat.reduceMul, asInt?, asNat?, Int.reduceAdd, Int.reduceLE, Int.reduceLT, Int.reduceNeg, Nat.reduceLeDiff, VOpd.ev, Nat.reduceEqDiff, Nat.reduceAdd, reduceIte, reduceCtorEq, splice, resOf, tupOf, cellsV, AV.toV, AV.cell?, cellVal]
  exact ⟨mS, hS⟩
end
end Go.VX.Seat
end
