/- A part of the proofs of the statements of one layer: ST2, S25n, S30n, T1, T2. No condition is added here. -/
import Derived.Lib.Bytealg
import Derived.Test.YtcemloapifojkaaGreatDoorXC13
set_option linter.unusedVariables false
set_option linter.unusedSimpArgs false
section
set_option maxRecDepth 4000
namespace Go.VX.Seat
open Go.Proofs
section
variable {X : Cx} {st : St}
theorem k_len (h : On X) (l : List UInt8) : closed X.P (builtin .len [9].toArray 3 #[] [Value.string ⟨l.toArray⟩].toArray) = some (Next.value (.int .i64 (l.length : Int))):=by
  rw [h.P]; exact c_slen s9 _
theorem k_idx (h : On X) (l : List UInt8) (i : Nat) (hi : i < l.length) : closed X.P (Instr.index 9 (.string ⟨l.toArray⟩) (.int .i64 (i : Int))) = some (.int .u8 ((l[i]).toNat : Int)):=by
  rw [h.P]; exact c_sidx s9 (sB l) .i64 i hi
theorem k_sl0 (h : On X) (l : List UInt8) (b : Nat) (h2 : b≤l.length) : closed X.P (Instr.sliceAt 9 (.string ⟨l.toArray⟩) none (some (.int .i64 (b : Int))) none) = some (.string ⟨(l.take b).toArray⟩):=by
  rw [h.P,c_ssl0 s9 (sB l) b h2,sB_ext]
  rfl
theorem k_sl1 (h : On X) (l : List UInt8) (a : Nat) (h1 : a≤l.length) : closed X.P (Instr.sliceAt 9 (.string ⟨l.toArray⟩) (some (.int .i64 (a : Int))) none none) = some (.string ⟨(l.drop a).toArray⟩):=by
  rw [h.P,c_ssl1 s9 (sB l) a h1,sB_ext,sB_size,List.take_length]
theorem k_add (P : Program) (ox oy : Operand) (a b : List UInt8) (hl : a.length + b.length≤1000000000) : closed P (do eqGuard .add 9 ox oy (.string ⟨a.toArray⟩) (.string ⟨b.toArray⟩); binOp .add 9 (.string ⟨a.toArray⟩) (.string ⟨b.toArray⟩)) = some (.string ⟨(a++b).toArray⟩):=by
  rw [c_sadd (sB a) (sB b) (by rw [sB_size,sB_size]; omega),sB_add]
theorem k_eq (P : Program) (ox oy : Operand) (a b : List UInt8) : closed P (do eqGuard .eql 9 ox oy (.string ⟨a.toArray⟩) (.string ⟨b.toArray⟩); binOp .eql 9 (.string ⟨a.toArray⟩) (.string ⟨b.toArray⟩)) = some (.bool (decide (a = b))):=by
  rw [c_seq (sB a) (sB b)]
  congr 2
  exact decide_eq_decide.2 (sB_eq a b)
theorem k_ne (P : Program) (ox oy : Operand) (a b : List UInt8) : closed P (do eqGuard .neq 9 ox oy (.string ⟨a.toArray⟩) (.string ⟨b.toArray⟩); binOp .neq 9 (.string ⟨a.toArray⟩) (.string ⟨b.toArray⟩)) = some (.bool (decide (a≠b))):=by
  rw [c_sne (sB a) (sB b)]
  congr 2
  exact decide_eq_decide.2 (not_congr (sB_eq a b))
theorem sB_get (l : List UInt8) (i : Nat) (hi : i < l.length) : (sB l)[i]! = l[i]:=getElem!_pos (sB l) i hi
theorem j_CountByte (h : OnH X) (l : List UInt8) (c : UInt8) : J X.P X.F X.H (.call 125 [sA l,.sc (.int .u8 (c.toNat : Int))] st (.ret (iA (l.count c : Int))) st):=by
  refine .hook (h.told _ _ _ _ _ (.inr (.inr (.inl ⟨_,[.string ⟨l.toArray⟩,.int .u8 (c.toNat : Int)],.int .i64 (l.count c : Int),rfl,rfl,?_,rfl,rfl,rfl⟩))))
  have hc : ((c.toNat : Int)).toNat.toUInt8 = c:=by simp
  show closed _ (pure (goInt ((sB l).foldl (fun (n : Int) x=>if x == ((c.toNat : Int)).toNat.toUInt8 then n + 1 else n) ((0 : Nat) : Int)))) = _
  rw [hc,Lib.foldl_data,Lib.count_foldl]
  show some (Value.int .i64 (((0 : Nat) : Int) + (Lib.countByte l c : Nat))) = _
  unfold Lib.countByte
  congr 2
  omega
theorem j_IndexByte (h : OnH X) (a b : List UInt8) (c : UInt8) (ha : c ∉ a) : J X.P X.F X.H (.call 144 [sA (a++c :: b),.sc (.int .u8 (c.toNat : Int))] st (.ret (iA (a.length : Int))) st):=by
  refine .hook (h.told _ _ _ _ _ (.inr (.inr (.inl ⟨_,[.string ⟨(a++c :: b).toArray⟩,.int .u8 (c.toNat : Int)],.int .i64 (a.length : Int),rfl,rfl,?_,rfl,rfl,rfl⟩))))
  have hc : ((c.toNat : Int)).toNat.toUInt8 = c:=by simp
  show closed _ (match (List.range (sB (a++c :: b)).size).find? fun i=>(sB (a++c :: b))[i]! == ((c.toNat : Int)).toNat.toUInt8 with | some i=>pure (goInt i) | none=>pure (goInt (-1))) = _
  have hf : ((List.range (sB (a++c :: b)).size).find? fun i=>(sB (a++c :: b))[i]! == ((c.toNat : Int)).toNat.toUInt8) = some a.length:=by
    rw [hc,List.find?_range_eq_some]
    refine ⟨?_,?_,fun j hj=>?_⟩
    · rw [sB_get _ _ (by simp)]
      simp
    · rw [List.mem_range,sB_size]; simp
    · rw [sB_get _ _ (by simp; omega),List.getElem_append_left hj]
      have : a[j]≠c:=fun e=>ha (by rw [←e]; exact List.getElem_mem hj)
      simpa using this
  rw [hf]
  rfl
end
end Go.VX.Seat
end
section
set_option maxRecDepth 4000
namespace Go.VX.Seat
open Go.Proofs
theorem opsFind_ne {U : UnitV} {i : Nat} : ∀ {l : List OpV} {k : Nat} {x : Int × Int × Int},opsFind U i k l = some x→x.1≠0
  | [],_,_,h=>by simp [opsFind] at h
  | o :: r,k,x,h=>by
    unfold opsFind at h
    split at h
    · rename_i hd
      cases h
      exact of_decide_eq_true hd
    · exact opsFind_ne h
theorem blkFind_ne {U : UnitV} : ∀ {l : List BlkV} {i : Nat} {x : Int × Int × Int},blkFind U i l = some x→x.1≠0
  | [],_,_,h=>by simp [blkFind] at h
  | b :: r,i,x,h=>by
    unfold blkFind at h
    split at h
    · cases h; simp
    · split at h
      · cases h; simp
      · split at h
        · rename_i y hy
          cases h
          exact opsFind_ne hy
        · split at h
          · rename_i hd
            cases h
            exact of_decide_eq_true hd
          · exact blkFind_ne h
theorem findU_zero {U : UnitV} (h : (findU U).1 = 0) : findU U = (0,0,0):=by
  revert h
  unfold findU
  split
  · intro h; simp at h
  · split
    · intro h; simp at h
    · split
      · intro h; simp at h
      · split
        · rename_i x hx
          intro h
          exact absurd h (blkFind_ne hx)
        · split
          · intro h; simp at h
          · intro _; rfl
theorem faultOf_outF (U : UnitV) : faultOf (outF (findU U)) = some ((findU U).2.1,(findU U).2.2,(findU U).1):=by
  unfold outF
  by_cases h : (findU U).1 = 0
  · rw [findU_zero h]; rfl
  · rw [outC_ne h]
    simp [faultOf]
section
variable {X : Cx} {st : St}
theorem j_code_find (h : OnH X) (hg : GB st) {lo hi : Nat} {v : AV} {U : UnitV} (hv : UnitAt st lo hi v U) :
    J X.P X.F X.H (.call 53 [v] st (.ret (.agg [iA (findU U).2.1,iA (findU U).2.2,iA (findU U).1])) st):=by
  obtain ⟨s,bl,rfl,hs,hb⟩:=hv
  have hh : On (⟨Go.Proofs.Tryz.prog,fnOf,noH⟩ : Cx):=⟨rfl,rfl⟩
  obtain ⟨r,s',j,rfl,m,rfl⟩:=w_code_unit hh (st:=st++([⟨[s,iA U.params,iA U.regs,iA U.code,iA U.spill,bl],0,0⟩,⟨[iA 0,iA 0,iA 0],0,0⟩] : St)) (hg.app _).glob (hs.mono _) (hb.mono _)
  refine .hook (h.told _ _ _ _ _ (htold_find ⟨rfl,_,_,m,_,_,_,rfl,rfl,faultOf_outF U,rfl,rfl,?_⟩))
  simpa using j
theorem j_code_Check (h : OnH X) (hg : GB st) {lo hi : Nat} {v : AV} {U : UnitV} (hv : UnitAt st lo hi v U) :
    J X.P X.F X.H (.call 20 [v] st (.ret (iA (chkU U))) st):=by
  refine pure_intro (by rw [h.F]; rfl) rfl ?_
  have hm:=fun L=>hv.mono L
  obtain ⟨s,bl,rfl,hs,hb⟩:=hv
  simp only [v_code_Check,kB,kZ,kD,kE,Nat.reduceSub,Int.reduceToNat,Nat.reduceMul,Int.reduceAdd,Int.reduceLE,Int.reduceLT,Int.reduceNeg,Nat.reduceLeDiff,Nat.reduceEqDiff,Nat.reduceAdd,reduceIte,reduceCtorEq,splice,resOf,cellVal]
  refine callO_same (j_code_find h (hg.app _) (hm _)) ?_
  simp only [kB,kZ,kD,kE,Nat.reduceSub,Int.reduceToNat,Nat.reduceMul,Int.reduceAdd,Int.reduceLE,Int.reduceLT,Int.reduceNeg,Nat.reduceLeDiff,Nat.reduceEqDiff,Nat.reduceAdd,reduceIte,reduceCtorEq,splice,resOf,cellVal]
  exact ⟨rfl,_,rfl⟩
end
end Go.VX.Seat
end
section
set_option maxRecDepth 4000
namespace Go.VX.Seat
open Go.Proofs
structure BWf (U : UnitV) (b : BlkV) : Prop where
  ops : b.ops.length≤400
  end_ : endErrU U b.e = 0
  op : ∀ o ∈ b.ops,opErrU U o = 0
  catch_ : -1≤b.catch_∧b.catch_ < U.blocks.length
structure Wf (U : UnitV) : Prop where
  sizes : U.sizes.length≤16
  nb : 1≤U.blocks.length∧U.blocks.length≤2000
  regs : 1≤U.regs∧U.regs≤4096
  spill : 0≤U.spill∧U.spill≤4096
  params : 0≤U.params∧U.params≤8∧U.params≤U.regs
  blk : ∀ b ∈ U.blocks,BWf U b
  tot : total U.blocks≤20000
theorem opsFind_none {U : UnitV} {i : Nat} : ∀ {l : List OpV} {k : Nat},opsFind U i k l = none→∀ o ∈ l,opErrU U o = 0
  | [],_,_,o,ho=>by cases ho
  | x :: r,k,h,o,ho=>by
    unfold opsFind at h
    split at h
    · cases h
    · rename_i hd
      rcases List.mem_cons.1 ho with rfl | ho
      · exact Decidable.not_not.1 fun hn=>hd (decide_eq_true hn)
      · exact opsFind_none h o ho
theorem blkFind_none {U : UnitV} : ∀ {l : List BlkV} {i : Nat},blkFind U i l = none→∀ b ∈ l,BWf U b
  | [],_,_,b,hb=>by cases hb
  | x :: r,i,h,b,hb=>by
    unfold blkFind at h
    split at h
    · cases h
    · rename_i h1
      split at h
      · cases h
      · rename_i h2
        split at h
        · cases h
        · rename_i h3
          split at h
          · cases h
          · rename_i h4
            rcases List.mem_cons.1 hb with rfl | hb
            · refine ⟨?_,Decidable.not_not.1 fun hn=>h4 (decide_eq_true hn),opsFind_none h3,?_⟩
              · simp only [decide_eq_true_eq] at h2; omega
              · simp only [Bool.or_eq_true,decide_eq_true_eq] at h1; omega
            · exact blkFind_none h b hb
theorem chk_wf {U : UnitV} (h : chkU U = 0) : Wf U:=by
  unfold chkU findU at h
  split at h
  · simp at h
  · rename_i h1
    split at h
    · simp at h
    · rename_i h2
      split at h
      · simp at h
      · rename_i h3
        simp only [limitsU,headU,Bool.or_eq_true,decide_eq_true_eq] at h1 h3
        split at h
        · rename_i x hx
          exact absurd h (blkFind_ne hx)
        · rename_i hn
          split at h
          · simp at h
          · rename_i h4
            simp only [decide_eq_true_eq] at h4
            exact ⟨by omega,by omega,by omega,by omega,by omega,blkFind_none hn,by omega⟩
end Go.VX.Seat
end
section
set_option maxRecDepth 4000
namespace Go.VX.Seat
open Go.Proofs
theorem _root_.Go.VX.Agree.head (st A A' m M : St) (h : A.length = A'.length) : Agree (fun n=>n < st.length + A.length) (st++(A++m)) (st++(A'++(m++M))) :=
  ⟨by simp; omega,fun b hb hx=>by
    simp at hb
    have e1 : (st++(A++m))[b]? = m[b - st.length - A.length]?:=by
      rw [List.getElem?_append_right (by omega),List.getElem?_append_right (by omega)]
    have e2 : (st++(A'++(m++M)))[b]? = m[b - st.length - A'.length]?:=by
      rw [List.getElem?_append_right (by omega),List.getElem?_append_right (by omega),List.getElem?_append_left (by omega)]
    rw [e1,e2,h]⟩
section
variable {X : Cx} {st : St}
end
end Go.VX.Seat
end
