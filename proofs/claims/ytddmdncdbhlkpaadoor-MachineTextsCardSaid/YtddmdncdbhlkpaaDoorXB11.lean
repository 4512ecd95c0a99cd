/- A part of the proofs of the statements of one layer: ST2, ST3, ST4, ST5, ST6. No condition is added here. -/
import Derived.Lib.Bytealg
import Derived.Test.YtddmdncdbhlkpaaDoorXB10
set_option linter.unusedVariables false
set_option linter.unusedSimpArgs false
section
set_option maxRecDepth 4000
namespace Go.VX.Seat
open Go.Proofs
section
variable {X : Cx} {st : St}
theorem k_len (h : On X) (l : List UInt8) : closed X.P (builtin .len [9].toArray 3 #[] [Value.string ⟨l.toArray⟩].toArray) = some (Next.value (.int .i64 (l.length : Int))):=by
  rw [h.P]; exact c_slen s9 _
theorem k_idx (h : On X) (l : List UInt8) (i : Nat) (hi : i < l.length) : closed X.P (Instr.index 9 (.string ⟨l.toArray⟩) (.int .i64 (i : Int))) = some (.int .u8 ((l[i]).toNat : Int)):=by
  rw [h.P]; exact c_sidx s9 (sB l) .i64 i hi
theorem k_sl (h : On X) (l : List UInt8) (a b : Nat) (h1 : a≤b) (h2 : b≤l.length) : closed X.P (Instr.sliceAt 9 (.string ⟨l.toArray⟩) (some (.int .i64 (a : Int))) (some (.int .i64 (b : Int))) none) = some (.string ⟨((l.take b).drop a).toArray⟩):=by
  rw [h.P,c_ssl s9 (sB l) a b h1 h2,sB_ext]
theorem k_sl0 (h : On X) (l : List UInt8) (b : Nat) (h2 : b≤l.length) : closed X.P (Instr.sliceAt 9 (.string ⟨l.toArray⟩) none (some (.int .i64 (b : Int))) none) = some (.string ⟨(l.take b).toArray⟩):=by
  rw [h.P,c_ssl0 s9 (sB l) b h2,sB_ext]
  rfl
theorem k_sl1 (h : On X) (l : List UInt8) (a : Nat) (h1 : a≤l.length) : closed X.P (Instr.sliceAt 9 (.string ⟨l.toArray⟩) (some (.int .i64 (a : Int))) none none) = some (.string ⟨(l.drop a).toArray⟩):=by
  rw [h.P,c_ssl1 s9 (sB l) a h1,sB_ext,sB_size,List.take_length]
theorem k_add (P : Program) (ox oy : Operand) (a b : List UInt8) (hl : a.length + b.length≤1000000000) : closed P (do eqGuard .add 9 ox oy (.string ⟨a.toArray⟩) (.string ⟨b.toArray⟩); binOp .add 9 (.string ⟨a.toArray⟩) (.string ⟨b.toArray⟩)) = some (.string ⟨(a++b).toArray⟩):=by
  rw [c_sadd (sB a) (sB b) (by rw [sB_size,sB_size]; omega),sB_add]
theorem k_eq (P : Program) (ox oy : Operand) (a b : List UInt8) : closed P (do eqGuard .eql 9 ox oy (.string ⟨a.toArray⟩) (.string ⟨b.toArray⟩); binOp .eql 9 (.string ⟨a.toArray⟩) (.string ⟨b.toArray⟩)) = some (.bool (decide (a = b))):=by
  rw [c_seq (sB a) (sB b)]
  congr 2
  exact decide_eq_decide.2 (sB_eq a b)
theorem k_ne (P : Program) (ox oy : Operand) (a b : List UInt8) : closed P (do eqGuard .neq 9 ox oy (.string ⟨a.toArray⟩) (.string ⟨b.toArray⟩); binOp .neq 9 (.string ⟨a.toArray⟩) (.string ⟨b.toArray⟩)) = some (.bool (decide (a≠b))):=by
  rw [c_sne (sB a) (sB b)]
  congr 2
  exact decide_eq_decide.2 (not_congr (sB_eq a b))
theorem sB_get (l : List UInt8) (i : Nat) (hi : i < l.length) : (sB l)[i]! = l[i]:=getElem!_pos (sB l) i hi
theorem j_CountByte (h : OnH X) (l : List UInt8) (c : UInt8) : J X.P X.F X.H (.call 81 [sA l,.sc (.int .u8 (c.toNat : Int))] st (.ret (iA (l.count c : Int))) st):=by
  refine .hook (h.told _ _ _ _ _ (.inr (.inr (.inl ⟨_,[.string ⟨l.toArray⟩,.int .u8 (c.toNat : Int)],.int .i64 (l.count c : Int),rfl,rfl,?_,rfl,rfl,rfl⟩))))
  have hc : ((c.toNat : Int)).toNat.toUInt8 = c:=by simp
  show closed _ (pure (goInt ((sB l).foldl (fun (n : Int) x=>if x == ((c.toNat : Int)).toNat.toUInt8 then n + 1 else n) ((0 : Nat) : Int)))) = _
  rw [hc,Lib.foldl_data,Lib.count_foldl]
  show some (Value.int .i64 (((0 : Nat) : Int) + (Lib.countByte l c : Nat))) = _
  unfold Lib.countByte
  congr 2
  omega
theorem j_IndexByte (h : OnH X) (a b : List UInt8) (c : UInt8) (ha : c ∉ a) : J X.P X.F X.H (.call 102 [sA (a++c :: b),.sc (.int .u8 (c.toNat : Int))] st (.ret (iA (a.length : Int))) st):=by
  refine .hook (h.told _ _ _ _ _ (.inr (.inr (.inl ⟨_,[.string ⟨(a++c :: b).toArray⟩,.int .u8 (c.toNat : Int)],.int .i64 (a.length : Int),rfl,rfl,?_,rfl,rfl,rfl⟩))))
  have hc : ((c.toNat : Int)).toNat.toUInt8 = c:=by simp
  show closed _ (match (List.range (sB (a++c :: b)).size).find? fun i=>(sB (a++c :: b))[i]! == ((c.toNat : Int)).toNat.toUInt8 with | some i=>pure (goInt i) | none=>pure (goInt (-1))) = _
  have hf : ((List.range (sB (a++c :: b)).size).find? fun i=>(sB (a++c :: b))[i]! == ((c.toNat : Int)).toNat.toUInt8) = some a.length:=by
    rw [hc,List.find?_range_eq_some]
    refine ⟨?_,?_,fun j hj=>?_⟩
    · rw [sB_get _ _ (by simp)]
      simp
    · rw [List.mem_range,sB_size]; simp
    · rw [sB_get _ _ (by simp; omega),List.getElem_append_left hj]
      have : a[j]≠c:=fun e=>ha (by rw [←e]; exact List.getElem_mem hj)
      simpa using this
  rw [hf]
  rfl
end
end Go.VX.Seat
end
open Go.VX.AV renaming cell? → xa, toV → xb
open Int renaming reduceAdd → xc, reduceLE → xd, reduceLT → xe, reduceNeg → xf, reduceToNat → xg
open Nat renaming reduceAdd → xh, reduceEqDiff → xi, reduceLeDiff → xj, reduceMul → xk, reduceSub → xm
open Go.VX.VOpd renaming ev → xn
open Go.VX renaming asInt? → xo, asNat? → xp, cellVal → xq, cellsV → xr, fillA → xv, partsEv → xw, resOf → xy, splice → xz, tupOf → ya, zeroes → yb
section
set_option maxRecDepth 4000
namespace Go.VX.Seat
open Go.Proofs
abbrev rowsS (ps : List (List UInt8)) : List (List AV):=ps.map fun p=>[sA p]
abbrev StrsAt (S : St) (lo hi : Nat) (v : AV) (ps : List (List UInt8)) : Prop:=ArrAt S lo hi v 1 (rowsS ps)
section
variable {X : Cx} {st : St}
theorem j_Count (h : OnH X) (l : List UInt8) (hl : l.length≤1000000) : J X.P X.F X.H (.call 65 [sA l,sA [32]] st (.ret (iA (l.count 32 : Int))) st):=by
  refine pure_intro (by rw [h.F]; rfl) rfl ?_
  have q1 : closed X.P (Instr.index 9 (.string ⟨#[32]⟩) (.int .i64 0)) = some (.int .u8 ((32 : UInt8).toNat : Int)):=k_idx h.toOn [32] 0 (by decide)
  have q2 : closed X.P (builtin .len [9].toArray 3 #[] [Value.string ⟨#[32]⟩].toArray) = some (Next.value (.int .i64 1)):=k_len h.toOn [32]
  simp only [v_strings_Count,q1,q2,Int.reduceEq,kB,kZ,kD,kE,xm,xg,xk,xc,xd,xe,xf,xj,xi,xh,reduceIte,reduceCtorEq,xz,xy,xq]
  refine callO_same (j_CountByte h l 32) ?_
  simp only [kB,kZ,kD,kE,xm,xg,xk,xc,xd,xe,xf,xj,xi,xh,reduceIte,reduceCtorEq,xz,xy,xq]
  first | exact ⟨_,rfl⟩ | exact ⟨rfl,_,rfl⟩ | exact ⟨trivial,_,rfl⟩ | exact ⟨[],(List.append_nil _).symm⟩
theorem j_SIndexByte (h : OnH X) (a b : List UInt8) (ha : 32 ∉ a) : J X.P X.F X.H (.call 94 [sA (a++32 :: b),.sc (.int .u8 ((32 : UInt8).toNat : Int))] st (.ret (iA (a.length : Int))) st):=by
  refine pure_intro (by rw [h.F]; rfl) rfl ?_
  simp only [v_internal_stringslite_IndexByte,kB,kZ,kD,kE,xm,xg,xk,xc,xd,xe,xf,xj,xi,xh,reduceIte,reduceCtorEq,xz,xy,xq]
  refine callO_same (j_IndexByte h a b 32 ha) ?_
  simp only [kB,kZ,kD,kE,xm,xg,xk,xc,xd,xe,xf,xj,xi,xh,reduceIte,reduceCtorEq,xz,xy,xq]
  first | exact ⟨_,rfl⟩ | exact ⟨rfl,_,rfl⟩ | exact ⟨trivial,_,rfl⟩ | exact ⟨[],(List.append_nil _).symm⟩
theorem j_SIndex (h : OnH X) (a b : List UInt8) (ha : 32 ∉ a) (hl : a.length + b.length≤1000000) : J X.P X.F X.H (.call 82 [sA (a++32 :: b),sA [32]] st (.ret (iA (a.length : Int))) st):=by
  refine pure_intro (by rw [h.F]; rfl) rfl ?_
  have q1 : closed X.P (Instr.index 9 (.string ⟨#[32]⟩) (.int .i64 0)) = some (.int .u8 ((32 : UInt8).toNat : Int)):=k_idx h.toOn [32] 0 (by decide)
  have q2 : closed X.P (builtin .len [9].toArray 3 #[] [Value.string ⟨#[32]⟩].toArray) = some (Next.value (.int .i64 1)):=k_len h.toOn [32]
  have q3 : closed X.P (do eqGuard .eql 9 (.tmp 0) (.tmp 0) (.string ⟨#[32]⟩) (.string ⟨(a++32 :: b).toArray⟩); binOp .eql 9 (.string ⟨#[32]⟩) (.string ⟨(a++32 :: b).toArray⟩)) = some (.bool (decide ([32] = a++32 :: b))):=k_eq X.P (.tmp 0) (.tmp 0) [32] (a++32 :: b)
  cases hd : decide ([32] = a++32 :: b)
  · simp only [v_internal_stringslite_Index,q1,q2,q3,hd,Int.reduceEq,kB,kZ,kD,kE,xm,xg,xk,xc,xd,xe,xf,xj,xi,xh,reduceIte,reduceCtorEq,xz,xy,xq]
    refine callO_same (j_SIndexByte h a b ha) ?_
    simp only [kB,kZ,kD,kE,xm,xg,xk,xc,xd,xe,xf,xj,xi,xh,reduceIte,reduceCtorEq,xz,xy,xq]
    first | exact ⟨_,rfl⟩ | exact ⟨rfl,_,rfl⟩ | exact ⟨trivial,_,rfl⟩ | exact ⟨[],(List.append_nil _).symm⟩
  · have e:=of_decide_eq_true hd
    have ha0 : a = []:=by
      cases a with
      | nil=>rfl
      | cons c r=>simp at e
    have e0 : ((a.length : Nat) : Int) = 0:=by rw [ha0]; rfl
    simp only [v_internal_stringslite_Index,q1,q2,q3,hd,e0,Int.reduceEq,kB,kZ,kD,kE,xm,xg,xk,xc,xd,xe,xf,xj,xi,xh,reduceIte,reduceCtorEq,xz,xy,xq]
    first | exact ⟨_,rfl⟩ | exact ⟨rfl,_,rfl⟩ | exact ⟨trivial,_,rfl⟩ | exact ⟨[],(List.append_nil _).symm⟩
theorem j_Index (h : OnH X) (a b : List UInt8) (ha : 32 ∉ a) (hl : a.length + b.length≤1000000) : J X.P X.F X.H (.call 66 [sA (a++32 :: b),sA [32]] st (.ret (iA (a.length : Int))) st):=by
  refine pure_intro (by rw [h.F]; rfl) rfl ?_
  simp only [v_strings_Index,kB,kZ,kD,kE,xm,xg,xk,xc,xd,xe,xf,xj,xi,xh,reduceIte,reduceCtorEq,xz,xy,xq]
  refine callO_same (j_SIndex h a b ha hl) ?_
  simp only [kB,kZ,kD,kE,xm,xg,xk,xc,xd,xe,xf,xj,xi,xh,reduceIte,reduceCtorEq,xz,xy,xq]
  first | exact ⟨_,rfl⟩ | exact ⟨rfl,_,rfl⟩ | exact ⟨trivial,_,rfl⟩ | exact ⟨[],(List.append_nil _).symm⟩
end
end Go.VX.Seat
end
section
set_option maxRecDepth 4000
namespace Go.VX.Seat
open Go.Proofs
theorem hit_of {t : List UInt8} (h : t.count 32≠0) : ∃ a b,t = a++32 :: b∧(32 : UInt8) ∉ a:=by
  have : (32 : UInt8) ∈ t:=by
    rw [←List.count_pos_iff]; omega
  obtain ⟨a,b,e,h2⟩:=List.eq_append_cons_of_mem this
  exact ⟨a,b,e,h2⟩
theorem miss_of {t : List UInt8} (h : t.count 32 = 0) : (32 : UInt8) ∉ t:=List.count_eq_zero.1 h
section
variable {X : Cx} {st : St}
set_option maxHeartbeats 2000000 in
theorem w_genSplit (h : OnH X) (l : List UInt8) (hl : l.length≤100000) : wpF X 52 [sA l,sA [32],iA 0,iA (-1)] st fun r S=>∃ v m lo hi,r = .ret v∧S = st++m∧StrsAt S lo hi v (spl l):=by
  refine wpF_go (fn:=v_strings_genSplit) (by rw [h.F]; rfl) ?_
  obtain ⟨N,hN⟩ : ∃ N,l.count 32 = N:=⟨_,rfl⟩
  have hNl : N≤l.length:=by rw [←hN]; exact List.count_le_length
  have q3 : closed X.P (do eqGuard .eql 9 (.tmp 0) (.tmp 0) (.string ⟨#[32]⟩) (.string ⟨#[]⟩); binOp .eql 9 (.string ⟨#[32]⟩) (.string ⟨#[]⟩)) = some (.bool false):=k_eq X.P (.tmp 0) (.tmp 0) [32] []
  have q3' : closed X.P (do eqGuard .eql 9 (.const (.string ⟨#[32]⟩)) (.tmp 0) (.string ⟨#[32]⟩) (.string ⟨#[]⟩); binOp .eql 9 (.string ⟨#[32]⟩) (.string ⟨#[]⟩)) = some (.bool false):=k_eq X.P _ (.tmp 0) [32] []
  have q1:=k_len h.toOn l
  have hw1 : IntKind.wrap .i64 ((N : Int) + 1) = ((N + 1 : Nat) : Int):=by rw [wrap_small (by omega) (by omega)]; omega
  have hw2 : IntKind.wrap .i64 ((l.length : Int) + 1) = ((l.length + 1 : Nat) : Int):=by rw [wrap_small (by omega) (by omega)]; omega
  have hmin : min ((N + 1 : Nat) : Int) ((l.length + 1 : Nat) : Int) = ((N + 1 : Nat) : Int):=by omega
  have hw3 : IntKind.wrap .i64 (((N + 1 : Nat) : Int) - 1) = (N : Int):=by rw [wrap_small (by omega) (by omega)]; omega
  have j1:=j_Count (st:=st++[]) h l (by omega)
  rw [hN] at j1
  simp only [v_strings_genSplit,q3,q3',Int.reduceEq,kB,kZ,kD,kE,xm,xg,xk,xc,xd,xe,xf,xj,xi,xh,reduceIte,reduceCtorEq,xz,xy,xq]
  refine callO_same j1 ?_
  simp only [q1,hw1,hw2,hmin,kB,kZ,kD,kE,xm,xg,xk,xc,xd,xe,xf,xj,xi,xh,reduceIte,reduceCtorEq,xz,xy,xq]
  rw [if_pos (show (0 : Int)≤((N + 1 : Nat) : Int) by omega)]
  dsimp only
  rw [if_pos ⟨Nat.le_refl _,by omega⟩]
  refine ⟨keptA_nil _ _ _,?_⟩
  rw [beq_self_eq_true,List.flatten_replicate_singleton]
  have hcell : List.replicate (N + 1) (AV.sc (Value.string ⟨#[]⟩)) = (List.replicate (N + 1) ([] : List UInt8)).map sA:=by rw [List.map_replicate]
  rw [hcell]
  simp only [hw3,kB,kZ,kD,kE,xm,xg,xk,xc,xd,xe,xf,xj,xi,xh,reduceIte,reduceCtorEq,xz,xy,xq]
  have hq2 : closed X.P (builtin .len [9].toArray 3 #[] [Value.string ⟨#[32]⟩].toArray) = some (Next.value (.int .i64 1)):=k_len h.toOn [32]
  refine anyLoop (mB m0) (fun e s=>∃ (bx : Nat) (t : List UInt8) (ps : List (List UInt8)) (ver : Nat),e 0 = sA t∧e 9 = .sl bx 0 (N + 1) 1 true∧e 10 = iA N∧bx = st.length∧s[bx]? = some ⟨ps.map sA,0,ver⟩∧(∃ m,s = st++m)∧ps.length = N + 1∧ps.take N++spl t = spl l∧t.count 32 = 0) ?_ ?_
  · refine loop_inv (fun k e s=>∃ (i bx : Nat) (t : List UInt8) (ps : List (List UInt8)) (ver : Nat),i + k = N∧e 0 = sA t∧e 1 = sA [32]∧e 2 = iA 0∧e 3 = iA N∧e 9 = .sl bx 0 (N + 1) 1 true∧e 10 = iA i∧bx = st.length∧s[bx]? = some ⟨ps.map sA,0,ver⟩∧(∃ m,s = st++m)∧ps.length = N + 1∧ps.take i++spl t = spl l∧t.count 32 = k∧t.length≤100000) ?_ N ?_
    case refine_2=>exact ⟨0,_,l,List.replicate (N + 1) [],0,by omega,rfl,rfl,rfl,rfl,rfl,rfl,by simp,by simp; rfl,⟨_,rfl⟩,by simp,rfl,hN,hl⟩
    rintro k e s ⟨i,bx,t,ps,ver,hik,k0,k1,k2,k3,k9,k10,rfl,hb,hpre,hpl,hps,hct,htl⟩
    simp only [k0,k1,k2,k3,k9,k10,kB,kZ,kD,kE,xm,xg,xk,xc,xd,xe,xf,xj,xi,xh,reduceIte,reduceCtorEq,xz,xy,xq]
    refine condO_intro ?_ ?_<;>intro hc
    case refine_2 =>
      have hi : i = N:=by have:=of_decide_eq_false hc; omega
      subst hi
      have hk : k = 0:=by omega
      subst hk
      simp only [k0,k1,k2,k3,k9,k10,kB,kZ,kD,kE,xm,xg,xk,xc,xd,xe,xf,xj,xi,xh,reduceIte,reduceCtorEq,xz,xy,xq]
      exact ⟨_,t,ps,ver,rfl,rfl,rfl,hb,hpre,hpl,hps,hct⟩
    have hi : i < N:=by have:=of_decide_eq_true hc; omega
    obtain ⟨a,b,rfl,ha⟩:=hit_of (t:=t) (by omega)
    simp only [List.length_append,List.length_cons] at htl
    have hnn : decide ((a.length : Int) < 0) = false:=decide_eq_false (by omega)
    have hwa : IntKind.wrap .i64 ((a.length : Int) + 0) = (a.length : Int):=by rw [wrap_small (by omega) (by omega)]; omega
    have hwb : IntKind.wrap .i64 ((a.length : Int) + 1) = ((a.length + 1 : Nat) : Int):=by rw [wrap_small (by omega) (by omega)]; omega
    have hwi : IntKind.wrap .i64 ((i : Int) + 1) = ((i + 1 : Nat) : Int):=by rw [wrap_small (by omega) (by omega)]; omega
    have g0:=k_sl0 h.toOn (a++32 :: b) a.length (by simp)
    have g1:=k_sl1 h.toOn (a++32 :: b) (a.length + 1) (by simp)
    rw [List.take_left] at g0
    have hd1 : (a++32 :: b).drop (a.length + 1) = b:=by rw [←List.drop_drop,List.drop_left]; rfl
    rw [hd1] at g1
    have hel : elemA (.sl st.length 0 (N + 1) 1 true) 1 (i : Int) = some (.ptr st.length i):=by
      rw [elemA_sl,if_pos ⟨by omega,by omega,rfl⟩]
      simp
    have hput:=put_box (o:=i) (vs:=[sA a]) hb (by simp; omega) rfl
    have hsp : splice (ps.map sA) i [sA a] = (ps.set i a).map sA:=by
      rw [List.map_set,List.set_eq_take_append_cons_drop,if_pos (by simp; omega)]
      simp [splice]
    have hag:=Agree.set s st.length ⟨splice (ps.map sA) i [sA a],0,ver + 1⟩
    have hb2 : (s.set st.length ⟨splice (ps.map sA) i [sA a],0,ver + 1⟩)[st.length]? = some ⟨(ps.set i a).map sA,0,ver + 1⟩:=by rw [List.getElem?_set_self (List.getElem?_eq_some_iff.1 hb).1,hsp]
    have hpre2:=hag.ext hpre fun b hb e=>by omega
    generalize (s.set st.length ⟨splice (ps.map sA) i [sA a],0,ver + 1⟩ : St) = s2 at *
    have hps2 : (ps.set i a).take (i + 1)++spl b = spl l:=by
      rw [←hps,spl_hit ha,List.take_set,List.take_succ_eq_append_getElem (by omega),List.set_append_right _ _ (by simp; omega)]
      have : i - min i ps.length = 0:=by omega
      simp [this]
    have hct2 : b.count 32 = k - 1:=by
      rw [List.count_append,List.count_cons_self,List.count_eq_zero.2 ha] at hct
      omega
    simp only [k0,k1,k2,k3,k9,k10,kB,kZ,kD,kE,xm,xg,xk,xc,xd,xe,xf,xj,xi,xh,reduceIte,reduceCtorEq,xz,xy,xq]
    refine callO_same (j_Index h a b ha (by omega)) ?_
    simp only [k0,k1,k2,k3,k9,k10,hnn,hwa,hwb,hwi,g0,g1,hq2,hel,hput,Option.map_none,kB,kZ,kD,kE,xm,xg,xk,xc,xd,xe,xf,xj,xi,xh,reduceIte,reduceCtorEq,xz,xy,xq]
    exact ⟨k - 1,by omega,i + 1,st.length,b,ps.set i a,ver + 1,by omega,rfl,rfl,rfl,rfl,hb2,hpre2,by simp [hpl],hps2,hct2,by omega⟩
  rintro e s ⟨bx,t,ps,ver,k0,k9,k10,rfl,hb,hpre,hpl,hps,hct⟩
  have hel : elemA (.sl st.length 0 (N + 1) 1 true) 1 (N : Int) = some (.ptr st.length N):=by
    rw [elemA_sl,if_pos ⟨by omega,by omega,rfl⟩]
    simp
  have hput:=put_box (o:=N) (vs:=[sA t]) hb (by simp; omega) rfl
  have hsp : splice (ps.map sA) N [sA t] = (ps.take N++[t]).map sA:=by
    simp [splice,hpl]
  have hag:=Agree.set s st.length ⟨splice (ps.map sA) N [sA t],0,ver + 1⟩
  have hfl : ∀ q : List (List UInt8),(rowsS q).flatten = q.map sA:=fun q=>by
    induction q with
    | nil=>rfl
    | cons a r ih=>simp only [List.map_cons,List.flatten_cons,ih]; rfl
  have hb2 : (s.set st.length ⟨splice (ps.map sA) N [sA t],0,ver + 1⟩)[st.length]? = some ⟨(rowsS (spl l)).flatten,0,ver + 1⟩:=by
    rw [List.getElem?_set_self (List.getElem?_eq_some_iff.1 hb).1,hsp,hfl,← hps,spl_miss (miss_of hct)]
  have hpre2:=hag.ext hpre fun b hb e=>by omega
  generalize (s.set st.length ⟨splice (ps.map sA) N [sA t],0,ver + 1⟩ : St) = s2 at *
  have hll : (spl l).length = N + 1:=by rw [spl_len,hN]
  have ha : ArrAt s2 st.length (st.length + 1) (.sl st.length 0 (N + 1) 1 true) 1 (rowsS (spl l)):=ArrAt.ofBox hb2 (by decide) (fun r hr=>by obtain ⟨p,_,rfl⟩:=List.mem_map.1 hr; rfl) (by simp [hll])
  simp only [k0,k9,k10,hel,hput,hw1,kB,kZ,kD,kE,xm,xg,xk,xc,xd,xe,xf,xj,xi,xh,reduceIte,reduceCtorEq,xz,xy,xq]
  refine opR_pre (vx:=.sl st.length 0 (N + 1) 1 true) (n:=N + 1) (by simp only [kB,kZ,kD,kE,xm,xg,xk,xc,xd,xe,xf,xj,xi,xh,reduceIte,reduceCtorEq,xz,xy,xq]) (by first | (simp only [kB,kZ,kD,kE,xm,xg,xk,xc,xd,xe,xf,xj,xi,xh,reduceIte,reduceCtorEq,xz,xy,xq]; done) | (simp only [kB,kZ,kD,kE,xm,xg,xk,xc,xd,xe,xf,xj,xi,xh,reduceIte,reduceCtorEq,xz,xy,xq]; rw [if_pos (by omega)])) ha (by simp [hll]) ?_
  intro w hw
  refine ⟨keptA_nil _ _ _,?_⟩
  rw [List.take_of_length_le (by simp [hll])] at hw
  simp only [kB,kZ,kD,kE,xm,xg,xk,xc,xd,xe,xf,xj,xi,xh,reduceIte,reduceCtorEq,xz,xy,xq]
  obtain ⟨m,rfl⟩:=hpre2
  exact ⟨w,m,_,_,rfl,rfl,hw⟩
theorem w_Split (h : OnH X) (l : List UInt8) (hl : l.length≤100000) : wpF X 36 [sA l,sA [32]] st fun r S=>∃ v m lo hi,r = .ret v∧S = st++m∧StrsAt S lo hi v (spl l):=by
  refine wpF_go (fn:=v_strings_Split) (by rw [h.F]; rfl) ?_
  simp only [v_strings_Split,kB,kZ,kD,kE,xm,xg,xk,xc,xd,xe,xf,xj,xi,xh,reduceIte,reduceCtorEq,xz,xy,xq]
  refine wpF.mono (w_genSplit (st:=st++[]) h l hl) ?_
  rintro r S ⟨v,m,lo,hi,rfl,rfl,ha⟩
  refine ⟨keptA_nil _ _ _,?_⟩
  simp only [kB,kZ,kD,kE,xm,xg,xk,xc,xd,xe,xf,xj,xi,xh,reduceIte,reduceCtorEq,xz,xy,xq]
  rw [List.append_nil] at ha
  exact ⟨v,m,lo,hi,rfl,rfl,ha⟩
end
end Go.VX.Seat
end
section
set_option maxRecDepth 4000
namespace Go.VX.Seat
open Go.Proofs
section
variable {X : Cx} {st : St}
theorem k_conv8 (h : On X) (n : Int) : closed X.P (convert 5 3 (.int .u8 n)) = some (.int .i64 (IntKind.wrap .i64 n)):=by rw [h.P]; kernel_rfl
theorem opR_strs {K : Env→St→Post3→Prop} {Q : Post3} {d : Option Nat} {env : Env} {s : St} {lo : Nat} {w : AV} {ps qs : List (List UInt8)} {x y : VOpd} (h : OwnS s lo w 1 (rowsS ps)) (hlo : lo≤s.length) (hq : qs≠[]) (hl : ps.length + qs.length≤1000000) (ex : x.ev env = w) (ey : y.ev env = .sl s.length 0 qs.length 1 true)
    (hK : ∀ w' s',Agree (fun b=>boxOf w = some b) s s'→OwnS s' lo w' 1 (rowsS (ps++qs))→K (env.put d w') s' Q) :
    opR X K d [] env (s++[⟨qs.map sA,0,0⟩]) Q (vop X.P (.append 1 16 x y) env (s++[⟨qs.map sA,0,0⟩])):=by
  have hfl : ∀ q : List (List UInt8),(rowsS q).flatten = q.map sA:=fun q=>by
    induction q with
    | nil=>rfl
    | cons a r ih=>simp only [List.map_cons,List.flatten_cons,ih]; rfl
  have hag0:=Agree.app (fun _=>False) s [⟨qs.map sA,0,0⟩]
  have h1 : OwnS (s++[⟨qs.map sA,0,0⟩]) lo w 1 (rowsS ps):=h.agree hag0 fun _ _ y=>y
  have hrow : ArrAt (s++[⟨qs.map sA,0,0⟩]) s.length (s.length + 1) (.sl s.length 0 qs.length 1 true) 1 (rowsS qs):=ArrAt.ofBox (mode:=0) (ver:=0) (by rw [hfl]; simp) (by decide) (fun r hr=>by obtain ⟨p,_,rfl⟩:=List.mem_map.1 hr; rfl) (by simp)
  refine opR_append (vx:=w) (vy:=.sl s.length 0 qs.length 1 true) (rows:=rowsS ps) (rows2:=rowsS qs) (lo:=lo) ex ey h1 (by simp; omega) hrow (by simp; omega) (by rw [hfl]; simp [AV.isCell]) ?_
  intro w' s' hag hown hcase
  refine ⟨keptA_nil _ _ _,hK w' s' ((hag0.trans hag).mono fun n _ y=>y.elim (fun y=>y.elim) fun y=>y.2) ?_⟩
  have e : rowsS (ps++qs) = rowsS ps++rowsS qs:=List.map_append ..
  rw [e]
  exact hown
theorem drop_fr {l : List UInt8} {fr i : Nat} (h : fr≤i) (hi : i≤l.length) : l.drop fr = (l.take i).drop fr++l.drop i:=by
  have:=congrArg (List.drop fr) (List.take_append_drop i l).symm
  rwa [List.drop_append_of_le_length (by simp; omega)] at this
theorem take_fr {l : List UInt8} {fr i : Nat} (h : fr≤i) (hi : i < l.length) : (l.take (i + 1)).drop fr = (l.take i).drop fr++[l[i]]:=by
  rw [List.take_succ_eq_append_getElem hi,List.drop_append_of_le_length (by simp; omega)]
set_option maxHeartbeats 1000000 in
theorem w_r19_words (h : OnH X) (l : List UInt8) (hl : l.length≤100000) : wpF X 39 [sA l] st fun r S=>∃ v m lo hi,r = .ret v∧S = st++m∧StrsAt S lo hi v (spl l):=by
  refine wpF_go (fn:=v_r19_words) (by rw [h.F]; rfl) ?_
  have hlen:=k_len h.toOn l
  simp only [v_r19_words,kB,kZ,kD,kE,xm,xg,xk,xc,xd,xe,xf,xj,xi,xh,reduceIte,reduceCtorEq,xz,xy,xq]
  refine anyLoop (mB m0) (fun e s=>∃ v,e 3 = v∧(∃ m,s = st++m)∧OwnS s st.length v 1 (rowsS (spl l))) ?_ ?_
  · refine loop_inv (fun k e s=>∃ (i fr : Nat) (v : AV) (ps : List (List UInt8)),i + k = l.length + 1∧e 0 = sA l∧e 3 = v∧e 4 = iA fr∧e 5 = iA i∧(∃ m,s = st++m)∧OwnS s st.length v 1 (rowsS ps)∧ps.length≤i∧(k = 0→ps = spl l)∧(k≠0→fr≤i∧ps++spl (l.drop fr) = spl l∧32 ∉ (l.take i).drop fr)) ?_ (l.length + 1) ?_
    case refine_2 =>
      exact ⟨0,0,_,[],by omega,rfl,rfl,rfl,rfl,⟨[],by simp⟩,own_nil _ _ _,by simp,fun e=>by omega,fun _=>⟨Nat.le_refl _,by simp,by simp⟩⟩
    rintro k e s ⟨i,fr,v,ps,hik,k0,k3,k4,k5,hpre,hown,hpl,hz,hnz⟩
    simp only [k0,k3,k4,k5,hlen,kB,kZ,kD,kE,xm,xg,xk,xc,xd,xe,xf,xj,xi,xh,reduceIte,reduceCtorEq,xz,xy,xq]
    refine condO_intro ?_ ?_<;>intro hc
    case refine_2 =>
      have hk : k = 0:=by have:=of_decide_eq_false hc; omega
      rw [hz hk] at hown
      simp only [k0,k3,k4,k5,kB,kZ,kD,kE,xm,xg,xk,xc,xd,xe,xf,xj,xi,xh,reduceIte,reduceCtorEq,xz,xy,xq]
      exact ⟨hpre,hown⟩
    have hi : i≤l.length:=by have:=of_decide_eq_true hc; omega
    obtain ⟨hfi,hps,hno⟩:=hnz (by omega)
    have hwi : IntKind.wrap .i64 ((i : Int) + 1) = ((i + 1 : Nat) : Int):=by rw [wrap_small (by omega) (by omega)]; omega
    have hstl : st.length≤s.length:=by obtain ⟨m,e⟩:=hpre; rw [e]; simp
    have g0:=k_sl h.toOn l fr i hfi hi
    have hin : 32 ∉ (l.take i).drop fr→i < l.length→32 ∉ (l.take i).drop fr:=fun h _=>h
    cases he : decide ((i : Int) = (l.length : Int))
    · have hil : i < l.length:=by have:=of_decide_eq_false he; omega
      have g1:=k_idx h.toOn l i hil
      cases h32 : decide (((l[i]).toNat : Int) = 32)
      · have hne : l[i]≠32:=fun e=>by
          have:=of_decide_eq_false h32
          rw [e] at this
          exact this rfl
        simp only [k0,k3,k4,k5,hlen,g1,he,h32,hwi,kB,kZ,kD,kE,xm,xg,xk,xc,xd,xe,xf,xj,xi,xh,reduceIte,reduceCtorEq,xz,xy,xq]
        exact ⟨k - 1,by omega,i + 1,fr,v,ps,by omega,rfl,rfl,rfl,hpre,hown,by omega,fun e=>by omega,fun _=>⟨by omega,hps,by rw [take_fr hfi hil]; simp [hno]; exact fun e=>hne e.symm⟩⟩
      · have heq : l[i] = 32:=UInt8.toNat_inj.1 (by have:=of_decide_eq_true h32; show (l[i]).toNat = 32; omega)
        simp only [k0,k3,k4,k5,hlen,g0,g1,he,h32,kB,kZ,kD,kE,xm,xg,xk,xc,xd,xe,xf,xj,xi,xh,reduceIte,reduceCtorEq,xz,xy,xq]
        refine opR_strs (qs:=[(l.take i).drop fr]) hown hstl (by simp) (by simp; omega) (by simp only [kB,kZ,kD,kE,xm,xg,xk,xc,xd,xe,xf,xj,xi,xh,reduceIte,reduceCtorEq,xz,xy,xq]) (by simp only [kB,kZ,kD,kE,xm,xg,xk,xc,xd,xe,xf,xj,xi,xh,reduceIte,reduceCtorEq,xz,xy,xq]) ?_
        intro w' s' hag hown'
        have hpre':=hag.ext hpre fun b hb e=>by have:=(hown.bnd b e).1; omega
        simp only [k0,k3,k4,k5,hwi,kB,kZ,kD,kE,xm,xg,xk,xc,xd,xe,xf,xj,xi,xh,reduceIte,reduceCtorEq,xz,xy,xq]
        refine ⟨k - 1,by omega,i + 1,i + 1,w',ps++[(l.take i).drop fr],by omega,rfl,rfl,rfl,hpre',hown',by simp; omega,fun e=>by omega,fun _=>⟨Nat.le_refl _,?_,by simp⟩⟩
        rw [←hps,drop_fr hfi hi,List.drop_eq_getElem_cons hil,heq,spl_hit hno]
        simp
    · have hil : i = l.length:=by have:=of_decide_eq_true he; omega
      simp only [k0,k3,k4,k5,hlen,g0,he,kB,kZ,kD,kE,xm,xg,xk,xc,xd,xe,xf,xj,xi,xh,reduceIte,reduceCtorEq,xz,xy,xq]
      refine opR_strs (qs:=[(l.take i).drop fr]) hown hstl (by simp) (by simp; omega) (by simp only [kB,kZ,kD,kE,xm,xg,xk,xc,xd,xe,xf,xj,xi,xh,reduceIte,reduceCtorEq,xz,xy,xq]) (by simp only [kB,kZ,kD,kE,xm,xg,xk,xc,xd,xe,xf,xj,xi,xh,reduceIte,reduceCtorEq,xz,xy,xq]) ?_
      intro w' s' hag hown'
      have hpre':=hag.ext hpre fun b hb e=>by have:=(hown.bnd b e).1; omega
      simp only [k0,k3,k4,k5,hwi,kB,kZ,kD,kE,xm,xg,xk,xc,xd,xe,xf,xj,xi,xh,reduceIte,reduceCtorEq,xz,xy,xq]
      refine ⟨k - 1,by omega,i + 1,i + 1,w',ps++[(l.take i).drop fr],by omega,rfl,rfl,rfl,hpre',hown',by simp; omega,fun _=>?_,fun e=>by omega⟩
      rw [hil,List.take_length] at hno ⊢
      rw [←hps,spl_miss hno]
  rintro e s ⟨v,k3,hpre,hown⟩
  simp only [k3,kB,kZ,kD,kE,xm,xg,xk,xc,xd,xe,xf,xj,xi,xh,reduceIte,reduceCtorEq,xz,xy,xq]
  obtain ⟨m,rfl⟩:=hpre
  exact ⟨v,m,_,_,rfl,rfl,hown.arr⟩
end
end Go.VX.Seat
end
section
set_option maxRecDepth 4000
namespace Go.VX.Seat
open Go.Proofs
section
variable {X : Cx} {st : St}
theorem j_Itoa (h : OnH X) (hg : GB st) (n : Int) (h0 : -9223372036854775808≤n) (h1 : n≤9223372036854775807) : J X.P X.F X.H (.call 35 [iA n] st (.ret (sA (Lib.itoa n))) st) :=
  .hook (h.srt _ _ _ _ _ ⟨hg,rfl,.inl ⟨rfl,n,rfl,h0,h1,rfl⟩⟩)
theorem j_Atoi (h : OnH X) (hg : GB st) (l : List UInt8) (hl : l.length≤100000) : J X.P X.F X.H (.call 38 [sA l] st (.ret (.tup [iA (atoiL l),atoiE (sB l)])) st) :=
  .hook (h.srt _ _ _ _ _ ⟨hg,rfl,.inr ⟨rfl,sB l,rfl,by rw [sB_size]; omega,rfl⟩⟩)
theorem strs_of {S : St} {lo hi : Nat} {v : AV} {ps : List (List UInt8)} (h : StrsAt S lo hi v ps) : strsOf S v = some (ps.map sB):=by
  have hm : ∀ q : List (List UInt8),((q.map sA).mapM fun a=>match a with | .sc (.string s)=>some s | _=>none) = some (q.map sB):=fun q=>by
    induction q with
    | nil=>rfl
    | cons a r ih=>rw [List.map_cons,List.mapM_cons,ih]; rfl
  have hfl : ∀ q : List (List UInt8),(rowsS q).flatten = q.map sA:=fun q=>by
    induction q with
    | nil=>rfl
    | cons a r ih=>simp only [List.map_cons,List.flatten_cons,ih]; rfl
  rcases nil_or_sl h.len with ⟨rfl,hz⟩ | ⟨b,o,e,f,rfl⟩
  · have : ps = []:=by simpa using hz
    subst this
    rfl
  · obtain ⟨rfl,h0⟩:=h.size _ _ _ _ _ rfl
    have hat : S.atN b o (rowsS ps).length = some (ps.map sA):=by
      by_cases hq : rowsS ps = []
      · have : ps = []:=by simpa using hq
        subst this
        exact h0
      · obtain ⟨b',o',f',e',_,_,hw⟩:=h.whole hq
        cases e'
        have:=hw (rowsS ps).length (Nat.le_refl _)
        rw [List.take_length,hfl,Nat.mul_one] at this
        exact this
    unfold strsOf
    simp only [hat,Nat.beq_refl,if_true]
    exact hm ps
theorem j_Join (h : OnH X) {lo hi : Nat} {v : AV} {ps : List (List UInt8)} (hv : StrsAt st lo hi v ps) (hl : ps.length≤1000000) (hj : (Lib.join ps [32]).length≤1000000000) : J X.P X.F X.H (.call 50 [v,sA [32]] st (.ret (sA (Lib.join ps [32]))) st):=by
  have e : (ps.map sB).map (·.data.toList) = ps:=by
    rw [List.map_map]
    exact (List.map_congr_left (fun a _=>rfl)).trans (List.map_id _)
  refine .hook (h.told _ _ _ _ _ (.inr (.inr (.inr ⟨rfl,rfl,v,sB [32],ps.map sB,rfl,strs_of hv,by simpa using hl,?_,?_⟩))))
  · rw [e]; exact hj
  · unfold joinOf
    rw [e]
set_option maxHeartbeats 1000000 in
theorem j_r19_number (h : On X) (l : List UInt8) (hl : l.length≤100000) : J X.P X.F X.H (.call 40 [sA l] st (.ret (iA (numR l))) st):=by
  refine pure_intro (by rw [h.F]; rfl) rfl ?_
  have hlen:=k_len h l
  simp only [v_r19_number,kB,kZ,kD,kE,xm,xg,xk,xc,xd,xe,xf,xj,xi,xh,reduceIte,reduceCtorEq,xz,xy,xq]
  refine loop_inv (fun k e s=>∃ i : Nat,i + k = min l.length 6∧s = st∧e 0 = sA l∧e 3 = iA ((l.take i).foldl stepR 0)∧e 4 = iA i) ?_ (min l.length 6) ?_
  case refine_2=>exact ⟨0,by omega,by simp,rfl,rfl,rfl⟩
  rintro k e s ⟨i,hik,rfl,k0,k3,k4⟩
  have hend : k = 0→(l.take i).foldl stepR 0 = numR l:=fun e=>by
    unfold numR
    have : i = min l.length 6:=by omega
    subst this
    rcases Nat.le_total l.length 6 with h6 | h6
    · rw [Nat.min_eq_left h6,List.take_length,List.take_of_length_le h6]
    · rw [Nat.min_eq_right h6]
  cases hc1 : decide ((i : Int) < (l.length : Int))
  · have hk : k = 0:=by have:=of_decide_eq_false hc1; omega
    simp only [k0,k3,k4,hlen,hc1,hend hk,kB,kZ,kD,kE,xm,xg,xk,xc,xd,xe,xf,xj,xi,xh,reduceIte,reduceCtorEq,xz,xy,xq]
    first | exact ⟨_,rfl⟩ | exact ⟨rfl,_,rfl⟩ | exact ⟨trivial,_,rfl⟩ | exact ⟨[],(List.append_nil _).symm⟩
  cases hc2 : decide ((i : Int) < 6)
  · have hk : k = 0:=by have:=of_decide_eq_false hc2; omega
    simp only [k0,k3,k4,hlen,hc1,hc2,hend hk,kB,kZ,kD,kE,xm,xg,xk,xc,xd,xe,xf,xj,xi,xh,reduceIte,reduceCtorEq,xz,xy,xq]
    first | exact ⟨_,rfl⟩ | exact ⟨rfl,_,rfl⟩ | exact ⟨trivial,_,rfl⟩ | exact ⟨[],(List.append_nil _).symm⟩
  have hi : i < l.length:=by have:=of_decide_eq_true hc1; omega
  have hi6 : i < 6:=by have:=of_decide_eq_true hc2; omega
  have g1:=k_idx h l i hi
  have hwi : IntKind.wrap .i64 ((i : Int) + 1) = ((i + 1 : Nat) : Int):=by rw [wrap_small (by omega) (by omega)]; omega
  have hst : (l.take (i + 1)).foldl stepR 0 = stepR ((l.take i).foldl stepR 0) l[i]:=by
    rw [List.take_succ_eq_append_getElem hi,List.foldl_append]
    rfl
  have hfb : 0≤(l.take i).foldl stepR 0∧(l.take i).foldl stepR 0 < 1000000:=by
    have:=numR_bnd (l.take i)
    unfold numR at this
    rwa [List.take_of_length_le (by simp; omega)] at this
  have h256 : (l[i]).toNat < 256:=UInt8.toNat_lt _
  generalize l[i] = c at *
  generalize (l.take i).foldl stepR 0 = n at *
  cases h48 : decide ((48 : Int)≤(c.toNat : Int))
  · have e1 : stepR n c = n:=by unfold stepR; rw [if_neg (by have:=of_decide_eq_false h48; omega)]
    rw [e1] at hst
    simp only [k0,k3,k4,hlen,hc1,hc2,g1,h48,hwi,kB,kZ,kD,kE,xm,xg,xk,xc,xd,xe,xf,xj,xi,xh,reduceIte,reduceCtorEq,xz,xy,xq]
    exact ⟨k - 1,by omega,i + 1,by omega,by rw [hst],rfl⟩
  cases h57 : decide ((c.toNat : Int)≤57)
  · have e1 : stepR n c = n:=by unfold stepR; rw [if_neg (by have:=of_decide_eq_false h57; omega)]
    rw [e1] at hst
    simp only [k0,k3,k4,hlen,hc1,hc2,g1,h48,h57,hwi,kB,kZ,kD,kE,xm,xg,xk,xc,xd,xe,xf,xj,xi,xh,reduceIte,reduceCtorEq,xz,xy,xq]
    exact ⟨k - 1,by omega,i + 1,by omega,by rw [hst],rfl⟩
  have h48':=of_decide_eq_true h48
  have h57':=of_decide_eq_true h57
  have e1 : stepR n c = 10 * n + ((c.toNat : Int) - 48):=by unfold stepR; rw [if_pos (by omega)]
  have w1 : IntKind.wrap .i64 (10 * n) = 10 * n:=wrap_small (by omega) (by omega)
  have w2 : IntKind.wrap .u8 ((c.toNat : Int) - 48) = (c.toNat : Int) - 48:=by
    have e : IntKind.wrap .u8 ((c.toNat : Int) - 48) = ((c.toNat : Int) - 48) % 256:=rfl
    rw [e]
    omega
  have w3 : IntKind.wrap .i64 ((c.toNat : Int) - 48) = (c.toNat : Int) - 48:=wrap_small (by omega) (by omega)
  have w4 : IntKind.wrap .i64 (10 * n + ((c.toNat : Int) - 48)) = 10 * n + ((c.toNat : Int) - 48):=wrap_small (by omega) (by omega)
  rw [e1] at hst
  simp only [k0,k3,k4,hlen,hc1,hc2,g1,h48,h57,hwi,k_conv8 h,w1,w2,w3,w4,kB,kZ,kD,kE,xm,xg,xk,xc,xd,xe,xf,xj,xi,xh,reduceIte,reduceCtorEq,xz,xy,xq]
  exact ⟨k - 1,by omega,i + 1,by omega,by rw [hst],rfl⟩
end
end Go.VX.Seat
end
