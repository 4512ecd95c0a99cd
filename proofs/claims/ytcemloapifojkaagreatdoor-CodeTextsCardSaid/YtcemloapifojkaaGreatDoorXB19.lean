/- A part of the proofs of the statements of one layer: R4n, R10, CT3, CT4, CT5, CT6, CT7. No condition is added here. -/
import Derived.Lay
import Derived.Test.YtcemloapifojkaaGreatDoorXB18
set_option linter.unusedVariables false
set_option linter.unusedSimpArgs false
section
set_option maxRecDepth 4000
namespace Go.VX.Seat
open Go.Proofs Go.ChangeShapes Go.WideShapes
open Go.RowKit (Below)
section
variable {H : Type} {enc : TypeId × Value→H} {W : World}
theorem law_true {f : FuncId} {ws : List AV} {st : St} {K : KM} {args : List Value} (hc : Callable Go.Proofs.Tryz.prog f) (hw : wpF XS f ws st fun r s=>r = .ret (bA true)∧∃ m,s = st++m) (hE : Ent [1,0,2,3,8,9] W K st) (hargs : VRels K ws args) :
    Calls Go.Proofs.Tryz.prog f args.toArray W fun e W'=>e = .returned (.bool true)∧Below W.heap.size W W':=by
  obtain ⟨r,s,j,rfl,_⟩:=hw
  refine ((seat_sound j).c hc W.heap.size W K W args hE.rel (Nat.le_refl _) hargs).mono fun e W' hp=>?_
  obtain ⟨K',hW',_,v',rfl,hv⟩:=hp
  cases hv
  exact ⟨rfl,hW'.below⟩
end
noncomputable def doorW (os : Os) : World:=World.laidAll Go.Proofs.Tryz.prog os laidL
theorem doorW_os (os : Os) : (doorW os).os = os:=World.laidAll_os _ _ _
theorem door_met (os : Os) (args : Array Value) : laidMetH Go.Proofs.Tryz.prog laidL ((doorW os).forCall (fun _ _=>0) ⟨#[],args,[]⟩).memory:=by
  rw [MakeChecks.laidMetH_plain _ _ _ (by kernel_rfl)]
  exact laidMet_laidAll args (by kernel_rfl) (by kernel_rfl)
end Go.VX.Seat
end
section
set_option maxRecDepth 4000
namespace Go.VX.Seat
open Go.Proofs
theorem i64_rng {n : Int} (h : (Lit.int .i64 n).wf = true) : I64 n:=by
  simp only [Lit.wf,Bool.and_eq_true,decide_eq_true_eq] at h
  exact ⟨h.1,h.2⟩
section
variable {H : Type} {enc : TypeId × Value→H} {W : World} {gl : List Nat}
theorem reads_op64 : Reads enc Go.Proofs.Tryz.prog W gl 46 (fun _ cs (o : OpV)=>cs = o.row∧OpI o):=by
  intro K st n vs x hE h
  obtain ⟨xs,m,_,_,hl,hx,hf⟩:=DataW.trod_struct Go.Proofs.Tryz.underlying46 h
  rw [c_op] at hl
  match vs,hl with
  | [v0,v1,v2,v3,v4,v5,v6],_ =>
    have get : ∀ (i : Nat) (f : Field) (k : TypeId),(k = 2∨k = 3)→(_ : i < xs.length)→DataW.trod enc Go.Proofs.Tryz.prog W 0 (fun _=>true) true m k (([v0,v1,v2,v3,v4,v5,v6].drop i).take (Go.Proofs.Tryz.prog.cellsOf k)) = xs[i]?→∃ k,([v0,v1,v2,v3,v4,v5,v6].drop i).take 1 = [Value.int .i64 k]∧I64 k:=fun i f k hk hi h=>by
      rw [List.getElem?_eq_getElem hi] at h
      rcases hk with rfl | rfl
      · rw [c_i64] at h
        obtain ⟨k,e,_,hw⟩:=DataW.trod_int Go.Proofs.Tryz.underlying2 h
        exact ⟨k,e,i64_rng hw⟩
      · rw [c_int] at h
        obtain ⟨k,e,_,hw⟩:=DataW.trod_int Go.Proofs.Tryz.underlying3 h
        exact ⟨k,e,i64_rng hw⟩
    have hx : xs.length = 7:=hx
    obtain ⟨k0,e0,r0⟩:=get 0 default 3 (.inr rfl) (by omega) (hf 0 _ rfl)
    obtain ⟨k1,e1,r1⟩:=get 1 default 3 (.inr rfl) (by omega) (hf 1 _ rfl)
    obtain ⟨k2,e2,r2⟩:=get 2 default 3 (.inr rfl) (by omega) (hf 2 _ rfl)
    obtain ⟨k3,e3,r3⟩:=get 3 default 3 (.inr rfl) (by omega) (hf 3 _ rfl)
    obtain ⟨k4,e4,r4⟩:=get 4 default 3 (.inr rfl) (by omega) (hf 4 _ rfl)
    obtain ⟨k5,e5,r5⟩:=get 5 default 2 (.inl rfl) (by omega) (hf 5 _ rfl)
    obtain ⟨k6,e6,r6⟩:=get 6 default 3 (.inr rfl) (by omega) (hf 6 _ rfl)
    simp at e0 e1 e2 e3 e4 e5 e6
    subst e0 e1 e2 e3 e4 e5 e6
    exact ⟨K,[],_,⟨k0,k1,k2,k3,k4,k5,k6⟩,by simpa using hE,KM.le_refl K,VRels.int1 (VRels.int1 (VRels.int1 (VRels.int1 (VRels.int1 (VRels.int1 (VRels.int1 .nil)))))),rfl,⟨r0,r1,r2,r3,r4,r5,r6⟩⟩
theorem reads_num64 : Reads enc Go.Proofs.Tryz.prog W gl 3 (fun _ cs (n : Int)=>cs = [iA n]∧I64 n):=by
  intro K st n vs x hE h
  obtain ⟨k,rfl,_,hw⟩:=DataW.trod_int Go.Proofs.Tryz.underlying3 h
  exact ⟨K,[],[iA k],k,by simpa using hE,KM.le_refl K,.cons (.sc rfl) .nil,rfl,i64_rng hw⟩
theorem reads_ops64 (hg : ∃ g,gl[0]? = some g∧g < W.heap.size) : Reads enc Go.Proofs.Tryz.prog W gl 73 (fun st cs (l : List OpV)=>∃ a,cs = [a]∧OpsAt st 0 st.length a l∧∀ o ∈ l,OpI o):=by
  intro K st n vs x hE h
  obtain ⟨K',L,cs,us,h1,h2,h3,a,rows,rfl,h4,h5,h6⟩:=reads_slice (R:=fun _ cs (o : OpV)=>cs = o.row∧OpI o) (fun _ _ _ _ h=>h) Go.Proofs.Tryz.underlying73 c_op (by decide) hg reads_op64 K st n vs x hE h
  obtain rfl:=rows_map (f:=OpV.row) h5 fun i i1 i2=>(h6 i i1 i2).1
  exact ⟨K',L,[a],us,h1,h2,h3,a,rfl,h4,fun o ho=>by
    obtain ⟨i,hi,rfl⟩:=List.getElem_of_mem ho
    exact (h6 i (by simpa using hi) hi).2⟩
theorem reads_nums64 (hg : ∃ g,gl[0]? = some g∧g < W.heap.size) : Reads enc Go.Proofs.Tryz.prog W gl 22 (fun st cs (l : List Int)=>∃ a,cs = [a]∧IntsAt st 0 st.length a l∧∀ n ∈ l,I64 n):=by
  intro K st n vs x hE h
  obtain ⟨K',L,cs,us,h1,h2,h3,a,rows,rfl,h4,h5,h6⟩:=reads_slice (R:=fun _ cs (o : Int)=>cs = [iA o]∧I64 o) (fun _ _ _ _ h=>h) Go.Proofs.Tryz.underlying22 c_int (by decide) hg reads_num64 K st n vs x hE h
  obtain rfl:=rows_map (f:=fun n : Int=>[iA n]) h5 fun i i1 i2=>(h6 i i1 i2).1
  exact ⟨K',L,[a],us,h1,h2,h3,a,rfl,h4,fun o ho=>by
    obtain ⟨i,hi,rfl⟩:=List.getElem_of_mem ho
    exact (h6 i (by simpa using hi) hi).2⟩
theorem reads_blk64 (hg : ∃ g,gl[0]? = some g∧g < W.heap.size) : Reads enc Go.Proofs.Tryz.prog W gl 77 (fun st cs (b : BlkV)=>∃ a,cs = b.row a∧OpsAt st 0 st.length a b.ops∧BlkI b):=by
  intro K st n vs x hE h
  obtain ⟨xs,m,_,_,hl,hx,hf⟩:=DataW.trod_struct Go.Proofs.Tryz.underlying77 h
  rw [c_blk] at hl
  have hx : xs.length = 3:=hx
  match vs,hl with
  | [v0,v1,v2,v3,v4,v5],_ =>
    have f0 : DataW.trod enc Go.Proofs.Tryz.prog W 0 (fun _=>true) true m 73 (([v0,v1,v2,v3,v4,v5].drop 0).take (Go.Proofs.Tryz.prog.cellsOf 73)) = xs[0]?:=hf 0 _ rfl
    have f1 : DataW.trod enc Go.Proofs.Tryz.prog W 0 (fun _=>true) true m 75 (([v0,v1,v2,v3,v4,v5].drop 1).take (Go.Proofs.Tryz.prog.cellsOf 75)) = xs[1]?:=hf 1 _ rfl
    have f2 : DataW.trod enc Go.Proofs.Tryz.prog W 0 (fun _=>true) true m 3 (([v0,v1,v2,v3,v4,v5].drop 5).take (Go.Proofs.Tryz.prog.cellsOf 3)) = xs[2]?:=hf 2 _ rfl
    rw [List.getElem?_eq_getElem (by omega)] at f0 f1 f2
    simp only [c_ops,c_end,c_int,List.drop_zero,List.drop_succ_cons,List.take_succ_cons,List.take_zero] at f0 f1 f2
    obtain ⟨ys,m2,_,_,_,hy,hg2⟩:=DataW.trod_struct Go.Proofs.Tryz.underlying75 f1
    have hy : ys.length = 4:=hy
    have g0 : DataW.trod enc Go.Proofs.Tryz.prog W 0 (fun _=>true) true m2 3 (([v1,v2,v3,v4].drop 0).take (Go.Proofs.Tryz.prog.cellsOf 3)) = ys[0]?:=hg2 0 _ rfl
    have g1 : DataW.trod enc Go.Proofs.Tryz.prog W 0 (fun _=>true) true m2 3 (([v1,v2,v3,v4].drop 1).take (Go.Proofs.Tryz.prog.cellsOf 3)) = ys[1]?:=hg2 1 _ rfl
    have g2 : DataW.trod enc Go.Proofs.Tryz.prog W 0 (fun _=>true) true m2 3 (([v1,v2,v3,v4].drop 2).take (Go.Proofs.Tryz.prog.cellsOf 3)) = ys[2]?:=hg2 2 _ rfl
    have g3 : DataW.trod enc Go.Proofs.Tryz.prog W 0 (fun _=>true) true m2 3 (([v1,v2,v3,v4].drop 3).take (Go.Proofs.Tryz.prog.cellsOf 3)) = ys[3]?:=hg2 3 _ rfl
    rw [List.getElem?_eq_getElem (by omega)] at g0 g1 g2 g3
    simp only [c_int,List.drop_zero,List.drop_succ_cons,List.take_succ_cons,List.take_zero] at g0 g1 g2 g3
    obtain ⟨k1,e1,_,w1⟩:=DataW.trod_int Go.Proofs.Tryz.underlying3 g0
    obtain ⟨k2,e2,_,w2⟩:=DataW.trod_int Go.Proofs.Tryz.underlying3 g1
    obtain ⟨k3,e3,_,w3⟩:=DataW.trod_int Go.Proofs.Tryz.underlying3 g2
    obtain ⟨k4,e4,_,w4⟩:=DataW.trod_int Go.Proofs.Tryz.underlying3 g3
    obtain ⟨k5,e5,_,w5⟩:=DataW.trod_int Go.Proofs.Tryz.underlying3 f2
    simp at e1 e2 e3 e4 e5
    subst e1 e2 e3 e4 e5
    obtain ⟨K',L,cs,ops,h1,h2,h3,a,rfl,h4,h5⟩:=reads_ops64 hg K st m _ _ hE f0
    cases h3 with
    | cons h3 _=>exact ⟨K',L,_,⟨ops,⟨k1,k2,k3,k4⟩,k5⟩,h1,h2,.cons h3 (VRels.int1 (VRels.int1 (VRels.int1 (VRels.int1 (VRels.int1 .nil))))),a,rfl,h4,h5,⟨i64_rng w1,i64_rng w2,i64_rng w3,i64_rng w4⟩,i64_rng w5⟩
theorem reads_blks64 (hg : ∃ g,gl[0]? = some g∧g < W.heap.size) : Reads enc Go.Proofs.Tryz.prog W gl 23 (fun st cs (l : List BlkV)=>∃ a,cs = [a]∧BlksAt st 0 st.length a l∧∀ b ∈ l,BlkI b):=by
  intro K st n vs x hE h
  obtain ⟨K',L,cs,us,h1,h2,h3,a,rows,rfl,h4,h5,h6⟩:=reads_slice (R:=fun st cs (b : BlkV)=>∃ a,cs = b.row a∧OpsAt st 0 st.length a b.ops∧BlkI b) (fun st L cs u h=>by
    obtain ⟨a,h1,h2,h3⟩:=h
    exact ⟨a,h1,(ArrAt.mono h2 L).wide0 (Nat.le_refl _) (by simp),h3⟩) Go.Proofs.Tryz.underlying23 c_blk (by decide) hg (reads_blk64 hg) K st n vs x hE h
  have hrow : rows = us.mapIdx fun i b=>b.row ((rows[i]?.getD []).headD (iA 0)):=List.ext_getElem (by simpa using h5) fun i i1 i2=>by
    obtain ⟨a,e,_⟩:=h6 i i1 (by omega)
    rw [List.getElem_mapIdx,List.getElem?_eq_getElem i1,e]
    rfl
  refine ⟨K',L,[a],us,h1,h2,h3,a,rfl,⟨fun i=>(rows[i]?.getD []).headD (iA 0),by rw [←hrow]; exact h4,fun i hi=>?_⟩,fun b hb=>?_⟩
  case refine_2 =>
    obtain ⟨i,hi,rfl⟩:=List.getElem_of_mem hb
    obtain ⟨_,_,_,hB⟩:=h6 i (by omega) hi
    exact hB
  obtain ⟨a,e,ha,_⟩:=h6 i (by omega) hi
  show OpsAt _ _ _ ((rows[i]?.getD []).headD (iA 0)) _
  rw [List.getElem?_eq_getElem (by omega),e]
  exact ha
theorem reads_unit64 (hg : ∃ g,gl[0]? = some g∧g < W.heap.size) : Reads enc Go.Proofs.Tryz.prog W gl 25 (fun st cs (u : UnitV)=>UnitAt st 0 st.length (.agg cs) u∧UnitI u):=by
  intro K st n vs x hE h
  obtain ⟨xs,m,_,_,hl,hx,hf⟩:=DataW.trod_struct Go.Proofs.Tryz.underlying25 h
  rw [c_unit] at hl
  have hx : xs.length = 6:=hx
  match vs,hl with
  | [v0,v1,v2,v3,v4,v5],_ =>
    have f0 : DataW.trod enc Go.Proofs.Tryz.prog W 0 (fun _=>true) true m 22 (([v0,v1,v2,v3,v4,v5].drop 0).take (Go.Proofs.Tryz.prog.cellsOf 22)) = xs[0]?:=hf 0 _ rfl
    have f1 : DataW.trod enc Go.Proofs.Tryz.prog W 0 (fun _=>true) true m 3 (([v0,v1,v2,v3,v4,v5].drop 1).take (Go.Proofs.Tryz.prog.cellsOf 3)) = xs[1]?:=hf 1 _ rfl
    have f2 : DataW.trod enc Go.Proofs.Tryz.prog W 0 (fun _=>true) true m 3 (([v0,v1,v2,v3,v4,v5].drop 2).take (Go.Proofs.Tryz.prog.cellsOf 3)) = xs[2]?:=hf 2 _ rfl
    have f3 : DataW.trod enc Go.Proofs.Tryz.prog W 0 (fun _=>true) true m 3 (([v0,v1,v2,v3,v4,v5].drop 3).take (Go.Proofs.Tryz.prog.cellsOf 3)) = xs[3]?:=hf 3 _ rfl
    have f4 : DataW.trod enc Go.Proofs.Tryz.prog W 0 (fun _=>true) true m 3 (([v0,v1,v2,v3,v4,v5].drop 4).take (Go.Proofs.Tryz.prog.cellsOf 3)) = xs[4]?:=hf 4 _ rfl
    have f5 : DataW.trod enc Go.Proofs.Tryz.prog W 0 (fun _=>true) true m 23 (([v0,v1,v2,v3,v4,v5].drop 5).take (Go.Proofs.Tryz.prog.cellsOf 23)) = xs[5]?:=hf 5 _ rfl
    rw [List.getElem?_eq_getElem (by omega)] at f0 f1 f2 f3 f4 f5
    simp only [c_ints,c_blks,c_int,List.drop_zero,List.drop_succ_cons,List.take_succ_cons,List.take_zero] at f0 f1 f2 f3 f4 f5
    obtain ⟨k1,e1,_,w1⟩:=DataW.trod_int Go.Proofs.Tryz.underlying3 f1
    obtain ⟨k2,e2,_,w2⟩:=DataW.trod_int Go.Proofs.Tryz.underlying3 f2
    obtain ⟨k3,e3,_,w3⟩:=DataW.trod_int Go.Proofs.Tryz.underlying3 f3
    obtain ⟨k4,e4,_,w4⟩:=DataW.trod_int Go.Proofs.Tryz.underlying3 f4
    simp at e1 e2 e3 e4
    subst e1 e2 e3 e4
    obtain ⟨K1,L1,cs,sz,h1,h2,h3,a,rfl,h4,i1⟩:=reads_nums64 hg K st m _ _ hE f0
    obtain ⟨K2,L2,cs,bl,g1,g2,g3,b,rfl,g4,i2⟩:=reads_blks64 hg K1 (st++L1) m _ _ h1 f5
    cases h3 with
    | cons h3 _ =>
      refine ⟨K2,L1++L2,_,⟨sz,k1,k2,k3,k4,bl⟩,by simpa using g1,KM.le_trans h2 g2,.cons (h3.mono g2) (VRels.int1 (VRels.int1 (VRels.int1 (VRels.int1 g3)))),⟨a,b,rfl,?_,?_⟩,⟨i1,i64_rng w1,i64_rng w2,i64_rng w3,i64_rng w4,i2⟩⟩
      · have:=(ArrAt.mono h4 L2).wide0 (lo':=0) (hi':=(st++L1++L2).length) (Nat.le_refl _) (by simp)
        simpa using this
      · simpa using g4
end
end Go.VX.Seat
end
open Go.VX.AV renaming cell? → xa, toV → xb
open Int renaming reduceAdd → xc, reduceLE → xd, reduceLT → xe, reduceNeg → xf, reduceToNat → xg
open Nat renaming reduceAdd → xh, reduceEqDiff → xi, reduceLeDiff → xj, reduceMul → xk, reduceSub → xl
open Go.VX.VOpd renaming ev → xm
open Go.VX renaming asInt? → xn, asNat? → xp, cellVal → xq, cellsV → xr, fillA → xu, partsEv → xv, resOf → xw, splice → xy, tupOf → xz, zeroes → ya
section
set_option maxRecDepth 4000
namespace Go.VX.Seat
open Go.Proofs Go.Lib
theorem nameK_eq (k : Int) : nameK k = ⟨(nmK k).toArray⟩:=by
  unfold nmK
  cases nameK k
  rfl
theorem Bl.get {S0 s : St} {bx : Nat} {l : List UInt8} (h : Bl S0 s bx l) {b : Nat} {x : Box} (hx : S0[b]? = some x) : s[b]? = some x:=by
  obtain ⟨k,rfl⟩:=h.pre
  rw [List.getElem?_append_left (List.getElem?_eq_some_iff.1 hx).1]
  exact hx
theorem Bl.gb {S0 s : St} {bx : Nat} {l : List UInt8} (h : Bl S0 s bx l) (hg : GB S0) : GB s:=by
  obtain ⟨k,rfl⟩:=h.pre
  exact hg.app k
theorem b240_all : ∀ j : Fin 25,(decide (andI (usesK ((j.val : Int) + 1)) 240≠0) == hasN ((j.val : Int) + 1)) = true:=by decide +kernel
theorem b240 {k : Int} (h : oneK k = true) : decide (andI (usesK k) 240≠0) = hasN k:=by
  have hk:=oneK_bnd h
  have:=b240_all ⟨(k - 1).toNat,by omega⟩
  simp only at this
  rw [show (((k - 1).toNat : Nat) : Int) + 1 = k by omega] at this
  simpa using this
section
variable {X : Cx} {st : St}
set_option maxHeartbeats 2000000 in
theorem j_code_opText (h : OnH X) (hg : GB st) (o : OpV) (ho : oneK o.k = true) (hi : OpI o) : J X.P X.F X.H (.call 41 [.agg o.row] st (.ret (sA (opX o))) st):=by
  refine pure_intro (by rw [h.F]; rfl) rfl ?_
  obtain ⟨t1,_,_,_,_,_,_,_⟩:=bits ho
  have t240:=b240 ho
  have l1:=grdX_len hi.g
  have l2:=dstX_len hi
  have l3:=numX_len hi
  have l4:=nmK_len o.k
  have l5:=catI_len (operL_I hi)
  have l6:=operL_len o
  have n1:=itoa_len64 hi.g
  have n2:=itoa_len64 hi.d
  have n3:=itoa_len64 hi.n
  simp only [v_code_opText,OpV.row,kB,kZ,kD,kE,xl,xg,xk,xc,xd,xe,xf,xj,xi,xh,reduceIte,reduceCtorEq,xy,xw,xq]
  refine callO_same (j_code_of h.toOn (hg.glob.ext (Ext.of _ _)) o.k) ?_
  simp only [nameK_eq,v_allocF,kB,kZ,kD,kE,xl,xg,xk,xc,xd,xe,xf,xj,xi,xh,reduceIte,reduceCtorEq,xy,xw,xq]
  obtain ⟨S0,hS0⟩ : ∃ S0 : St,S0 = st++[⟨[iA o.k,iA o.d,iA o.a,iA o.b,iA o.c,iA o.n,iA o.g],0,0⟩,⟨[iA (usesK o.k),iA (classK o.k),.sc (.string ⟨(nmK o.k).toArray⟩)],0,1⟩]:=⟨_,rfl⟩
  have hB0 : Bl S0 (st++[⟨[iA o.k,iA o.d,iA o.a,iA o.b,iA o.c,iA o.n,iA o.g],0,0⟩,⟨[iA (usesK o.k),iA (classK o.k),.sc (.string ⟨(nmK o.k).toArray⟩)],0,1⟩,⟨bldCells [],3,0⟩]) (st.length + 2) []:=⟨⟨[⟨bldCells [],3,0⟩],by rw [hS0]; simp⟩,by rw [hS0]; simp,0,by simp⟩
  have hg0 : GB S0:=by rw [hS0]; exact hg.app _
  have g1 : S0[st.length + 0]? = some ⟨o.row,0,0⟩:=by rw [hS0]; simp [OpV.row]
  have g2 : S0[st.length + 1]? = some ⟨[iA (usesK o.k),iA (classK o.k),.sc (.string ⟨(nmK o.k).toArray⟩)],0,1⟩:=by rw [hS0]; simp
  have q1 : ∀ {s l},Bl S0 s (st.length + 2) l→∀ k,St.at1 s (st.length + 0) k = o.row[k]?:=fun hb k=>at1_box (hb.get g1) (by decide) k
  have q2 : ∀ {s l},Bl S0 s (st.length + 2) l→∀ k,St.at1 s (st.length + 1) k = ([iA (usesK o.k),iA (classK o.k),.sc (.string ⟨(nmK o.k).toArray⟩)] : List AV)[k]?:=fun hb k=>at1_box (hb.get g2) (by decide) k
  have q3 : ∀ {s l},Bl S0 s (st.length + 2) l→St.atN s (st.length + 0) 0 7 = some o.row:=fun hb=>by
    rw [atN_box (hb.get g1) (by decide) 0 7 (by simp [OpV.row])]
    rfl
  have hpre0 : ∃ k,S0 = st++k:=⟨_,hS0⟩
  have r6 : o.row[6]? = some (iA o.g):=rfl
  have r1 : o.row[1]? = some (iA o.d):=rfl
  have r5 : o.row[5]? = some (iA o.n):=rfl
  have hcells : (⟨[iA 1,iA 81,iA 5,.sc (.string ⟨#[]⟩)],3,0⟩ : Box) = ⟨bldCells [],3,0⟩:=rfl
  rw [hcells]
  generalize (st++[⟨[iA o.k,iA o.d,iA o.a,iA o.b,iA o.c,iA o.n,iA o.g],0,0⟩,⟨[iA (usesK o.k),iA (classK o.k),.sc (.string ⟨(nmK o.k).toArray⟩)],0,1⟩,⟨bldCells [],3,0⟩] : St) = S at *
  clear hS0 hcells
  refine anyCond m0 (fun e s=>e 1 = .ptr (st.length + 0) 0∧e 3 = .ptr (st.length + 1) 0∧e 5 = .ptr (st.length + 2) 0∧Bl S0 s (st.length + 2) (grdX o.g)) ?_ ?_
  · refine condO_intro ?_ ?_<;>intro hc
    · have a1:=fun ox oy=>k_add X.P ox oy [63,32] (itoa o.g) (by simp; omega)
      have a2:=fun ox oy=>k_add X.P ox oy (63 :: 32 :: itoa o.g) [32] (by simp; omega)
      simp only [q1 hB0,r6,kB,kZ,kD,kE,xl,xg,xk,xc,xd,xe,xf,xj,xi,xh,reduceIte,reduceCtorEq,xy,xw,xq]
      refine callO_same (j_Itoa h (hB0.gb hg0) o.g hi.g) ?_
      simp only [a1,a2,kB,kZ,kD,kE,xl,xg,xk,xc,xd,xe,xf,xj,xi,xh,reduceIte,reduceCtorEq,xy,xw,xq]
      refine callO_write h hB0 (by simp) (by simp; omega) ?_
      intro s' hB' _
      simp only [kB,kZ,kD,kE,xl,xg,xk,xc,xd,xe,xf,xj,xi,xh,reduceIte,reduceCtorEq,xy,xw,xq]
      unfold grdX
      rw [if_pos hc]
      exact hB'
    · simp only [kB,kZ,kD,kE,xl,xg,xk,xc,xd,xe,xf,xj,xi,xh,reduceIte,reduceCtorEq,xy,xw,xq]
      unfold grdX
      rw [if_neg (by rw [hc]; decide)]
      exact hB0
  clear hB0
  rintro e s ⟨k1,k3,k5,hB⟩
  simp only [k1,k3,k5,q2 hB,c_and,t1,kB,kZ,kD,kE,xl,xg,xk,xc,xd,xe,xf,xj,xi,xh,reduceIte,reduceCtorEq,xy,xw,xq]
  refine anyCond m0 (fun e s=>e 1 = .ptr (st.length + 0) 0∧e 3 = .ptr (st.length + 1) 0∧e 5 = .ptr (st.length + 2) 0∧Bl S0 s (st.length + 2) (grdX o.g++dstX o)) ?_ ?_
  · refine condO_intro ?_ ?_<;>intro hc
    · have a1:=fun ox oy=>k_add X.P ox oy (itoa o.d) [32,61,32] (by simp; omega)
      simp only [k1,k3,k5,q1 hB,r1,kB,kZ,kD,kE,xl,xg,xk,xc,xd,xe,xf,xj,xi,xh,reduceIte,reduceCtorEq,xy,xw,xq]
      refine callO_same (j_Itoa h (hB.gb hg0) o.d hi.d) ?_
      simp only [k1,k3,k5,a1,kB,kZ,kD,kE,xl,xg,xk,xc,xd,xe,xf,xj,xi,xh,reduceIte,reduceCtorEq,xy,xw,xq]
      refine callO_write h hB (by omega) (by simp; omega) ?_
      intro s' hB' _
      simp only [k1,k3,k5,kB,kZ,kD,kE,xl,xg,xk,xc,xd,xe,xf,xj,xi,xh,reduceIte,reduceCtorEq,xy,xw,xq]
      unfold dstX
      rw [if_pos hc]
      exact hB'
    · simp only [k1,k3,k5,kB,kZ,kD,kE,xl,xg,xk,xc,xd,xe,xf,xj,xi,xh,reduceIte,reduceCtorEq,xy,xw,xq]
      unfold dstX
      rw [if_neg (by rw [hc]; decide),List.append_nil]
      exact hB
  clear hB k1 k3 k5
  rintro e s ⟨k1,k3,k5,hB⟩
  simp only [k1,k3,k5,q2 hB,kB,kZ,kD,kE,xl,xg,xk,xc,xd,xe,xf,xj,xi,xh,reduceIte,reduceCtorEq,xy,xw,xq]
  refine callO_write h hB (by simp; omega) (by omega) ?_
  intro s2 hB2 _
  clear hB
  have hB:=hB2
  clear hB2
  simp only [k1,k3,k5,q3 hB,kB,kZ,kD,kE,xl,xg,xk,xc,xd,xe,xf,xj,xi,xh,reduceIte,reduceCtorEq,xy,xw,xq]
  refine callO_own (w_code_Read h.toOn (hB.gb hg0).glob o ho) ?_
  intro w m hown
  have hown:=hown.low (lo':=st.length + 3) (by have:=hB.lt; omega)
  have hB:=hB.app m
  have hlw:=hown.arr.len
  simp only [List.length_map] at hlw
  generalize s2++m = s3 at *
  simp only [k1,k3,k5,hlw,kB,kZ,kD,kE,xl,xg,xk,xc,xd,xe,xf,xj,xi,xh,reduceIte,reduceCtorEq,xy,xw,xq]
  refine anyLoop (mB m0) (fun e s=>e 1 = .ptr (st.length + 0) 0∧e 3 = .ptr (st.length + 1) 0∧e 5 = .ptr (st.length + 2) 0∧Bl S0 s (st.length + 2) (grdX o.g++dstX o++nmK o.k++catI (operL o))) ?_ ?_
  · refine loop_inv (fun k e s=>∃ i : Nat,i + k = (operL o).length∧e 1 = .ptr (st.length + 0) 0∧e 3 = .ptr (st.length + 1) 0∧e 5 = .ptr (st.length + 2) 0∧e 36 = w∧e 37 = iA ((operL o).length : Int)∧e 38 = iA i∧OwnS s (st.length + 3) w 1 (rowsI (operL o))∧Bl S0 s (st.length + 2) (grdX o.g++dstX o++nmK o.k++catI ((operL o).take i))) ?_ (operL o).length ?_
    case refine_2=>exact ⟨0,by omega,k1,k3,k5,rfl,rfl,rfl,hown,by simpa [catI] using hB⟩
    clear hB hown k1 k3 k5
    rintro k e s ⟨i,hik,k1,k3,k5,k36,k37,k38,hown,hB⟩
    simp only [k1,k3,k5,k36,k37,k38,kB,kZ,kD,kE,xl,xg,xk,xc,xd,xe,xf,xj,xi,xh,reduceIte,reduceCtorEq,xy,xw,xq]
    refine condO_intro ?_ ?_<;>intro hc
    case refine_2 =>
      have hi : i = (operL o).length:=by have:=of_decide_eq_false hc; omega
      subst hi
      simp only [k1,k3,k5,kB,kZ,kD,kE,xl,xg,xk,xc,xd,xe,xf,xj,xi,xh,reduceIte,reduceCtorEq,xy,xw,xq]
      rw [List.take_length] at hB
      exact hB
    have hii : i < (operL o).length:=by have:=of_decide_eq_true hc; omega
    obtain ⟨b1,o1,he1,hn1,ha1,_⟩:=hown.arr.get i (by simpa using hii)
    have p1:=ha1 [] 0 (by omega)
    simp only [List.append_nil,List.getElem_map,Nat.add_zero,List.getElem?_cons_zero] at p1
    have hx:=operL_I hi _ (List.getElem_mem hii)
    have htk:=catI_take hii
    have hcl:=catI_len (ns:=(operL o).take i) fun x hx=>operL_I hi x (List.mem_of_mem_take hx)
    have hll : ((operL o).take i).length≤3:=by simp; omega
    generalize (operL o)[i] = n at *
    have hil:=itoa_len64 hx
    have a1:=fun ox oy=>k_add X.P ox oy [32] (itoa n) (by simp; omega)
    have hwi : IntKind.wrap .i64 ((i : Int) + 1) = ((i + 1 : Nat) : Int):=by rw [wrap_small (by omega) (by omega)]; omega
    simp only [k1,k3,k5,k36,k37,k38,he1,p1,kB,kZ,kD,kE,xl,xg,xk,xc,xd,xe,xf,xj,xi,xh,reduceIte,reduceCtorEq,xy,xw,xq]
    refine callO_same (j_Itoa h (hB.gb hg0) n hx) ?_
    simp only [k1,k3,k5,k36,k37,k38,a1,kB,kZ,kD,kE,xl,xg,xk,xc,xd,xe,xf,xj,xi,xh,reduceIte,reduceCtorEq,xy,xw,xq]
    refine callO_write h hB (by simp; omega) (by simp; omega) ?_
    intro s' hB' hag
    have hown':=hown.agree hag fun b hb e=>by have:=(hown.bnd b hb).1; omega
    simp only [k1,k3,k5,k36,k37,k38,hwi,kB,kZ,kD,kE,xl,xg,xk,xc,xd,xe,xf,xj,xi,xh,reduceIte,reduceCtorEq,xy,xw,xq]
    refine ⟨k - 1,by omega,i + 1,by omega,rfl,hown',?_⟩
    rw [htk,← List.append_assoc]
    exact hB'
  clear hB hown k1 k3 k5
  rintro e s ⟨k1,k3,k5,hB⟩
  simp only [k1,k3,k5,q2 hB,c_and,t240,kB,kZ,kD,kE,xl,xg,xk,xc,xd,xe,xf,xj,xi,xh,reduceIte,reduceCtorEq,xy,xw,xq]
  refine anyCond m0 (fun e s=>e 5 = .ptr (st.length + 2) 0∧Bl S0 s (st.length + 2) (opX o)) ?_ ?_
  · refine condO_intro ?_ ?_<;>intro hc
    · have a1:=fun ox oy=>k_add X.P ox oy [32] (itoa o.n) (by simp; omega)
      simp only [k1,k3,k5,q1 hB,r5,kB,kZ,kD,kE,xl,xg,xk,xc,xd,xe,xf,xj,xi,xh,reduceIte,reduceCtorEq,xy,xw,xq]
      refine callO_same (j_word_Show h (hB.gb hg0) o.n hi.n) ?_
      simp only [k1,k3,k5,a1,kB,kZ,kD,kE,xl,xg,xk,xc,xd,xe,xf,xj,xi,xh,reduceIte,reduceCtorEq,xy,xw,xq]
      refine callO_write h hB (by simp; omega) (by simp; omega) ?_
      intro s' hB' _
      simp only [k1,k3,k5,kB,kZ,kD,kE,xl,xg,xk,xc,xd,xe,xf,xj,xi,xh,reduceIte,reduceCtorEq,xy,xw,xq]
      have : opX o = grdX o.g++dstX o++nmK o.k++catI (operL o)++32 :: itoa o.n:=by unfold opX numX; rw [if_pos hc]
      rw [this]
      exact hB'
    · simp only [k1,k3,k5,kB,kZ,kD,kE,xl,xg,xk,xc,xd,xe,xf,xj,xi,xh,reduceIte,reduceCtorEq,xy,xw,xq]
      have : opX o = grdX o.g++dstX o++nmK o.k++catI (operL o):=by unfold opX numX; rw [if_neg (by rw [hc]; decide),List.append_nil]
      rw [this]
      exact hB
  clear hB k1 k3 k5
  rintro e s ⟨k5,hB⟩
  have hlen:=opX_len hi
  simp only [k5,kB,kZ,kD,kE,xl,xg,xk,xc,xd,xe,xf,xj,xi,xh,reduceIte,reduceCtorEq,xy,xw,xq]
  refine callO_same (j_BString h hB (by omega)) ?_
  simp only [kB,kZ,kD,kE,xl,xg,xk,xc,xd,xe,xf,xj,xi,xh,reduceIte,reduceCtorEq,xy,xw,xq]
  obtain ⟨k,e1⟩:=hB.pre
  obtain ⟨k0,e0⟩:=hpre0
  exact ⟨k0++k,by rw [e1,e0,List.append_assoc]⟩
end
end Go.VX.Seat
end
section
set_option maxRecDepth 4000
namespace Go.VX.Seat
open Go.Proofs Go.Lib
section
variable {X : Cx} {st : St}
theorem opR_sl {K : Env→St→Post3→Prop} {Q : Post3} {d : Option Nat} {env : Env} {s : St} {b o n esz l u : Nat} {f : Bool} {x : VOpd} {lo hi : Option VOpd} (ex : x.ev env = .sl b o n esz f) (hl : bnd env 0 lo = some l) (hh : bnd env n hi = some u) (h1 : l≤u) (h2 : u≤n)
    (H : K (env.put d (.sl b (o + l * esz) (u - l) esz (f && u == n))) s Q) : opR X K d [] env s Q (vop X.P (.slice none esz x lo hi none) env s):=by
  rw [v_slice,ex]
  simp only [hl,hh,show bnd env n none = some n from rfl]
  rw [if_pos ⟨h1,h2,Nat.le_refl _,by simp,trivial⟩]
  exact ⟨keptA_nil _ _ _,H⟩
abbrev EndV.row (e : EndV) : List AV:=[iA e.k,iA e.a,iA e.t,iA e.e]
set_option maxHeartbeats 2000000 in
theorem j_code_endText (h : OnH X) (hg : GB st) (e : EndV) (hk : 1≤e.k∧e.k≤4) (hi : EndI e) : J X.P X.F X.H (.call 42 [.agg e.row] st (.ret (sA (endX e))) st):=by
  refine pure_intro (by rw [h.F]; rfl) rfl ?_
  have ge : ∀ L k,St.at1 (st++L) 1 k = glob_bireme_code_ends[k]?:=fun L k=>by
    have h1:=hg 1 ⟨glob_bireme_code_ends,1,0⟩ rfl
    exact at1_box (by rw [List.getElem?_append_left (List.getElem?_eq_some_iff.1 h1).1]; exact h1) (by decide) k
  have hgs:=fun L=>hg.app L
  obtain ⟨k,a,t,e⟩:=e
  obtain ⟨_,ha,ht,he⟩:=hi
  have ha : I64 a:=ha
  have ht : I64 t:=ht
  have he : I64 e:=he
  have hk : 1≤k∧k≤4:=hk
  have na:=itoa_len64 ha
  have nt:=itoa_len64 ht
  have ne:=itoa_len64 he
  have w0 : IntKind.wrap .i64 (0 + 1) = 1:=rfl
  have w1 : IntKind.wrap .i64 (1 + 1) = 2:=rfl
  have w2 : IntKind.wrap .i64 (2 + 1) = 3:=rfl
  have m1 : IntKind.wrap .i64 (1 - 1) = 0:=rfl
  have m2 : IntKind.wrap .i64 (2 - 1) = 1:=rfl
  have m3 : IntKind.wrap .i64 (3 - 1) = 2:=rfl
  have m4 : IntKind.wrap .i64 (4 - 1) = 3:=rfl
  have aa:=fun ox oy=>k_add X.P ox oy [32] (itoa a) (by simp; omega)
  have at_:=fun ox oy=>k_add X.P ox oy [32] (itoa t) (by simp; omega)
  have ae:=fun ox oy=>k_add X.P ox oy [32] (itoa e) (by simp; omega)
  have hk' : k = 1∨k = 2∨k = 3∨k = 4:=by omega
  rcases hk' with rfl | rfl | rfl | rfl
  · have b1:=fun ox oy=>k_add X.P ox oy [106,117,109,112] (32 :: itoa t) (by simp; omega)
    simp only [v_code_endText,ge,glob_bireme_code_ends,m1,Int.reduceEq,Int.reduceSub,kB,kZ,kD,kE,xl,xg,xk,xc,xd,xe,xf,xj,xi,xh,reduceIte,reduceCtorEq,xy,xw,xq]
    refine opR_sl (l:=1) (u:=3) rfl rfl rfl (by omega) (by omega) ?_
    simp only [ge,glob_bireme_code_ends,m1,Int.reduceEq,Int.reduceSub,kB,kZ,kD,kE,xl,xg,xk,xc,xd,xe,xf,xj,xi,xh,reduceIte,reduceCtorEq,xy,xw,xq]
    refine opR_sl (l:=0) (u:=1) rfl rfl rfl (by omega) (by omega) ?_
    simp only [ge,glob_bireme_code_ends,m1,Int.reduceEq,Int.reduceSub,kB,kZ,kD,kE,xl,xg,xk,xc,xd,xe,xf,xj,xi,xh,reduceIte,reduceCtorEq,xy,xw,xq]
    refine loop_unroll ?_
    simp only [w0,kB,kZ,kD,kE,xl,xg,xk,xc,xd,xe,xf,xj,xi,xh,reduceIte,reduceCtorEq,xy,xw,xq]
    refine callO_same (j_Itoa h (hgs _) t ht) ?_
    simp only [at_,b1,w0,kB,kZ,kD,kE,xl,xg,xk,xc,xd,xe,xf,xj,xi,xh,reduceIte,reduceCtorEq,xy,xw,xq]
    refine loop_unroll ?_
    simp only [kB,kZ,kD,kE,xl,xg,xk,xc,xd,xe,xf,xj,xi,xh,reduceIte,reduceCtorEq,xy,xw,xq]
    refine ⟨?_,_,rfl⟩
    simp [endX,endNm,endL,catI]
  · have b1:=fun ox oy=>k_add X.P ox oy [98,114,97,110,99,104] (32 :: itoa a) (by simp; omega)
    have b2:=fun ox oy=>k_add X.P ox oy ([98,114,97,110,99,104]++32 :: itoa a) (32 :: itoa t) (by simp; omega)
    have b3:=fun ox oy=>k_add X.P ox oy ([98,114,97,110,99,104]++32 :: itoa a++32 :: itoa t) (32 :: itoa e) (by simp; omega)
    simp only [List.cons_append,List.nil_append,List.append_assoc] at b1 b2 b3
    simp only [v_code_endText,ge,glob_bireme_code_ends,m2,Int.reduceEq,Int.reduceSub,kB,kZ,kD,kE,xl,xg,xk,xc,xd,xe,xf,xj,xi,xh,reduceIte,reduceCtorEq,xy,xw,xq]
    refine opR_sl (l:=0) (u:=3) rfl rfl rfl (by omega) (by omega) ?_
    simp only [ge,glob_bireme_code_ends,m2,Int.reduceEq,Int.reduceSub,kB,kZ,kD,kE,xl,xg,xk,xc,xd,xe,xf,xj,xi,xh,reduceIte,reduceCtorEq,xy,xw,xq]
    refine loop_unroll ?_
    simp only [w0,kB,kZ,kD,kE,xl,xg,xk,xc,xd,xe,xf,xj,xi,xh,reduceIte,reduceCtorEq,xy,xw,xq]
    refine callO_same (j_Itoa h (hgs _) a ha) ?_
    simp only [aa,b1,w0,kB,kZ,kD,kE,xl,xg,xk,xc,xd,xe,xf,xj,xi,xh,reduceIte,reduceCtorEq,xy,xw,xq]
    refine loop_unroll ?_
    simp only [w1,kB,kZ,kD,kE,xl,xg,xk,xc,xd,xe,xf,xj,xi,xh,reduceIte,reduceCtorEq,xy,xw,xq]
    refine callO_same (j_Itoa h (hgs _) t ht) ?_
    simp only [at_,b2,w1,kB,kZ,kD,kE,xl,xg,xk,xc,xd,xe,xf,xj,xi,xh,reduceIte,reduceCtorEq,xy,xw,xq]
    refine loop_unroll ?_
    simp only [w2,kB,kZ,kD,kE,xl,xg,xk,xc,xd,xe,xf,xj,xi,xh,reduceIte,reduceCtorEq,xy,xw,xq]
    refine callO_same (j_Itoa h (hgs _) e he) ?_
    simp only [ae,b3,w2,kB,kZ,kD,kE,xl,xg,xk,xc,xd,xe,xf,xj,xi,xh,reduceIte,reduceCtorEq,xy,xw,xq]
    refine loop_unroll ?_
    simp only [kB,kZ,kD,kE,xl,xg,xk,xc,xd,xe,xf,xj,xi,xh,reduceIte,reduceCtorEq,xy,xw,xq]
    refine ⟨?_,_,rfl⟩
    simp [endX,endNm,endL,catI]
  · have b1:=fun ox oy=>k_add X.P ox oy [114,101,116,117,114,110] (32 :: itoa a) (by simp; omega)
    simp only [v_code_endText,ge,glob_bireme_code_ends,m3,Int.reduceEq,Int.reduceSub,kB,kZ,kD,kE,xl,xg,xk,xc,xd,xe,xf,xj,xi,xh,reduceIte,reduceCtorEq,xy,xw,xq]
    refine opR_sl (l:=0) (u:=1) rfl rfl rfl (by omega) (by omega) ?_
    simp only [ge,glob_bireme_code_ends,m3,Int.reduceEq,Int.reduceSub,kB,kZ,kD,kE,xl,xg,xk,xc,xd,xe,xf,xj,xi,xh,reduceIte,reduceCtorEq,xy,xw,xq]
    refine loop_unroll ?_
    simp only [w0,kB,kZ,kD,kE,xl,xg,xk,xc,xd,xe,xf,xj,xi,xh,reduceIte,reduceCtorEq,xy,xw,xq]
    refine callO_same (j_Itoa h (hgs _) a ha) ?_
    simp only [aa,b1,w0,kB,kZ,kD,kE,xl,xg,xk,xc,xd,xe,xf,xj,xi,xh,reduceIte,reduceCtorEq,xy,xw,xq]
    refine loop_unroll ?_
    simp only [kB,kZ,kD,kE,xl,xg,xk,xc,xd,xe,xf,xj,xi,xh,reduceIte,reduceCtorEq,xy,xw,xq]
    refine ⟨?_,_,rfl⟩
    simp [endX,endNm,endL,catI]
  · have b1:=fun ox oy=>k_add X.P ox oy [116,104,114,111,119] (32 :: itoa a) (by simp; omega)
    simp only [v_code_endText,ge,glob_bireme_code_ends,m4,Int.reduceEq,Int.reduceSub,kB,kZ,kD,kE,xl,xg,xk,xc,xd,xe,xf,xj,xi,xh,reduceIte,reduceCtorEq,xy,xw,xq]
    refine opR_sl (l:=0) (u:=1) rfl rfl rfl (by omega) (by omega) ?_
    simp only [ge,glob_bireme_code_ends,m4,Int.reduceEq,Int.reduceSub,kB,kZ,kD,kE,xl,xg,xk,xc,xd,xe,xf,xj,xi,xh,reduceIte,reduceCtorEq,xy,xw,xq]
    refine loop_unroll ?_
    simp only [w0,kB,kZ,kD,kE,xl,xg,xk,xc,xd,xe,xf,xj,xi,xh,reduceIte,reduceCtorEq,xy,xw,xq]
    refine callO_same (j_Itoa h (hgs _) a ha) ?_
    simp only [aa,b1,w0,kB,kZ,kD,kE,xl,xg,xk,xc,xd,xe,xf,xj,xi,xh,reduceIte,reduceCtorEq,xy,xw,xq]
    refine loop_unroll ?_
    simp only [kB,kZ,kD,kE,xl,xg,xk,xc,xd,xe,xf,xj,xi,xh,reduceIte,reduceCtorEq,xy,xw,xq]
    refine ⟨?_,_,rfl⟩
    simp [endX,endNm,endL,catI]
set_option maxHeartbeats 2000000 in
theorem j_r07_endText (h : OnH X) (hg : GB st) (e : EndV) (hk : 1≤e.k∧e.k≤4) (hi : EndI e) : J X.P X.F X.H (.call 45 [.agg e.row] st (.ret (sA (endX e))) st):=by
  refine pure_intro (by rw [h.F]; rfl) rfl ?_
  have hgs:=fun L=>hg.app L
  obtain ⟨k,a,t,e⟩:=e
  obtain ⟨_,ha,ht,he⟩:=hi
  have ha : I64 a:=ha
  have ht : I64 t:=ht
  have he : I64 e:=he
  have hk : 1≤k∧k≤4:=hk
  have na:=itoa_len64 ha
  have nt:=itoa_len64 ht
  have ne:=itoa_len64 he
  have hk' : k = 1∨k = 2∨k = 3∨k = 4:=by omega
  rcases hk' with rfl | rfl | rfl | rfl
  · have b1:=fun ox oy=>k_add X.P ox oy [106,117,109,112,32] (itoa t) (by simp; omega)
    simp only [v_r07_endText,EndV.row,Int.reduceEq,kB,kZ,kD,kE,xl,xg,xk,xc,xd,xe,xf,xj,xi,xh,reduceIte,reduceCtorEq,xy,xw,xq]
    refine callO_same (j_Itoa h (hgs _) t ht) ?_
    simp only [b1,kB,kZ,kD,kE,xl,xg,xk,xc,xd,xe,xf,xj,xi,xh,reduceIte,reduceCtorEq,xy,xw,xq]
    refine ⟨?_,_,rfl⟩
    simp [endX,endNm,endL,catI]
  · have b1:=fun ox oy=>k_add X.P ox oy [98,114,97,110,99,104,32] (itoa a) (by simp; omega)
    have b2:=fun ox oy=>k_add X.P ox oy ([98,114,97,110,99,104,32]++itoa a) [32] (by simp; omega)
    have b3:=fun ox oy=>k_add X.P ox oy ([98,114,97,110,99,104,32]++itoa a++[32]) (itoa t) (by simp; omega)
    have b4:=fun ox oy=>k_add X.P ox oy ([98,114,97,110,99,104,32]++itoa a++[32]++itoa t) [32] (by simp; omega)
    have b5:=fun ox oy=>k_add X.P ox oy ([98,114,97,110,99,104,32]++itoa a++[32]++itoa t++[32]) (itoa e) (by simp; omega)
    simp only [List.cons_append,List.nil_append,List.append_assoc] at b1 b2 b3 b4 b5
    simp only [v_r07_endText,EndV.row,Int.reduceEq,kB,kZ,kD,kE,xl,xg,xk,xc,xd,xe,xf,xj,xi,xh,reduceIte,reduceCtorEq,xy,xw,xq]
    refine callO_same (j_Itoa h (hgs _) a ha) ?_
    simp only [b1,b2,List.append_assoc,kB,kZ,kD,kE,xl,xg,xk,xc,xd,xe,xf,xj,xi,xh,reduceIte,reduceCtorEq,xy,xw,xq]
    refine callO_same (j_Itoa h (hgs _) t ht) ?_
    simp only [b3,b4,List.append_assoc,kB,kZ,kD,kE,xl,xg,xk,xc,xd,xe,xf,xj,xi,xh,reduceIte,reduceCtorEq,xy,xw,xq]
    refine callO_same (j_Itoa h (hgs _) e he) ?_
    simp only [b5,List.append_assoc,kB,kZ,kD,kE,xl,xg,xk,xc,xd,xe,xf,xj,xi,xh,reduceIte,reduceCtorEq,xy,xw,xq]
    refine ⟨?_,_,rfl⟩
    simp [endX,endNm,endL,catI]
  · have b1:=fun ox oy=>k_add X.P ox oy [114,101,116,117,114,110,32] (itoa a) (by simp; omega)
    simp only [v_r07_endText,EndV.row,Int.reduceEq,kB,kZ,kD,kE,xl,xg,xk,xc,xd,xe,xf,xj,xi,xh,reduceIte,reduceCtorEq,xy,xw,xq]
    refine callO_same (j_Itoa h (hgs _) a ha) ?_
    simp only [b1,kB,kZ,kD,kE,xl,xg,xk,xc,xd,xe,xf,xj,xi,xh,reduceIte,reduceCtorEq,xy,xw,xq]
    refine ⟨?_,_,rfl⟩
    simp [endX,endNm,endL,catI]
  · have b1:=fun ox oy=>k_add X.P ox oy [116,104,114,111,119,32] (itoa a) (by simp; omega)
    simp only [v_r07_endText,EndV.row,Int.reduceEq,kB,kZ,kD,kE,xl,xg,xk,xc,xd,xe,xf,xj,xi,xh,reduceIte,reduceCtorEq,xy,xw,xq]
    refine callO_same (j_Itoa h (hgs _) a ha) ?_
    simp only [b1,kB,kZ,kD,kE,xl,xg,xk,xc,xd,xe,xf,xj,xi,xh,reduceIte,reduceCtorEq,xy,xw,xq]
    refine ⟨?_,_,rfl⟩
    simp [endX,endNm,endL,catI]
set_option maxHeartbeats 2000000 in
theorem j_r07_opText (h : OnH X) (hg : GB st) (o : OpV) (ho : oneK o.k = true) (hi : OpI o) : J X.P X.F X.H (.call 44 [.agg o.row] st (.ret (sA (opX o))) st):=by
  refine pure_intro (by rw [h.F]; rfl) rfl ?_
  have l1:=grdX_len hi.g
  have l2:=dstX_len hi
  have l3:=numX_len hi
  have l4:=nmK_len o.k
  have l5:=catI_len (operL_I hi)
  have l6:=operL_len o
  have n1:=itoa_len64 hi.g
  have n2:=itoa_len64 hi.d
  have n3:=itoa_len64 hi.n
  simp only [v_r07_opText,OpV.row,kB,kZ,kD,kE,xl,xg,xk,xc,xd,xe,xf,xj,xi,xh,reduceIte,reduceCtorEq,xy,xw,xq]
  have g1 : (st++[⟨[iA o.k,iA o.d,iA o.a,iA o.b,iA o.c,iA o.n,iA o.g],0,0⟩])[st.length + 0]? = some ⟨o.row,0,0⟩:=by simp [OpV.row]
  have hg0:=hg.app [⟨[iA o.k,iA o.d,iA o.a,iA o.b,iA o.c,iA o.n,iA o.g],0,0⟩]
  have hpre0 : ∃ k,(st++[⟨[iA o.k,iA o.d,iA o.a,iA o.b,iA o.c,iA o.n,iA o.g],0,0⟩]) = st++k:=⟨_,rfl⟩
  generalize (st++[⟨[iA o.k,iA o.d,iA o.a,iA o.b,iA o.c,iA o.n,iA o.g],0,0⟩] : St) = S0 at *
  generalize st.length + 0 = cb at *
  have q1 : ∀ L k,St.at1 (S0++L) cb k = o.row[k]?:=fun L k=>at1_box (by rw [List.getElem?_append_left (List.getElem?_eq_some_iff.1 g1).1]; exact g1) (by decide) k
  have q1' : ∀ k,St.at1 S0 cb k = o.row[k]?:=fun k=>at1_box g1 (by decide) k
  have q3 : ∀ L,St.atN (S0++L) cb 0 7 = some o.row:=fun L=>by
    rw [atN_box (by rw [List.getElem?_append_left (List.getElem?_eq_some_iff.1 g1).1]; exact g1) (by decide) 0 7 (by simp [OpV.row])]
    rfl
  have r0 : o.row[0]? = some (iA o.k):=rfl
  have r6 : o.row[6]? = some (iA o.g):=rfl
  have r1 : o.row[1]? = some (iA o.d):=rfl
  have r5 : o.row[5]? = some (iA o.n):=rfl
  refine anyCond m0 (fun e s=>s = S0∧e 1 = .ptr cb 0∧e 3 = sA (grdX o.g)) ?_ ?_
  · refine condO_intro ?_ ?_<;>intro hc
    · have a1:=fun ox oy=>k_add X.P ox oy [63,32] (itoa o.g) (by simp; omega)
      have a2:=fun ox oy=>k_add X.P ox oy (63 :: 32 :: itoa o.g) [32] (by simp; omega)
      simp only [q1',r6,kB,kZ,kD,kE,xl,xg,xk,xc,xd,xe,xf,xj,xi,xh,reduceIte,reduceCtorEq,xy,xw,xq]
      refine callO_same (j_Itoa h hg0 o.g hi.g) ?_
      simp only [a1,a2,kB,kZ,kD,kE,xl,xg,xk,xc,xd,xe,xf,xj,xi,xh,reduceIte,reduceCtorEq,xy,xw,xq]
      unfold grdX
      rw [if_pos hc]
    · simp only [kB,kZ,kD,kE,xl,xg,xk,xc,xd,xe,xf,xj,xi,xh,reduceIte,reduceCtorEq,xy,xw,xq]
      unfold grdX
      rw [if_neg (by rw [hc]; decide)]
  rintro e s ⟨rfl,k1,k3⟩
  simp only [k1,k3,q1',r0,kB,kZ,kD,kE,xl,xg,xk,xc,xd,xe,xf,xj,xi,xh,reduceIte,reduceCtorEq,xy,xw,xq]
  refine callO_same (j_r07_HasDst h.toOn _) ?_
  simp only [k1,k3,kB,kZ,kD,kE,xl,xg,xk,xc,xd,xe,xf,xj,xi,xh,reduceIte,reduceCtorEq,xy,xw,xq]
  refine anyCond m0 (fun e s'=>s' = s∧e 1 = .ptr cb 0∧e 3 = sA (grdX o.g++dstX o)) ?_ ?_
  · refine condO_intro ?_ ?_<;>intro hc
    · have a1:=fun ox oy=>k_add X.P ox oy (itoa o.d) [32,61,32] (by simp; omega)
      have a2:=fun ox oy=>k_add X.P ox oy (grdX o.g) (itoa o.d++[32,61,32]) (by simp; omega)
      simp only [k1,k3,q1',r1,kB,kZ,kD,kE,xl,xg,xk,xc,xd,xe,xf,xj,xi,xh,reduceIte,reduceCtorEq,xy,xw,xq]
      refine callO_same (j_Itoa h hg0 o.d hi.d) ?_
      simp only [k1,k3,a1,a2,kB,kZ,kD,kE,xl,xg,xk,xc,xd,xe,xf,xj,xi,xh,reduceIte,reduceCtorEq,xy,xw,xq]
      unfold dstX
      rw [if_pos hc]
    · simp only [k1,k3,kB,kZ,kD,kE,xl,xg,xk,xc,xd,xe,xf,xj,xi,xh,reduceIte,reduceCtorEq,xy,xw,xq]
      unfold dstX
      rw [if_neg (by rw [hc]; decide),List.append_nil]
  clear k1 k3
  rintro e s' ⟨rfl,k1,k3⟩
  have hk:=oneK_bnd ho
  have hw1 : IntKind.wrap .i64 (o.k - 1) = ((o.k - 1).toNat : Int):=by rw [wrap_small (by omega) (by omega)]; omega
  have hnm : (nameL.map fun b=>AV.sc (.string b))[(o.k - 1).toNat]? = some (sA (nmK o.k)):=by
    rw [List.getElem?_map,List.getElem?_eq_getElem (show (o.k - 1).toNat < nameL.length by show _ < 25; omega),Option.map_some]
    have:=nameK_eq o.k
    unfold nameK at this
    rw [if_pos ho,List.getD_eq_getElem?_getD,List.getElem?_eq_getElem (show (o.k - 1).toNat < nameL.length by show _ < 25; omega)] at this
    simp only [Option.getD_some] at this
    rw [this]
  have hj : (0 : Int)≤((o.k - 1).toNat : Int)∧((o.k - 1).toNat : Int) < 25:=by omega
  have a1:=fun ox oy=>k_add X.P ox oy (grdX o.g++dstX o) (nmK o.k) (by simp; omega)
  simp only [k1,k3,q1',r0,hw1,kB,kZ,kD,kE,xl,xg,xk,xc,xd,xe,xf,xj,xi,xh,reduceIte,reduceCtorEq,xy,xw,xq]
  refine wpF.mono (w_r07_Names h.toOn) ?_
  rintro r s ⟨rfl,rfl⟩
  refine ⟨kept_app _ _ _ _,?_⟩
  simp only [k1,k3,if_pos hj,hnm,q3,a1,kB,kZ,kD,kE,xl,xg,xk,xc,xd,xe,xf,xj,xi,xh,reduceIte,reduceCtorEq,xy,xw,xq]
  refine callO_own (w_r07_Operands h.toOn o) ?_
  intro w m hown
  have hlw:=hown.arr.len
  simp only [List.length_map] at hlw
  obtain ⟨L,hL⟩ : ∃ L,s'++[⟨nameL.map fun b=>AV.sc (.string b),0,0⟩]++m = s'++L:=⟨_,List.append_assoc _ _ _⟩
  rw [hL] at hown ⊢
  simp only [k1,k3,kB,kZ,kD,kE,xl,xg,xk,xc,xd,xe,xf,xj,xi,xh,reduceIte,reduceCtorEq,xy,xw,xq]
  refine anyLoop (mB m0) (fun e s=>s = s'++L∧e 1 = .ptr cb 0∧e 3 = sA (grdX o.g++dstX o++nmK o.k++catI (operL o))) ?_ ?_
  · refine loop_inv (fun k e s=>∃ i : Nat,i + k = (operL o).length∧s = s'++L∧e 1 = .ptr cb 0∧e 3 = sA (grdX o.g++dstX o++nmK o.k++catI ((operL o).take i))∧e 4 = w∧e 5 = iA i) ?_ (operL o).length ?_
    case refine_2=>exact ⟨0,by omega,rfl,by simp only [k1,kB,kZ,kD,kE,xl,xg,xk,xc,xd,xe,xf,xj,xi,xh,reduceIte,reduceCtorEq,xy,xw,xq],by simp [catI,Env.put],rfl,rfl⟩
    clear k1 k3
    rintro k e s ⟨i,hik,rfl,k1,k3,k4,k5⟩
    simp only [k1,k3,k4,k5,hlw,kB,kZ,kD,kE,xl,xg,xk,xc,xd,xe,xf,xj,xi,xh,reduceIte,reduceCtorEq,xy,xw,xq]
    refine condO_intro ?_ ?_<;>intro hc
    case refine_2 =>
      have hi : i = (operL o).length:=by have:=of_decide_eq_false hc; omega
      subst hi
      rw [List.take_length] at k3
      simp only [k1,k3,kB,kZ,kD,kE,xl,xg,xk,xc,xd,xe,xf,xj,xi,xh,reduceIte,reduceCtorEq,xy,xw,xq]
    have hii : i < (operL o).length:=by have:=of_decide_eq_true hc; omega
    obtain ⟨b1,o1,he1,hn1,ha1,_⟩:=hown.arr.get i (by simpa using hii)
    have p1:=ha1 [] 0 (by omega)
    simp only [List.append_nil,List.getElem_map,Nat.add_zero,List.getElem?_cons_zero] at p1
    have hx:=operL_I hi _ (List.getElem_mem hii)
    have htk:=catI_take hii
    have hcl:=catI_len (ns:=(operL o).take i) fun x hx=>operL_I hi x (List.mem_of_mem_take hx)
    have hll : ((operL o).take i).length≤3:=by simp; omega
    generalize (operL o)[i] = n at *
    have hil:=itoa_len64 hx
    have a1:=fun ox oy=>k_add X.P ox oy [32] (itoa n) (by simp; omega)
    have a2:=fun ox oy=>k_add X.P ox oy (grdX o.g++dstX o++nmK o.k++catI ((operL o).take i)) (32 :: itoa n) (by simp; omega)
    have hwi : IntKind.wrap .i64 ((i : Int) + 1) = ((i + 1 : Nat) : Int):=by rw [wrap_small (by omega) (by omega)]; omega
    simp only [k1,k3,k4,k5,he1,p1,kB,kZ,kD,kE,xl,xg,xk,xc,xd,xe,xf,xj,xi,xh,reduceIte,reduceCtorEq,xy,xw,xq]
    refine callO_same (j_Itoa h (hg0.app _) n hx) ?_
    simp only [k1,k3,k4,k5,a1,a2,hwi,kB,kZ,kD,kE,xl,xg,xk,xc,xd,xe,xf,xj,xi,xh,reduceIte,reduceCtorEq,xy,xw,xq]
    exact ⟨k - 1,by omega,i + 1,by omega,by rw [htk,← List.append_assoc],rfl⟩
  clear k1 k3 hown
  rintro e s ⟨rfl,k1,k3⟩
  simp only [k1,k3,q1,r0,kB,kZ,kD,kE,xl,xg,xk,xc,xd,xe,xf,xj,xi,xh,reduceIte,reduceCtorEq,xy,xw,xq]
  refine callO_same (j_r07_HasN h.toOn _) ?_
  simp only [k1,k3,kB,kZ,kD,kE,xl,xg,xk,xc,xd,xe,xf,xj,xi,xh,reduceIte,reduceCtorEq,xy,xw,xq]
  obtain ⟨k0,e0⟩:=hpre0
  refine condO_intro ?_ ?_<;>intro hc<;>have hc : hasN o.k = _:=hc
  · have a1:=fun ox oy=>k_add X.P ox oy [32] (itoa o.n) (by simp; omega)
    have a2:=fun ox oy=>k_add X.P ox oy (grdX o.g++dstX o++nmK o.k++catI (operL o)) (32 :: itoa o.n) (by simp; omega)
    simp only [k1,k3,q1,r5,kB,kZ,kD,kE,xl,xg,xk,xc,xd,xe,xf,xj,xi,xh,reduceIte,reduceCtorEq,xy,xw,xq]
    refine callO_same (j_r01_Show h (hg0.app _) o.n hi.n) ?_
    have : opX o = grdX o.g++dstX o++nmK o.k++catI (operL o)++32 :: itoa o.n:=by unfold opX numX; rw [if_pos hc]
    simp only [k1,k3,a1,a2,kB,kZ,kD,kE,xl,xg,xk,xc,xd,xe,xf,xj,xi,xh,reduceIte,reduceCtorEq,xy,xw,xq]
    exact ⟨by rw [this],k0++L,by rw [e0,List.append_assoc]⟩
  · have : opX o = grdX o.g++dstX o++nmK o.k++catI (operL o):=by unfold opX numX; rw [if_neg (by rw [hc]; decide),List.append_nil]
    simp only [k1,k3,kB,kZ,kD,kE,xl,xg,xk,xc,xd,xe,xf,xj,xi,xh,reduceIte,reduceCtorEq,xy,xw,xq]
    exact ⟨by rw [this],k0++L,by rw [e0,List.append_assoc]⟩
end
end Go.VX.Seat
end
section
set_option maxRecDepth 4000
namespace Go.VX.Seat
open Go.Proofs Go.Lib
theorem op_one {U : UnitV} {o : OpV} (h : opErrU U o = 0) : oneK o.k = true:=by
  cases e : oneK o.k
  · unfold opErrU opErr at h
    rw [if_pos e] at h
    cases h
  · rfl
theorem end_kind {U : UnitV} {e : EndV} (h : endErrU U e = 0) : 1≤e.k∧e.k≤4:=by
  unfold endErrU endErr at h
  split at h
  · cases h
  · rename_i hc
    simp only [Bool.or_eq_true,decide_eq_true_eq] at hc
    omega
theorem Bl.arr {S0 s st : St} {bx lo hi esz : Nat} {l : List UInt8} {v : AV} {rows : List (List AV)} (h : Bl S0 s bx l) (hS : ∃ k,S0 = st++k) (ha : ArrAt st lo hi v esz rows) : ArrAt s lo hi v esz rows:=by
  obtain ⟨k,rfl⟩:=h.pre
  obtain ⟨k0,rfl⟩:=hS
  rw [List.append_assoc]
  exact ha.mono _
theorem ser_one {s : St} {b n : Nat} {ns : List Int} (hx : s[b]? = some ⟨ns.map (fun n=>iA n),0,0⟩) (hn : n = ns.length) : IntsAt s b (b + 1) (.sl b 0 n 1 true) ns:=by
  have hf : ∀ q : List Int,(q.map fun n=>[iA n]).flatten = q.map fun n=>iA n:=fun q=>by
    induction q with
    | nil=>rfl
    | cons a r ih=>simp only [List.map_cons,List.flatten_cons,ih]; rfl
  exact ArrAt.ofBox (mode:=0) (ver:=0) (by rw [hf]; exact hx) (by decide) (fun r hr=>by obtain ⟨p,_,rfl⟩:=List.mem_map.1 hr; rfl) (by simp [hn])
section
variable {X : Cx} {st : St}
set_option maxHeartbeats 4000000 in
theorem j_code_Text (h : OnH X) (hg : GB st) {lo hi : Nat} {v : AV} {U : UnitV} (hv : UnitAt st lo hi v U) (hI : UnitI U) : J X.P X.F X.H (.call 10 [v] st (.ret (.tup [sA (if chkU U = 0 then txtU U else []),iA (chkU U)])) st):=by
  refine pure_intro (by rw [h.F]; rfl) rfl ?_
  have hm:=fun L=>hv.mono L
  obtain ⟨sz,bl,rfl,hs,hb⟩:=hv
  obtain ⟨f,hbl,hops⟩:=hb
  simp only [v_code_Text,kB,kZ,kD,kE,xl,xg,xk,xc,xd,xe,xf,xj,xi,xh,reduceIte,reduceCtorEq,xy,xw,xq]
  refine callO_same (j_code_Check h (hg.app _) (hm _)) ?_
  simp only [kB,kZ,kD,kE,xl,xg,xk,xc,xd,xe,xf,xj,xi,xh,reduceIte,reduceCtorEq,xy,xw,xq]
  by_cases hc : chkU U = 0
  case neg =>
    have e : decide (chkU U≠0) = true:=by simpa using hc
    simp only [e,hc,kB,kZ,kD,kE,xl,xg,xk,xc,xd,xe,xf,xj,xi,xh,reduceIte,reduceCtorEq,xy,xw,xq]
    exact ⟨_,rfl⟩
  simp only [hc,Int.reduceEq,Int.reduceNe,v_allocF,kB,kZ,kD,kE,xl,xg,xk,xc,xd,xe,xf,xj,xi,xh,reduceIte,reduceCtorEq,xy,xw,xq]
  have wf:=chk_wf hc
  have hszl:=hs.len
  have hbll:=hbl.len
  simp only [List.length_map,List.length_mapIdx] at hszl hbll
  have hPL:=part_len hI wf
  obtain ⟨S0,hS0⟩ : ∃ S0 : St,S0 = st++[⟨[sz,iA U.params,iA U.regs,iA U.code,iA U.spill,bl],0,0⟩]:=⟨_,rfl⟩
  have hB0 : Bl S0 (st++[⟨[sz,iA U.params,iA U.regs,iA U.code,iA U.spill,bl],0,0⟩,⟨bldCells [],3,0⟩]) (st.length + 1) []:=⟨⟨[⟨bldCells [],3,0⟩],by rw [hS0]; simp⟩,by rw [hS0]; simp,0,by simp⟩
  have hg0 : GB S0:=by rw [hS0]; exact hg.app _
  have g1 : S0[st.length + 0]? = some ⟨[sz,iA U.params,iA U.regs,iA U.code,iA U.spill,bl],0,0⟩:=by rw [hS0]; simp
  have hl0 : S0.length = st.length + 1:=by rw [hS0]; simp
  have hpre0 : ∃ k,S0 = st++k:=⟨_,hS0⟩
  have q1 : ∀ {s l},Bl S0 s (st.length + 1) l→∀ k,St.at1 s (st.length + 0) k = ([sz,iA U.params,iA U.regs,iA U.code,iA U.spill,bl] : List AV)[k]?:=fun hb k=>at1_box (hb.get g1) (by decide) k
  have hcells : (⟨[iA 1,iA 81,iA 5,.sc (.string ⟨#[]⟩)],3,0⟩ : Box) = ⟨bldCells [],3,0⟩:=rfl
  rw [hcells]
  generalize (st++[⟨[sz,iA U.params,iA U.regs,iA U.code,iA U.spill,bl],0,0⟩,⟨bldCells [],3,0⟩] : St) = S at *
  clear hS0 hcells
  refine callO_write (l:=[]) (t:=[117,110,105,116]) h hB0 (by simp) (by simp) ?_
  intro s1 hB1 _
  clear hB0
  simp only [q1 hB1,kB,kZ,kD,kE,xl,xg,xk,xc,xd,xe,xf,xj,xi,xh,reduceIte,reduceCtorEq,xy,xw,xq]
  obtain ⟨ns,hns⟩ : ∃ ns : List Int,ns = [U.params,U.regs,U.code,U.spill]:=⟨_,rfl⟩
  have hN4 : ns.length = 4:=by rw [hns]; rfl
  have hnI : ∀ n ∈ ns,I64 n:=fun n hn=>by
    rw [hns] at hn
    simp only [List.mem_cons,List.not_mem_nil,or_false] at hn
    rcases hn with rfl | rfl | rfl | rfl
    · exact hI.params
    · exact hI.regs
    · exact hI.code
    · exact hI.spill
  have hmap : ns.map (fun n=>iA n) = [iA U.params,iA U.regs,iA U.code,iA U.spill]:=by rw [hns]; rfl
  have hB2:=hB1.app [⟨[iA U.params,iA U.regs,iA U.code,iA U.spill],0,0⟩]
  have hown : OwnS (s1++[⟨[iA U.params,iA U.regs,iA U.code,iA U.spill],0,0⟩]) (st.length + 2) (.sl s1.length 0 4 1 true) 1 (rowsI ns) :=
    ⟨(ser_one (ns:=ns) (by rw [hmap]; simp) hN4.symm).wide' (by have:=hB1.lt; omega) (by simp),fun b hb=>by cases hb; have:=hB1.lt; simp; omega,fun b o n e full hv=>by cases hv; exact .inl rfl⟩
  clear hmap
  generalize s1++[⟨[iA U.params,iA U.regs,iA U.code,iA U.spill],0,0⟩] = s2 at *
  generalize AV.sl s1.length 0 4 1 true = w at *
  refine anyLoop (mB m0) (fun e s=>e 1 = .ptr (st.length + 0) 0∧e 5 = .ptr (st.length + 1) 0∧Bl S0 s (st.length + 1) ([117,110,105,116]++catI ns)) ?_ ?_
  · refine loop_inv (fun k e s=>∃ i : Nat,i + k = 4∧e 1 = .ptr (st.length + 0) 0∧e 5 = .ptr (st.length + 1) 0∧e 28 = w∧e 29 = iA 4∧e 30 = iA i∧OwnS s (st.length + 2) w 1 (rowsI ns)∧Bl S0 s (st.length + 1) ([117,110,105,116]++catI (ns.take i))) ?_ 4 ?_
    case refine_2=>exact ⟨0,by omega,rfl,rfl,rfl,rfl,rfl,hown,by simpa [catI] using hB2⟩
    clear hB1 hB2 hown
    rintro k e s ⟨i,hik,k1,k5,k28,k29,k30,hown,hB⟩
    simp only [k1,k5,k28,k29,k30,kB,kZ,kD,kE,xl,xg,xk,xc,xd,xe,xf,xj,xi,xh,reduceIte,reduceCtorEq,xy,xw,xq]
    refine condO_intro ?_ ?_<;>intro hc
    case refine_2 =>
      have hi : i = 4:=by have:=of_decide_eq_false hc; omega
      subst hi
      simp only [k1,k5,kB,kZ,kD,kE,xl,xg,xk,xc,xd,xe,xf,xj,xi,xh,reduceIte,reduceCtorEq,xy,xw,xq]
      rw [List.take_of_length_le (by omega)] at hB
      exact hB
    have hii : i < ns.length:=by have:=of_decide_eq_true hc; omega
    obtain ⟨b1,o1,he1,hn1,ha1,_⟩:=hown.arr.get i (by simpa using hii)
    have p1:=ha1 [] 0 (by omega)
    simp only [List.append_nil,List.getElem_map,Nat.add_zero,List.getElem?_cons_zero] at p1
    have hx:=hnI _ (List.getElem_mem hii)
    have htk:=catI_take hii
    have hcl:=catI_len (ns:=ns.take i) fun x hx=>hnI x (List.mem_of_mem_take hx)
    have hll : (ns.take i).length≤4:=by simp; omega
    generalize ns[i] = n at *
    have hil:=itoa_len64 hx
    have a1:=fun ox oy=>k_add X.P ox oy [32] (itoa n) (by simp; omega)
    have hwi : IntKind.wrap .i64 ((i : Int) + 1) = ((i + 1 : Nat) : Int):=by rw [wrap_small (by omega) (by omega)]; omega
    simp only [k1,k5,k28,k29,k30,he1,p1,kB,kZ,kD,kE,xl,xg,xk,xc,xd,xe,xf,xj,xi,xh,reduceIte,reduceCtorEq,xy,xw,xq]
    refine callO_same (j_Itoa h (hB.gb hg0) n hx) ?_
    simp only [k1,k5,k28,k29,k30,a1,kB,kZ,kD,kE,xl,xg,xk,xc,xd,xe,xf,xj,xi,xh,reduceIte,reduceCtorEq,xy,xw,xq]
    refine callO_write h hB (by simp; omega) (by simp; omega) ?_
    intro s' hB' hag
    have hown':=hown.agree hag fun b hb e=>by have:=(hown.bnd b hb).1; omega
    simp only [k1,k5,k28,k29,k30,hwi,kB,kZ,kD,kE,xl,xg,xk,xc,xd,xe,xf,xj,xi,xh,reduceIte,reduceCtorEq,xy,xw,xq]
    refine ⟨k - 1,by omega,i + 1,by omega,rfl,hown',?_⟩
    rw [htk]
    simpa using hB'
  clear hB1 hB2 hown
  rintro e s ⟨k1,k5,hB⟩
  have hcl:=catI_len hnI
  have hhd:=hdX_len hI
  simp only [k1,k5,kB,kZ,kD,kE,xl,xg,xk,xc,xd,xe,xf,xj,xi,xh,reduceIte,reduceCtorEq,xy,xw,xq]
  refine callO_write (t:=[10]) h hB (by simp; omega) (by simp) ?_
  intro s2 hB2 _
  rw [hns] at hB2
  have e0 : [117,110,105,116]++catI [U.params,U.regs,U.code,U.spill]++[10] = hdX U:=rfl
  rw [e0] at hB2
  clear hB hcl hnI hN4 hns ns w
  simp only [k1,k5,q1 hB2,hszl,kB,kZ,kD,kE,xl,xg,xk,xc,xd,xe,xf,xj,xi,xh,reduceIte,reduceCtorEq,xy,xw,xq]
  refine anyLoop (mB m0) (fun e s=>e 1 = .ptr (st.length + 0) 0∧e 5 = .ptr (st.length + 1) 0∧Bl S0 s (st.length + 1) (hdX U++szsX U.sizes)) ?_ ?_
  · refine loop_inv (fun k e s=>∃ i : Nat,i + k = U.sizes.length∧e 1 = .ptr (st.length + 0) 0∧e 5 = .ptr (st.length + 1) 0∧e 41 = sz∧e 42 = iA (U.sizes.length : Int)∧e 43 = iA i∧Bl S0 s (st.length + 1) (hdX U++szsX (U.sizes.take i))) ?_ U.sizes.length ?_
    case refine_2=>exact ⟨0,by omega,by simp only [k1,kB,kZ,kD,kE,xl,xg,xk,xc,xd,xe,xf,xj,xi,xh,reduceIte,reduceCtorEq,xy,xw,xq],by simp only [k5,kB,kZ,kD,kE,xl,xg,xk,xc,xd,xe,xf,xj,xi,xh,reduceIte,reduceCtorEq,xy,xw,xq],rfl,rfl,rfl,by simpa [szsX] using hB2⟩
    clear hB2 k1 k5
    rintro k e s ⟨i,hik,k1,k5,k28,k29,k30,hB⟩
    simp only [k1,k5,k28,k29,k30,kB,kZ,kD,kE,xl,xg,xk,xc,xd,xe,xf,xj,xi,xh,reduceIte,reduceCtorEq,xy,xw,xq]
    refine condO_intro ?_ ?_<;>intro hc
    case refine_2 =>
      have hi : i = U.sizes.length:=by have:=of_decide_eq_false hc; omega
      subst hi
      simp only [k1,k5,kB,kZ,kD,kE,xl,xg,xk,xc,xd,xe,xf,xj,xi,xh,reduceIte,reduceCtorEq,xy,xw,xq]
      rw [List.take_length] at hB
      exact hB
    have hii : i < U.sizes.length:=by have:=of_decide_eq_true hc; omega
    have hsz:=wf.sizes
    obtain ⟨b1,o1,he1,hn1,ha1,_⟩:=(hB.arr hpre0 hs).get i (by simpa using hii)
    have p1:=ha1 [] 0 (by omega)
    simp only [List.append_nil,List.getElem_map,Nat.add_zero,List.getElem?_cons_zero] at p1
    have hx:=hI.sizes _ (List.getElem_mem hii)
    have htk:=szsX_take hii
    have hpl:=hPL i 0
    simp only [List.take_zero,blksX,List.map_nil,List.flatten_nil,List.append_nil] at hpl
    generalize U.sizes[i] = n at *
    have hil:=itoa_len64 hx
    have a1:=fun ox oy=>k_add X.P ox oy [97,114,114,97,121,32] (itoa n) (by simp; omega)
    have a2:=fun ox oy=>k_add X.P ox oy ([97,114,114,97,121,32]++itoa n) [10] (by simp; omega)
    simp only [List.cons_append,List.nil_append,List.append_assoc] at a1 a2
    have hwi : IntKind.wrap .i64 ((i : Int) + 1) = ((i + 1 : Nat) : Int):=by rw [wrap_small (by omega) (by omega)]; omega
    simp only [k1,k5,k28,k29,k30,he1,p1,kB,kZ,kD,kE,xl,xg,xk,xc,xd,xe,xf,xj,xi,xh,reduceIte,reduceCtorEq,xy,xw,xq]
    refine callO_same (j_Itoa h (hB.gb hg0) n hx) ?_
    simp only [k1,k5,k28,k29,k30,a1,a2,List.append_assoc,kB,kZ,kD,kE,xl,xg,xk,xc,xd,xe,xf,xj,xi,xh,reduceIte,reduceCtorEq,xy,xw,xq]
    refine callO_write h hB (by omega) (by simp; omega) ?_
    intro s' hB' hag
    simp only [k1,k5,k28,k29,k30,hwi,kB,kZ,kD,kE,xl,xg,xk,xc,xd,xe,xf,xj,xi,xh,reduceIte,reduceCtorEq,xy,xw,xq]
    refine ⟨k - 1,by omega,i + 1,by omega,rfl,?_⟩
    rw [htk,← List.append_assoc]
    have : sizeX n = 97 :: 114 :: 114 :: 97 :: 121 :: 32 :: (itoa n++[10]):=by simp [sizeX]
    rw [this]
    exact hB'
  clear hB2 k1 k5
  rintro e s ⟨k1,k5,hB⟩
  simp only [k1,k5,q1 hB,hbll,kB,kZ,kD,kE,xl,xg,xk,xc,xd,xe,xf,xj,xi,xh,reduceIte,reduceCtorEq,xy,xw,xq]
  refine anyLoop (mB m0) (fun e s=>e 5 = .ptr (st.length + 1) 0∧Bl S0 s (st.length + 1) (txtU U)) ?_ ?_
  · refine loop_inv (fun k e s=>∃ i : Nat,i + k = U.blocks.length∧e 1 = .ptr (st.length + 0) 0∧e 5 = .ptr (st.length + 1) 0∧e 54 = bl∧e 55 = iA (U.blocks.length : Int)∧e 56 = iA i∧Bl S0 s (st.length + 1) (hdX U++szsX U.sizes++blksX (U.blocks.take i))) ?_ U.blocks.length ?_
    case refine_2=>exact ⟨0,by omega,by simp only [k1,kB,kZ,kD,kE,xl,xg,xk,xc,xd,xe,xf,xj,xi,xh,reduceIte,reduceCtorEq,xy,xw,xq],by simp only [k5,kB,kZ,kD,kE,xl,xg,xk,xc,xd,xe,xf,xj,xi,xh,reduceIte,reduceCtorEq,xy,xw,xq],rfl,rfl,rfl,by simpa [blksX] using hB⟩
    clear hB k1 k5
    rintro k e s ⟨i,hik,k1,k5,k54,k55,k56,hB⟩
    simp only [k1,k5,k54,k55,k56,kB,kZ,kD,kE,xl,xg,xk,xc,xd,xe,xf,xj,xi,xh,reduceIte,reduceCtorEq,xy,xw,xq]
    refine condO_intro ?_ ?_<;>intro hc
    case refine_2 =>
      have hi : i = U.blocks.length:=by have:=of_decide_eq_false hc; omega
      subst hi
      simp only [k1,k5,kB,kZ,kD,kE,xl,xg,xk,xc,xd,xe,xf,xj,xi,xh,reduceIte,reduceCtorEq,xy,xw,xq]
      rw [List.take_length] at hB
      exact hB
    have hii : i < U.blocks.length:=by have:=of_decide_eq_true hc; omega
    have hnb:=wf.nb
    obtain ⟨b1,o1,he1,hn1,ha1,_⟩:=(hB.arr hpre0 hbl).get i (by simpa using hii)
    have p1:=hn1 []
    simp only [List.append_nil,List.getElem_mapIdx] at p1
    have hop:=hops i hii
    have bI:=hI.blocks _ (List.getElem_mem hii)
    have bW:=wf.blk _ (List.getElem_mem hii)
    have htk:=blksX_take hii
    have hpl:=hPL U.sizes.length i
    rw [List.take_length] at hpl
    generalize U.blocks[i] = b at *
    generalize f i = fi at *
    have hpl2:=opsX_len bI.ops
    have hbo:=bW.ops
    have hil:=itoa_len64 bI.c
    have hwi : IntKind.wrap .i64 ((i : Int) + 1) = ((i + 1 : Nat) : Int):=by rw [wrap_small (by omega) (by omega)]; omega
    have a1:=fun ox oy=>k_add X.P ox oy [98,108,111,99,107,32] (itoa b.catch_) (by simp; omega)
    have a2:=fun ox oy=>k_add X.P ox oy ([98,108,111,99,107,32]++itoa b.catch_) [10] (by simp; omega)
    simp only [List.cons_append,List.nil_append,List.append_assoc] at a1 a2
    have hopl:=hop.len
    simp only [List.length_map] at hopl
    have hopc:=isCell_len hopl
    simp only [BlkV.row] at p1
    simp only [k1,k5,k54,k55,k56,he1,p1,hopc,kB,kZ,kD,kE,xl,xg,xk,xc,xd,xe,xf,xj,xi,xh,reduceIte,reduceCtorEq,xy,xw,xq]
    generalize hP : hdX U++szsX U.sizes++blksX (U.blocks.take i) = P at *
    have hB1:=hB.app [⟨[fi,iA b.e.k,iA b.e.a,iA b.e.t,iA b.e.e,iA b.catch_],0,1⟩]
    have hbb : (s++[⟨[fi,iA b.e.k,iA b.e.a,iA b.e.t,iA b.e.e,iA b.catch_],0,1⟩])[s.length]? = some ⟨[fi,iA b.e.k,iA b.e.a,iA b.e.t,iA b.e.e,iA b.catch_],0,1⟩:=by simp
    have hsl:=hB.lt
    generalize s++[⟨[fi,iA b.e.k,iA b.e.a,iA b.e.t,iA b.e.e,iA b.catch_],0,1⟩] = s1 at *
    generalize s.length = bb at *
    refine callO_same (j_Itoa h (hB1.gb hg0) _ bI.c) ?_
    simp only [k1,k5,k54,k55,k56,a1,a2,List.append_assoc,kB,kZ,kD,kE,xl,xg,xk,xc,xd,xe,xf,xj,xi,xh,reduceIte,reduceCtorEq,xy,xw,xq]
    refine callO_write h hB1 (by omega) (by simp; omega) ?_
    intro s2 hB2 hag
    have hbb2:=hag.box hbb (by omega)
    clear hB hB1 hbb hag
    have x0 : ∀ k,St.at1 s2 bb k = ([fi,iA b.e.k,iA b.e.a,iA b.e.t,iA b.e.e,iA b.catch_] : List AV)[k]?:=fun k=>at1_box hbb2 (by decide) k
    simp only [k1,k5,k54,k55,k56,x0,hopl,kB,kZ,kD,kE,xl,xg,xk,xc,xd,xe,xf,xj,xi,xh,reduceIte,reduceCtorEq,xy,xw,xq]
    clear x0
    refine anyLoop (mB m0) (fun e s=>e 1 = .ptr (st.length + 0) 0∧e 5 = .ptr (st.length + 1) 0∧e 54 = bl∧e 55 = iA (U.blocks.length : Int)∧e 56 = iA i∧e 11 = .ptr bb 0∧s[bb]? = some ⟨[fi,iA b.e.k,iA b.e.a,iA b.e.t,iA b.e.e,iA b.catch_],0,1⟩∧Bl S0 s (st.length + 1) (P++98 :: 108 :: 111 :: 99 :: 107 :: 32 :: (itoa b.catch_++[10])++opsX b.ops)) ?_ ?_
    · refine loop_inv (fun k e s=>∃ j : Nat,j + k = b.ops.length∧e 1 = .ptr (st.length + 0) 0∧e 5 = .ptr (st.length + 1) 0∧e 54 = bl∧e 55 = iA (U.blocks.length : Int)∧e 56 = iA i∧e 11 = .ptr bb 0∧e 67 = fi∧e 68 = iA (b.ops.length : Int)∧e 69 = iA j∧s[bb]? = some ⟨[fi,iA b.e.k,iA b.e.a,iA b.e.t,iA b.e.e,iA b.catch_],0,1⟩∧Bl S0 s (st.length + 1) (P++98 :: 108 :: 111 :: 99 :: 107 :: 32 :: (itoa b.catch_++[10])++opsX (b.ops.take j))) ?_ b.ops.length ?_
      case refine_2=>exact ⟨0,by omega,by simp only [k1,kB,kZ,kD,kE,xl,xg,xk,xc,xd,xe,xf,xj,xi,xh,reduceIte,reduceCtorEq,xy,xw,xq],by simp only [k5,kB,kZ,kD,kE,xl,xg,xk,xc,xd,xe,xf,xj,xi,xh,reduceIte,reduceCtorEq,xy,xw,xq],by simp only [k54,kB,kZ,kD,kE,xl,xg,xk,xc,xd,xe,xf,xj,xi,xh,reduceIte,reduceCtorEq,xy,xw,xq],by simp only [k55,kB,kZ,kD,kE,xl,xg,xk,xc,xd,xe,xf,xj,xi,xh,reduceIte,reduceCtorEq,xy,xw,xq],by simp only [k56,kB,kZ,kD,kE,xl,xg,xk,xc,xd,xe,xf,xj,xi,xh,reduceIte,reduceCtorEq,xy,xw,xq],rfl,rfl,rfl,rfl,hbb2,by simpa [opsX] using hB2⟩
      clear hB2 hbb2 k1 k5 k54 k55 k56
      rintro k e s ⟨j,hjk,k1,k5,k54,k55,k56,k11,k67,k68,k69,hbb,hB⟩
      simp only [k1,k5,k54,k55,k56,k11,k67,k68,k69,kB,kZ,kD,kE,xl,xg,xk,xc,xd,xe,xf,xj,xi,xh,reduceIte,reduceCtorEq,xy,xw,xq]
      refine condO_intro ?_ ?_<;>intro hc
      case refine_2 =>
        have hj : j = b.ops.length:=by have:=of_decide_eq_false hc; omega
        subst hj
        simp only [k1,k5,k54,k55,k56,k11,kB,kZ,kD,kE,xl,xg,xk,xc,xd,xe,xf,xj,xi,xh,reduceIte,reduceCtorEq,xy,xw,xq]
        rw [List.take_length] at hB
        exact ⟨hbb,hB⟩
      have hjj : j < b.ops.length:=by have:=of_decide_eq_true hc; omega
      obtain ⟨b2,o2,he2,hn2,ha2,_⟩:=(hB.arr hpre0 hop).get j (by simpa using hjj)
      have p2:=hn2 []
      simp only [List.append_nil,List.getElem_map] at p2
      have oI:=bI.ops _ (List.getElem_mem hjj)
      have oW:=op_one (bW.op _ (List.getElem_mem hjj))
      have htk2:=opsX_take hjj
      have hol:=opsX_len (l:=b.ops.take j) fun o ho=>bI.ops o (List.mem_of_mem_take ho)
      have hol2 : (b.ops.take j).length≤400:=by simp; omega
      generalize b.ops[j] = o at *
      have hxl:=opX_len oI
      have c1:=fun ox oy=>k_add X.P ox oy [32,32] (opX o) (by simp; omega)
      have c2:=fun ox oy=>k_add X.P ox oy ([32,32]++opX o) [10] (by simp; omega)
      simp only [List.cons_append,List.nil_append,List.append_assoc] at c1 c2
      have hwj : IntKind.wrap .i64 ((j : Int) + 1) = ((j + 1 : Nat) : Int):=by rw [wrap_small (by omega) (by omega)]; omega
      have jt:=fun L=>j_code_opText (st:=s++L) h ((hB.app L).gb hg0) o oW oI
      simp only [OpV.row] at p2 jt
      have hB3:=hB.app [⟨[iA o.k,iA o.d,iA o.a,iA o.b,iA o.c,iA o.n,iA o.g],0,1⟩]
      simp only [k1,k5,k54,k55,k56,k11,k67,k68,k69,he2,p2,kB,kZ,kD,kE,xl,xg,xk,xc,xd,xe,xf,xj,xi,xh,reduceIte,reduceCtorEq,xy,xw,xq]
      refine callO_same (jt _) ?_
      simp only [k1,k5,k54,k55,k56,k11,k67,k68,k69,c1,c2,List.append_assoc,kB,kZ,kD,kE,xl,xg,xk,xc,xd,xe,xf,xj,xi,xh,reduceIte,reduceCtorEq,xy,xw,xq]
      refine callO_write h hB3 (by simp; omega) (by simp; omega) ?_
      intro s' hB' hag
      have hbb':=hag.box (x:=⟨[fi,iA b.e.k,iA b.e.a,iA b.e.t,iA b.e.e,iA b.catch_],0,1⟩) (b:=bb) (by rw [List.getElem?_append_left (List.getElem?_eq_some_iff.1 hbb).1]; exact hbb) (by omega)
      simp only [k1,k5,k54,k55,k56,k11,k67,k68,k69,hwj,kB,kZ,kD,kE,xl,xg,xk,xc,xd,xe,xf,xj,xi,xh,reduceIte,reduceCtorEq,xy,xw,xq]
      refine ⟨k - 1,by omega,j + 1,by omega,rfl,hbb',?_⟩
      rw [htk2]
      simpa [lineX] using hB'
    clear hB2 hbb2 k1 k5 k54 k55 k56
    rintro e s ⟨k1,k5,k54,k55,k56,k11,hbb,hB⟩
    have heI:=bI.e
    have hek:=end_kind bW.end_
    have hel:=endX_len heI
    have x1 : St.atN s bb 1 4 = some b.e.row:=by
      rw [atN_box hbb (by decide) 1 4 (by simp)]
      rfl
    have c1:=fun ox oy=>k_add X.P ox oy [32,32] (endX b.e) (by simp; omega)
    have c2:=fun ox oy=>k_add X.P ox oy ([32,32]++endX b.e) [10] (by simp; omega)
    simp only [List.cons_append,List.nil_append,List.append_assoc] at c1 c2
    simp only [k1,k5,k54,k55,k56,k11,x1,kB,kZ,kD,kE,xl,xg,xk,xc,xd,xe,xf,xj,xi,xh,reduceIte,reduceCtorEq,xy,xw,xq]
    refine callO_same (j_code_endText h (hB.gb hg0) b.e hek heI) ?_
    simp only [k1,k5,k54,k55,k56,k11,c1,c2,List.append_assoc,kB,kZ,kD,kE,xl,xg,xk,xc,xd,xe,xf,xj,xi,xh,reduceIte,reduceCtorEq,xy,xw,xq]
    refine callO_write h hB (by simp; omega) (by simp; omega) ?_
    intro s' hB' hag
    simp only [k1,k5,k54,k55,k56,k11,hwi,kB,kZ,kD,kE,xl,xg,xk,xc,xd,xe,xf,xj,xi,xh,reduceIte,reduceCtorEq,xy,xw,xq]
    refine ⟨k - 1,by omega,i + 1,by omega,rfl,?_⟩
    have : hdX U++(szsX U.sizes++blksX (U.blocks.take (i + 1))) = P++98 :: 108 :: 111 :: 99 :: 107 :: 32 :: (itoa b.catch_++[10])++opsX b.ops++32 :: 32 :: (endX b.e++[10]):=by
      rw [htk,← List.append_assoc,← List.append_assoc,hP]
      simp [blkX,lineX]
    rw [this]
    simpa using hB'
  clear hB k1 k5
  rintro e s ⟨k5,hB⟩
  have htl:=txtU_len hI wf
  simp only [k5,kB,kZ,kD,kE,xl,xg,xk,xc,xd,xe,xf,xj,xi,xh,reduceIte,reduceCtorEq,xy,xw,xq]
  refine callO_same (j_BString h hB (by omega)) ?_
  simp only [kB,kZ,kD,kE,xl,xg,xk,xc,xd,xe,xf,xj,xi,xh,reduceIte,reduceCtorEq,xy,xw,xq]
  obtain ⟨k,e1⟩:=hB.pre
  obtain ⟨k0,e0⟩:=hpre0
  exact ⟨k0++k,by rw [e1,e0,List.append_assoc]⟩
end
end Go.VX.Seat
end
section
set_option maxRecDepth 4000
namespace Go.VX.Seat
open Go.Proofs Go.Lib
section
variable {X : Cx} {st : St}
set_option maxHeartbeats 4000000 in
theorem j_r07_Text (h : OnH X) (hg : GB st) {lo hi : Nat} {v : AV} {U : UnitV} (hv : UnitAt st lo hi v U) (hI : UnitI U) (wf : Wf U) : J X.P X.F X.H (.call 13 [v] st (.ret (sA (txtU U))) st):=by
  refine pure_intro (by rw [h.F]; rfl) rfl ?_
  obtain ⟨sz,bl,rfl,hs,hb⟩:=hv
  obtain ⟨f,hbl,hops⟩:=hb
  simp only [v_r07_Text,v_allocF,kB,kZ,kD,kE,xl,xg,xk,xc,xd,xe,xf,xj,xi,xh,reduceIte,reduceCtorEq,xy,xw,xq]
  have hszl:=hs.len
  have hbll:=hbl.len
  simp only [List.length_map,List.length_mapIdx] at hszl hbll
  have hPL:=part_len hI wf
  obtain ⟨S0,hS0⟩ : ∃ S0 : St,S0 = st++[⟨[sz,iA U.params,iA U.regs,iA U.code,iA U.spill,bl],0,0⟩]:=⟨_,rfl⟩
  have hB0 : Bl S0 (st++[⟨[sz,iA U.params,iA U.regs,iA U.code,iA U.spill,bl],0,0⟩,⟨bldCells [],3,0⟩]) (st.length + 1) []:=⟨⟨[⟨bldCells [],3,0⟩],by rw [hS0]; simp⟩,by rw [hS0]; simp,0,by simp⟩
  have hg0 : GB S0:=by rw [hS0]; exact hg.app _
  have g1 : S0[st.length + 0]? = some ⟨[sz,iA U.params,iA U.regs,iA U.code,iA U.spill,bl],0,0⟩:=by rw [hS0]; simp
  have hl0 : S0.length = st.length + 1:=by rw [hS0]; simp
  have hpre0 : ∃ k,S0 = st++k:=⟨_,hS0⟩
  have q1 : ∀ {s l},Bl S0 s (st.length + 1) l→∀ k,St.at1 s (st.length + 0) k = ([sz,iA U.params,iA U.regs,iA U.code,iA U.spill,bl] : List AV)[k]?:=fun hb k=>at1_box (hb.get g1) (by decide) k
  have hcells : (⟨[iA 1,iA 81,iA 5,.sc (.string ⟨#[]⟩)],3,0⟩ : Box) = ⟨bldCells [],3,0⟩:=rfl
  rw [hcells]
  generalize (st++[⟨[sz,iA U.params,iA U.regs,iA U.code,iA U.spill,bl],0,0⟩,⟨bldCells [],3,0⟩] : St) = S at *
  clear hS0 hcells
  have n1:=itoa_len64 hI.params
  have n2:=itoa_len64 hI.regs
  have n3:=itoa_len64 hI.code
  have n4:=itoa_len64 hI.spill
  have b1:=fun ox oy=>k_add X.P ox oy [117,110,105,116,32] (itoa U.params) (by simp; omega)
  have b2:=fun ox oy=>k_add X.P ox oy ([117,110,105,116,32]++itoa U.params) [32] (by simp; omega)
  have b3:=fun ox oy=>k_add X.P ox oy ([117,110,105,116,32]++itoa U.params++[32]) (itoa U.regs) (by simp; omega)
  have b4:=fun ox oy=>k_add X.P ox oy ([117,110,105,116,32]++itoa U.params++[32]++itoa U.regs) [32] (by simp; omega)
  have b5:=fun ox oy=>k_add X.P ox oy ([117,110,105,116,32]++itoa U.params++[32]++itoa U.regs++[32]) (itoa U.code) (by simp; omega)
  have b6:=fun ox oy=>k_add X.P ox oy ([117,110,105,116,32]++itoa U.params++[32]++itoa U.regs++[32]++itoa U.code) [32] (by simp; omega)
  have b7:=fun ox oy=>k_add X.P ox oy ([117,110,105,116,32]++itoa U.params++[32]++itoa U.regs++[32]++itoa U.code++[32]) (itoa U.spill) (by simp; omega)
  have b8:=fun ox oy=>k_add X.P ox oy ([117,110,105,116,32]++itoa U.params++[32]++itoa U.regs++[32]++itoa U.code++[32]++itoa U.spill) [10] (by simp; omega)
  simp only [List.cons_append,List.nil_append,List.append_assoc] at b1 b2 b3 b4 b5 b6 b7 b8
  try simp only [q1 hB0,kB,kZ,kD,kE,xl,xg,xk,xc,xd,xe,xf,xj,xi,xh,reduceIte,reduceCtorEq,xy,xw,xq]
  refine callO_same (j_Itoa h (hB0.gb hg0) _ hI.params) ?_
  simp only [b1,b2,List.append_assoc,kB,kZ,kD,kE,xl,xg,xk,xc,xd,xe,xf,xj,xi,xh,reduceIte,reduceCtorEq,xy,xw,xq]
  refine callO_same (j_Itoa h (hB0.gb hg0) _ hI.regs) ?_
  simp only [b3,b4,List.append_assoc,kB,kZ,kD,kE,xl,xg,xk,xc,xd,xe,xf,xj,xi,xh,reduceIte,reduceCtorEq,xy,xw,xq]
  refine callO_same (j_Itoa h (hB0.gb hg0) _ hI.code) ?_
  simp only [b5,b6,List.append_assoc,kB,kZ,kD,kE,xl,xg,xk,xc,xd,xe,xf,xj,xi,xh,reduceIte,reduceCtorEq,xy,xw,xq]
  refine callO_same (j_Itoa h (hB0.gb hg0) _ hI.spill) ?_
  simp only [b7,b8,List.append_assoc,kB,kZ,kD,kE,xl,xg,xk,xc,xd,xe,xf,xj,xi,xh,reduceIte,reduceCtorEq,xy,xw,xq]
  refine callO_write h hB0 (by simp) (by simp; omega) ?_
  intro s2 hB2 _
  have e0 : ∀ x,x = ([]++117 :: 110 :: 105 :: 116 :: 32 :: (itoa U.params++32 :: (itoa U.regs++32 :: (itoa U.code++32 :: (itoa U.spill++[10])))) : List UInt8)→x = hdX U:=fun x hx=>by rw [hx]; simp [hdX,catI]
  replace hB2 : Bl S0 s2 (st.length + 1) (hdX U):=by rw [←e0 _ rfl]; exact hB2
  clear e0 b1 b2 b3 b4 b5 b6 b7 b8 n1 n2 n3 n4
  simp only [kB,kZ,kD,kE,xl,xg,xk,xc,xd,xe,xf,xj,xi,xh,reduceIte,reduceCtorEq,xy,xw,xq]
  refine anyLoop (mB m0) (fun e s=>e 1 = .ptr (st.length + 0) 0∧e 3 = .ptr (st.length + 1) 0∧Bl S0 s (st.length + 1) (hdX U++szsX U.sizes)) ?_ ?_
  · refine loop_inv (fun k e s=>∃ i : Nat,i + k = U.sizes.length∧e 1 = .ptr (st.length + 0) 0∧e 3 = .ptr (st.length + 1) 0∧e 4 = iA i∧Bl S0 s (st.length + 1) (hdX U++szsX (U.sizes.take i))) ?_ U.sizes.length ?_
    case refine_2=>exact ⟨0,by omega,rfl,rfl,rfl,by simpa [szsX] using hB2⟩
    clear hB2
    rintro k e s ⟨i,hik,k1,k3,k4,hB⟩
    simp only [k1,k3,k4,q1 hB,hszl,kB,kZ,kD,kE,xl,xg,xk,xc,xd,xe,xf,xj,xi,xh,reduceIte,reduceCtorEq,xy,xw,xq]
    refine condO_intro ?_ ?_<;>intro hc
    case refine_2 =>
      have hi : i = U.sizes.length:=by have:=of_decide_eq_false hc; omega
      subst hi
      simp only [k1,k3,kB,kZ,kD,kE,xl,xg,xk,xc,xd,xe,xf,xj,xi,xh,reduceIte,reduceCtorEq,xy,xw,xq]
      rw [List.take_length] at hB
      exact hB
    have hii : i < U.sizes.length:=by have:=of_decide_eq_true hc; omega
    have hsz:=wf.sizes
    obtain ⟨b1,o1,he1,hn1,ha1,_⟩:=(hB.arr hpre0 hs).get i (by simpa using hii)
    have p1:=ha1 [] 0 (by omega)
    simp only [List.append_nil,List.getElem_map,Nat.add_zero,List.getElem?_cons_zero] at p1
    have hx:=hI.sizes _ (List.getElem_mem hii)
    have htk:=szsX_take hii
    have hpl:=hPL i 0
    simp only [List.take_zero,blksX,List.map_nil,List.flatten_nil,List.append_nil] at hpl
    generalize U.sizes[i] = n at *
    have hil:=itoa_len64 hx
    have a1:=fun ox oy=>k_add X.P ox oy [97,114,114,97,121,32] (itoa n) (by simp; omega)
    have a2:=fun ox oy=>k_add X.P ox oy ([97,114,114,97,121,32]++itoa n) [10] (by simp; omega)
    simp only [List.cons_append,List.nil_append,List.append_assoc] at a1 a2
    have hwi : IntKind.wrap .i64 ((i : Int) + 1) = ((i + 1 : Nat) : Int):=by rw [wrap_small (by omega) (by omega)]; omega
    simp only [k1,k3,k4,q1 hB,he1,p1,kB,kZ,kD,kE,xl,xg,xk,xc,xd,xe,xf,xj,xi,xh,reduceIte,reduceCtorEq,xy,xw,xq]
    refine callO_same (j_Itoa h (hB.gb hg0) n hx) ?_
    simp only [k1,k3,k4,a1,a2,List.append_assoc,kB,kZ,kD,kE,xl,xg,xk,xc,xd,xe,xf,xj,xi,xh,reduceIte,reduceCtorEq,xy,xw,xq]
    refine callO_write h hB (by omega) (by simp; omega) ?_
    intro s' hB' hag
    simp only [k1,k3,k4,hwi,kB,kZ,kD,kE,xl,xg,xk,xc,xd,xe,xf,xj,xi,xh,reduceIte,reduceCtorEq,xy,xw,xq]
    refine ⟨k - 1,by omega,i + 1,by omega,rfl,?_⟩
    rw [htk,← List.append_assoc]
    have : sizeX n = 97 :: 114 :: 114 :: 97 :: 121 :: 32 :: (itoa n++[10]):=by simp [sizeX]
    rw [this]
    exact hB'
  clear hB2
  rintro e s ⟨k1,k3,hB⟩
  simp only [k1,k3,kB,kZ,kD,kE,xl,xg,xk,xc,xd,xe,xf,xj,xi,xh,reduceIte,reduceCtorEq,xy,xw,xq]
  refine anyLoop (mB m0) (fun e s=>e 3 = .ptr (st.length + 1) 0∧Bl S0 s (st.length + 1) (txtU U)) ?_ ?_
  · refine loop_inv (fun k e s=>∃ i : Nat,i + k = U.blocks.length∧e 1 = .ptr (st.length + 0) 0∧e 3 = .ptr (st.length + 1) 0∧e 5 = iA i∧Bl S0 s (st.length + 1) (hdX U++szsX U.sizes++blksX (U.blocks.take i))) ?_ U.blocks.length ?_
    case refine_2=>exact ⟨0,by omega,by simp only [k1,kB,kZ,kD,kE,xl,xg,xk,xc,xd,xe,xf,xj,xi,xh,reduceIte,reduceCtorEq,xy,xw,xq],by simp only [k3,kB,kZ,kD,kE,xl,xg,xk,xc,xd,xe,xf,xj,xi,xh,reduceIte,reduceCtorEq,xy,xw,xq],rfl,by simpa [blksX] using hB⟩
    clear hB k1 k3
    rintro k e s ⟨i,hik,k1,k3,k5,hB⟩
    simp only [k1,k3,k5,q1 hB,hbll,kB,kZ,kD,kE,xl,xg,xk,xc,xd,xe,xf,xj,xi,xh,reduceIte,reduceCtorEq,xy,xw,xq]
    refine condO_intro ?_ ?_<;>intro hc
    case refine_2 =>
      have hi : i = U.blocks.length:=by have:=of_decide_eq_false hc; omega
      subst hi
      simp only [k1,k3,kB,kZ,kD,kE,xl,xg,xk,xc,xd,xe,xf,xj,xi,xh,reduceIte,reduceCtorEq,xy,xw,xq]
      rw [List.take_length] at hB
      exact hB
    have hii : i < U.blocks.length:=by have:=of_decide_eq_true hc; omega
    have hnb:=wf.nb
    obtain ⟨b1,o1,he1,hn1,ha1,_⟩:=(hB.arr hpre0 hbl).get i (by simpa using hii)
    have p1:=hn1 []
    simp only [List.append_nil,List.getElem_mapIdx] at p1
    have hop:=hops i hii
    have bI:=hI.blocks _ (List.getElem_mem hii)
    have bW:=wf.blk _ (List.getElem_mem hii)
    have htk:=blksX_take hii
    have hpl:=hPL U.sizes.length i
    rw [List.take_length] at hpl
    generalize U.blocks[i] = b at *
    generalize f i = fi at *
    have hpl2:=opsX_len bI.ops
    have hbo:=bW.ops
    have hil:=itoa_len64 bI.c
    have hwi : IntKind.wrap .i64 ((i : Int) + 1) = ((i + 1 : Nat) : Int):=by rw [wrap_small (by omega) (by omega)]; omega
    have a1:=fun ox oy=>k_add X.P ox oy [98,108,111,99,107,32] (itoa b.catch_) (by simp; omega)
    have a2:=fun ox oy=>k_add X.P ox oy ([98,108,111,99,107,32]++itoa b.catch_) [10] (by simp; omega)
    simp only [List.cons_append,List.nil_append,List.append_assoc] at a1 a2
    have hopl:=hop.len
    simp only [List.length_map] at hopl
    have hopc:=isCell_len hopl
    simp only [BlkV.row] at p1
    simp only [k1,k3,k5,q1 hB,he1,p1,hopc,kB,kZ,kD,kE,xl,xg,xk,xc,xd,xe,xf,xj,xi,xh,reduceIte,reduceCtorEq,xy,xw,xq]
    generalize hP : hdX U++szsX U.sizes++blksX (U.blocks.take i) = P at *
    have hB1:=hB.app [⟨[fi,iA b.e.k,iA b.e.a,iA b.e.t,iA b.e.e,iA b.catch_],0,1⟩]
    have hbb : (s++[⟨[fi,iA b.e.k,iA b.e.a,iA b.e.t,iA b.e.e,iA b.catch_],0,1⟩])[s.length]? = some ⟨[fi,iA b.e.k,iA b.e.a,iA b.e.t,iA b.e.e,iA b.catch_],0,1⟩:=by simp
    have hsl:=hB.lt
    generalize s++[⟨[fi,iA b.e.k,iA b.e.a,iA b.e.t,iA b.e.e,iA b.catch_],0,1⟩] = s1 at *
    generalize s.length = bb at *
    refine callO_same (j_Itoa h (hB1.gb hg0) _ bI.c) ?_
    simp only [k1,k3,k5,a1,a2,List.append_assoc,kB,kZ,kD,kE,xl,xg,xk,xc,xd,xe,xf,xj,xi,xh,reduceIte,reduceCtorEq,xy,xw,xq]
    refine callO_write h hB1 (by omega) (by simp; omega) ?_
    intro s2 hB2 hag
    have hbb2:=hag.box hbb (by omega)
    clear hB hB1 hbb hag
    have x0 : ∀ k,St.at1 s2 bb k = ([fi,iA b.e.k,iA b.e.a,iA b.e.t,iA b.e.e,iA b.catch_] : List AV)[k]?:=fun k=>at1_box hbb2 (by decide) k
    simp only [k1,k3,k5,kB,kZ,kD,kE,xl,xg,xk,xc,xd,xe,xf,xj,xi,xh,reduceIte,reduceCtorEq,xy,xw,xq]
    clear x0
    refine anyLoop (mB m0) (fun e s=>e 1 = .ptr (st.length + 0) 0∧e 3 = .ptr (st.length + 1) 0∧e 5 = iA i∧e 6 = .ptr bb 0∧s[bb]? = some ⟨[fi,iA b.e.k,iA b.e.a,iA b.e.t,iA b.e.e,iA b.catch_],0,1⟩∧Bl S0 s (st.length + 1) (P++98 :: 108 :: 111 :: 99 :: 107 :: 32 :: (itoa b.catch_++[10])++opsX b.ops)) ?_ ?_
    · refine loop_inv (fun k e s=>∃ j : Nat,j + k = b.ops.length∧e 1 = .ptr (st.length + 0) 0∧e 3 = .ptr (st.length + 1) 0∧e 5 = iA i∧e 6 = .ptr bb 0∧e 7 = iA j∧s[bb]? = some ⟨[fi,iA b.e.k,iA b.e.a,iA b.e.t,iA b.e.e,iA b.catch_],0,1⟩∧Bl S0 s (st.length + 1) (P++98 :: 108 :: 111 :: 99 :: 107 :: 32 :: (itoa b.catch_++[10])++opsX (b.ops.take j))) ?_ b.ops.length ?_
      case refine_2=>exact ⟨0,by omega,by simp only [k1,kB,kZ,kD,kE,xl,xg,xk,xc,xd,xe,xf,xj,xi,xh,reduceIte,reduceCtorEq,xy,xw,xq],by simp only [k3,kB,kZ,kD,kE,xl,xg,xk,xc,xd,xe,xf,xj,xi,xh,reduceIte,reduceCtorEq,xy,xw,xq],by simp only [k5,kB,kZ,kD,kE,xl,xg,xk,xc,xd,xe,xf,xj,xi,xh,reduceIte,reduceCtorEq,xy,xw,xq],rfl,rfl,hbb2,by simpa [opsX] using hB2⟩
      clear hB2 hbb2 k1 k3 k5
      rintro k e s ⟨j,hjk,k1,k3,k5,k6,k7,hbb,hB⟩
      have x0 : ∀ k,St.at1 s bb k = ([fi,iA b.e.k,iA b.e.a,iA b.e.t,iA b.e.e,iA b.catch_] : List AV)[k]?:=fun k=>at1_box hbb (by decide) k
      simp only [k1,k3,k5,k6,k7,x0,hopl,kB,kZ,kD,kE,xl,xg,xk,xc,xd,xe,xf,xj,xi,xh,reduceIte,reduceCtorEq,xy,xw,xq]
      refine condO_intro ?_ ?_<;>intro hc
      case refine_2 =>
        have hj : j = b.ops.length:=by have:=of_decide_eq_false hc; omega
        subst hj
        simp only [k1,k3,k5,k6,kB,kZ,kD,kE,xl,xg,xk,xc,xd,xe,xf,xj,xi,xh,reduceIte,reduceCtorEq,xy,xw,xq]
        rw [List.take_length] at hB
        exact ⟨hbb,hB⟩
      have hjj : j < b.ops.length:=by have:=of_decide_eq_true hc; omega
      obtain ⟨b2,o2,he2,hn2,ha2,_⟩:=(hB.arr hpre0 hop).get j (by simpa using hjj)
      have p2:=hn2 []
      simp only [List.append_nil,List.getElem_map] at p2
      have oI:=bI.ops _ (List.getElem_mem hjj)
      have oW:=op_one (bW.op _ (List.getElem_mem hjj))
      have htk2:=opsX_take hjj
      have hol:=opsX_len (l:=b.ops.take j) fun o ho=>bI.ops o (List.mem_of_mem_take ho)
      have hol2 : (b.ops.take j).length≤400:=by simp; omega
      generalize b.ops[j] = o at *
      have hxl:=opX_len oI
      have c1:=fun ox oy=>k_add X.P ox oy [32,32] (opX o) (by simp; omega)
      have c2:=fun ox oy=>k_add X.P ox oy ([32,32]++opX o) [10] (by simp; omega)
      simp only [List.cons_append,List.nil_append,List.append_assoc] at c1 c2
      have hwj : IntKind.wrap .i64 ((j : Int) + 1) = ((j + 1 : Nat) : Int):=by rw [wrap_small (by omega) (by omega)]; omega
      have jt:=j_r07_opText h (hB.gb hg0) o oW oI
      simp only [OpV.row] at p2 jt
      have hB3:=hB
      simp only [k1,k3,k5,k6,k7,x0,he2,p2,kB,kZ,kD,kE,xl,xg,xk,xc,xd,xe,xf,xj,xi,xh,reduceIte,reduceCtorEq,xy,xw,xq]
      refine callO_same jt ?_
      simp only [k1,k3,k5,k6,k7,c1,c2,List.append_assoc,kB,kZ,kD,kE,xl,xg,xk,xc,xd,xe,xf,xj,xi,xh,reduceIte,reduceCtorEq,xy,xw,xq]
      refine callO_write h hB3 (by simp; omega) (by simp; omega) ?_
      intro s' hB' hag
      have hbb':=hag.box hbb (by omega)
      simp only [k1,k3,k5,k6,k7,hwj,kB,kZ,kD,kE,xl,xg,xk,xc,xd,xe,xf,xj,xi,xh,reduceIte,reduceCtorEq,xy,xw,xq]
      refine ⟨k - 1,by omega,j + 1,by omega,rfl,hbb',?_⟩
      rw [htk2]
      simpa [lineX] using hB'
    clear hB2 hbb2 k1 k3 k5
    rintro e s ⟨k1,k3,k5,k6,hbb,hB⟩
    have heI:=bI.e
    have hek:=end_kind bW.end_
    have hel:=endX_len heI
    have x1 : St.atN s bb 1 4 = some b.e.row:=by
      rw [atN_box hbb (by decide) 1 4 (by simp)]
      rfl
    have c1:=fun ox oy=>k_add X.P ox oy [32,32] (endX b.e) (by simp; omega)
    have c2:=fun ox oy=>k_add X.P ox oy ([32,32]++endX b.e) [10] (by simp; omega)
    simp only [List.cons_append,List.nil_append,List.append_assoc] at c1 c2
    simp only [k1,k3,k5,k6,x1,kB,kZ,kD,kE,xl,xg,xk,xc,xd,xe,xf,xj,xi,xh,reduceIte,reduceCtorEq,xy,xw,xq]
    refine callO_same (j_r07_endText h (hB.gb hg0) b.e hek heI) ?_
    simp only [k1,k3,k5,k6,c1,c2,List.append_assoc,kB,kZ,kD,kE,xl,xg,xk,xc,xd,xe,xf,xj,xi,xh,reduceIte,reduceCtorEq,xy,xw,xq]
    refine callO_write h hB (by simp; omega) (by simp; omega) ?_
    intro s' hB' hag
    simp only [k1,k3,k5,k6,hwi,kB,kZ,kD,kE,xl,xg,xk,xc,xd,xe,xf,xj,xi,xh,reduceIte,reduceCtorEq,xy,xw,xq]
    refine ⟨k - 1,by omega,i + 1,by omega,rfl,?_⟩
    have : hdX U++(szsX U.sizes++blksX (U.blocks.take (i + 1))) = P++98 :: 108 :: 111 :: 99 :: 107 :: 32 :: (itoa b.catch_++[10])++opsX b.ops++32 :: 32 :: (endX b.e++[10]):=by
      rw [htk,← List.append_assoc,← List.append_assoc,hP]
      simp [blkX,lineX]
    rw [this]
    simpa using hB'
  clear hB k1 k3
  rintro e s ⟨k3,hB⟩
  have htl:=txtU_len hI wf
  simp only [k3,kB,kZ,kD,kE,xl,xg,xk,xc,xd,xe,xf,xj,xi,xh,reduceIte,reduceCtorEq,xy,xw,xq]
  refine callO_same (j_BString h hB (by omega)) ?_
  simp only [kB,kZ,kD,kE,xl,xg,xk,xc,xd,xe,xf,xj,xi,xh,reduceIte,reduceCtorEq,xy,xw,xq]
  obtain ⟨k,e1⟩:=hB.pre
  obtain ⟨k0,e0⟩:=hpre0
  exact ⟨k0++k,by rw [e1,e0,List.append_assoc]⟩
end
end Go.VX.Seat
end
section
set_option maxRecDepth 4000
namespace Go.VX.Seat
open Go.Proofs Go.Lib
section
variable {X : Cx} {st : St}
set_option maxHeartbeats 2000000 in
theorem w_CodeTexts (h : OnH X) (hg : GB st) {lo hi : Nat} {v : AV} {U0 : UnitV} (hv : UnitAt st lo hi v U0) (hI0 : UnitI U0) :
    wpF X 3 [v] st fun r s=>r = .ret (bA true)∧∃ m,s = st++m:=by
  refine wpF_go (fn:=v_l07_CodeTexts) (by rw [h.F]; rfl) ?_
  have hm:=fun L=>hv.mono L
  obtain ⟨s,bl,rfl,hs,hb⟩:=hv
  have hI:=cutU_I hI0 2001 20001
  have hf:=cutU_fits U0 2001 20001 (by omega) (by omega)
  have hid:=cutU_idem U0 2001 20001
  simp only [v_l07_CodeTexts,kB,kZ,kD,kE,xl,xg,xk,xc,xd,xe,xf,xj,xi,xh,reduceIte,reduceCtorEq,xy,xw,xq]
  refine callO_newU (w_l07_Cut h.toOn (hm _)) ?_
  intro w1 m1 hw1
  simp only [kB,kZ,kD,kE,xl,xg,xk,xc,xd,xe,xf,xj,xi,xh,reduceIte,reduceCtorEq,xy,xw,xq]
  generalize cutU U0 2001 20001 = U at *
  have hO : ∀ M : St,UnitAt (st++(⟨[s,iA U0.params,iA U0.regs,iA U0.code,iA U0.spill,bl],0,0⟩ :: (m1++M))) (st.length + 1) (st.length + (m1.length + 1)) w1 U:=fun M=>by
    have:=hw1.unit.mono M
    simpa using this
  obtain ⟨sz1,bl1,f1,rfl,hz1,hb1⟩:=hw1.ex
  have hszc1:=isCell_len hz1.own.arr.len
  have hblc1:=isCell_len hb1.own.arr.len
  clear hz1 hb1 hw1
  simp only [hszc1,hblc1,kB,kZ,kD,kE,xl,xg,xk,xc,xd,xe,xf,xj,xi,xh,reduceIte,reduceCtorEq,xy,xw,xq]
  have g1:=hO [⟨[sz1,iA U.params,iA U.regs,iA U.code,iA U.spill,bl1],0,1⟩]
  refine callO_newU (w_l07_Cut h.toOn g1) ?_
  intro w2 m2 hw2
  rw [hid] at hw2
  have u2:=hw2.unit
  have g2:=hO (⟨[sz1,iA U.params,iA U.regs,iA U.code,iA U.spill,bl1],0,1⟩ :: m2)
  simp only [List.append_assoc,List.cons_append,List.nil_append] at u2
  simp only [kB,kZ,kD,kE,xl,xg,xk,xc,xd,xe,xf,xj,xi,xh,reduceIte,reduceCtorEq,xy,xw,xq]
  refine callO_same (j_code_Text h (hg.app _) u2 hI) ?_
  simp only [kB,kZ,kD,kE,xl,xg,xk,xc,xd,xe,xf,xj,xi,xh,reduceIte,reduceCtorEq,xy,xw,xq]
  refine callO_same (j_r07_Check h.toOn g2) ?_
  by_cases hc : chkU U = 0
  · simp only [hc,Int.reduceEq,Int.reduceNe,if_true,kB,kZ,kD,kE,xl,xg,xk,xc,xd,xe,xf,xj,xi,xh,reduceIte,reduceCtorEq,xy,xw,xq]
    refine callO_same (j_r07_Text h (hg.app _) g2 hI (chk_wf hc)) ?_
    have e1:=fun ox oy=>k_eq X.P ox oy (txtU U) (txtU U)
    simp only [e1,decide_true,Int.reduceEq,kB,kZ,kD,kE,xl,xg,xk,xc,xd,xe,xf,xj,xi,xh,reduceIte,reduceCtorEq,xy,xw,xq]
    refine callO_same (.hook (h.alive _ (hg.app _))) ?_
    simp only [kB,kZ,kD,kE,xl,xg,xk,xc,xd,xe,xf,xj,xi,xh,reduceIte,reduceCtorEq,xy,xw,xq]
    exact ⟨_,rfl⟩
  · have e : decide (chkU U≠0) = true:=by simpa using hc
    have e1:=fun ox oy=>k_eq X.P ox oy [] []
    simp only [hc,e,e1,if_false,decide_true,Int.reduceEq,kB,kZ,kD,kE,xl,xg,xk,xc,xd,xe,xf,xj,xi,xh,reduceIte,reduceCtorEq,xy,xw,xq]
    refine callO_same (.hook (h.alive _ (hg.app _))) ?_
    simp only [kB,kZ,kD,kE,xl,xg,xk,xc,xd,xe,xf,xj,xi,xh,reduceIte,reduceCtorEq,xy,xw,xq]
    exact ⟨_,rfl⟩
end
end Go.VX.Seat
end
