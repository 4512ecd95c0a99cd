/- A part of the proofs of the statements of one layer: R4n, R7, R9, U18, U42. No condition is added here. -/
import Derived.Lay
import Derived.Test.YtmpndkhedbpmjaaGreatDoorXC17
set_option linter.unusedVariables false
set_option linter.unusedSimpArgs false
section
set_option maxRecDepth 4000
namespace Go.VX.Seat
open Go.Proofs Go.ChangeShapes Go.WideShapes
open Go.RowKit (Below)
section
variable {H : Type} {enc : TypeId × Value→H} {W : World}
theorem law_true {f : FuncId} {ws : List AV} {st : St} {K : KM} {args : List Value} (hc : Callable Go.Proofs.Tryz.prog f) (hw : wpF XS f ws st fun r s=>r = .ret (bA true)∧∃ m,s = st++m) (hE : Ent [0,1,2] W K st) (hargs : VRels K ws args) :
    Calls Go.Proofs.Tryz.prog f args.toArray W fun e W'=>e = .returned (.bool true)∧Below W.heap.size W W':=by
  obtain ⟨r,s,j,rfl,_⟩:=hw
  refine ((seat_sound j).c hc W.heap.size W K W args hE.rel (Nat.le_refl _) hargs).mono fun e W' hp=>?_
  obtain ⟨K',hW',_,v',rfl,hv⟩:=hp
  cases hv
  exact ⟨rfl,hW'.below⟩
end
noncomputable def doorW (os : Os) : World:=World.laidAll Go.Proofs.Tryz.prog os laidL
theorem doorW_os (os : Os) : (doorW os).os = os:=World.laidAll_os _ _ _
theorem door_met (os : Os) (args : Array Value) : laidMetH Go.Proofs.Tryz.prog laidL ((doorW os).forCall (fun _ _=>0) ⟨#[],args,[]⟩).memory:=by
  rw [MakeChecks.laidMetH_plain _ _ _ (by kernel_rfl)]
  exact laidMet_laidAll args (by kernel_rfl) (by kernel_rfl)
end Go.VX.Seat
end
section
set_option maxRecDepth 4000
namespace Go.VX.Seat
open Go.Proofs
theorem c_wrds : Go.Proofs.Tryz.prog.cellsOf 23 = 1:=by kernel_rfl
theorem c_cod : Go.Proofs.Tryz.prog.cellsOf 25 = 6:=by kernel_rfl
theorem c_wrd : Go.Proofs.Tryz.prog.cellsOf 68 = 2:=by kernel_rfl
section
variable {H : Type} {enc : TypeId × Value→H} {W : World} {gl : List Nat}
theorem reads_wrd (hg : ∃ g,gl[0]? = some g∧g < W.heap.size) : Reads enc Go.Proofs.Tryz.prog W gl 68 (fun st cs (b : WrdV)=>∃ a,cs = b.row a∧OpsAt st 0 st.length a b.ops):=by
  intro K st n vs x hE h
  obtain ⟨xs,m,_,_,hl,hx,hf⟩:=DataW.trod_struct Go.Proofs.Tryz.underlying68 h
  rw [c_wrd] at hl
  have hx : xs.length = 2:=hx
  match vs,hl with
  | [v0,v1],_ =>
    have f0 : DataW.trod enc Go.Proofs.Tryz.prog W 0 (fun _=>true) true m 66 (([v0,v1].drop 0).take (Go.Proofs.Tryz.prog.cellsOf 66)) = xs[0]?:=hf 0 _ rfl
    have f2 : DataW.trod enc Go.Proofs.Tryz.prog W 0 (fun _=>true) true m 3 (([v0,v1].drop 1).take (Go.Proofs.Tryz.prog.cellsOf 3)) = xs[1]?:=hf 1 _ rfl
    rw [List.getElem?_eq_getElem (by omega)] at f0 f2
    simp only [c_ops,c_int,List.drop_zero,List.drop_succ_cons,List.take_succ_cons,List.take_zero] at f0 f2
    obtain ⟨k5,e5,_⟩:=DataW.trod_int Go.Proofs.Tryz.underlying3 f2
    simp at e5
    subst e5
    obtain ⟨K',L,cs,ops,h1,h2,h3,a,rfl,h4⟩:=reads_ops hg K st m _ _ hE f0
    cases h3 with
    | cons h3 _=>exact ⟨K',L,_,⟨ops,k5⟩,h1,h2,.cons h3 (VRels.int1 .nil),a,rfl,h4⟩
theorem reads_wrds (hg : ∃ g,gl[0]? = some g∧g < W.heap.size) : Reads enc Go.Proofs.Tryz.prog W gl 23 (fun st cs (l : List WrdV)=>∃ a,cs = [a]∧WrdsAt st 0 st.length a l):=by
  intro K st n vs x hE h
  obtain ⟨K',L,cs,us,h1,h2,h3,a,rows,rfl,h4,h5,h6⟩:=reads_slice (R:=fun st cs (b : WrdV)=>∃ a,cs = b.row a∧OpsAt st 0 st.length a b.ops) (fun st L cs u h=>by
    obtain ⟨a,h1,h2⟩:=h
    exact ⟨a,h1,(ArrAt.mono h2 L).wide0 (Nat.le_refl _) (by simp)⟩) Go.Proofs.Tryz.underlying23 c_wrd (by decide) hg (reads_wrd hg) K st n vs x hE h
  have hrow : rows = us.mapIdx fun i b=>b.row ((rows[i]?.getD []).headD (iA 0)):=List.ext_getElem (by simpa using h5) fun i i1 i2=>by
    obtain ⟨a,e,_⟩:=h6 i i1 (by omega)
    rw [List.getElem_mapIdx,List.getElem?_eq_getElem i1,e]
    rfl
  refine ⟨K',L,[a],us,h1,h2,h3,a,rfl,fun i=>(rows[i]?.getD []).headD (iA 0),by rw [←hrow]; exact h4,fun i hi=>?_⟩
  obtain ⟨a,e,ha⟩:=h6 i (by omega) hi
  show OpsAt _ _ _ ((rows[i]?.getD []).headD (iA 0)) _
  rw [List.getElem?_eq_getElem (by omega),e]
  exact ha
theorem reads_cod (hg : ∃ g,gl[0]? = some g∧g < W.heap.size) : Reads enc Go.Proofs.Tryz.prog W gl 25 (fun st cs (u : CodV)=>CodAt st 0 st.length (.agg cs) u):=by
  intro K st n vs x hE h
  obtain ⟨xs,m,_,_,hl,hx,hf⟩:=DataW.trod_struct Go.Proofs.Tryz.underlying25 h
  rw [c_cod] at hl
  have hx : xs.length = 6:=hx
  match vs,hl with
  | [v0,v1,v2,v3,v4,v5],_ =>
    have f0 : DataW.trod enc Go.Proofs.Tryz.prog W 0 (fun _=>true) true m 22 (([v0,v1,v2,v3,v4,v5].drop 0).take (Go.Proofs.Tryz.prog.cellsOf 22)) = xs[0]?:=hf 0 _ rfl
    have f1 : DataW.trod enc Go.Proofs.Tryz.prog W 0 (fun _=>true) true m 3 (([v0,v1,v2,v3,v4,v5].drop 1).take (Go.Proofs.Tryz.prog.cellsOf 3)) = xs[1]?:=hf 1 _ rfl
    have f2 : DataW.trod enc Go.Proofs.Tryz.prog W 0 (fun _=>true) true m 3 (([v0,v1,v2,v3,v4,v5].drop 2).take (Go.Proofs.Tryz.prog.cellsOf 3)) = xs[2]?:=hf 2 _ rfl
    have f3 : DataW.trod enc Go.Proofs.Tryz.prog W 0 (fun _=>true) true m 3 (([v0,v1,v2,v3,v4,v5].drop 3).take (Go.Proofs.Tryz.prog.cellsOf 3)) = xs[3]?:=hf 3 _ rfl
    have f4 : DataW.trod enc Go.Proofs.Tryz.prog W 0 (fun _=>true) true m 3 (([v0,v1,v2,v3,v4,v5].drop 4).take (Go.Proofs.Tryz.prog.cellsOf 3)) = xs[4]?:=hf 4 _ rfl
    have f5 : DataW.trod enc Go.Proofs.Tryz.prog W 0 (fun _=>true) true m 23 (([v0,v1,v2,v3,v4,v5].drop 5).take (Go.Proofs.Tryz.prog.cellsOf 23)) = xs[5]?:=hf 5 _ rfl
    rw [List.getElem?_eq_getElem (by omega)] at f0 f1 f2 f3 f4 f5
    simp only [c_ints,c_wrds,c_int,List.drop_zero,List.drop_succ_cons,List.take_succ_cons,List.take_zero] at f0 f1 f2 f3 f4 f5
    obtain ⟨k1,e1,_⟩:=DataW.trod_int Go.Proofs.Tryz.underlying3 f1
    obtain ⟨k2,e2,_⟩:=DataW.trod_int Go.Proofs.Tryz.underlying3 f2
    obtain ⟨k3,e3,_⟩:=DataW.trod_int Go.Proofs.Tryz.underlying3 f3
    obtain ⟨k4,e4,_⟩:=DataW.trod_int Go.Proofs.Tryz.underlying3 f4
    simp at e1 e2 e3 e4
    subst e1 e2 e3 e4
    obtain ⟨K1,L1,cs,sz,h1,h2,h3,a,rfl,h4⟩:=reads_nums hg K st m _ _ hE f0
    obtain ⟨K2,L2,cs,bl,g1,g2,g3,b,rfl,g4⟩:=reads_wrds hg K1 (st++L1) m _ _ h1 f5
    cases h3 with
    | cons h3 _ =>
      refine ⟨K2,L1++L2,_,⟨sz,k1,k2,k3,k4,bl⟩,by simpa using g1,KM.le_trans h2 g2,.cons (h3.mono g2) (VRels.int1 (VRels.int1 (VRels.int1 (VRels.int1 g3)))),a,b,rfl,?_,?_⟩
      · have:=(ArrAt.mono h4 L2).wide0 (lo':=0) (hi':=(st++L1++L2).length) (Nat.le_refl _) (by simp)
        simpa using this
      · simpa using g4
end
end Go.VX.Seat
end
section
set_option maxRecDepth 4000
namespace Go.VX
theorem VRels.head {K : KM} {a : AV} {v : Value} {l : List AV} {m : List Value} (h : VRels K (a :: l) (v :: m)) : VRel K a v:=by
  cases h with
  | cons h _=>exact h
end Go.VX
namespace Go.VX.Seat
open Go.Proofs
def BytesAt (st : St) (a : AV) (l : List Int) : Prop:=(∃ lo hi,ArrAt st lo hi a 1 (rowsB l))∧∀ b ∈ l,0≤b∧b < 256
theorem BytesAt.mono {st : St} {a : AV} {l : List Int} (h : BytesAt st a l) (m : St) : BytesAt (st++m) a l:=⟨let ⟨lo,hi,h1⟩:=h.1; ⟨lo,hi,h1.mono m⟩,h.2⟩
theorem c_byt26 : Go.Proofs.Tryz.prog.cellsOf 5 = 1:=by kernel_rfl
section
variable {H : Type} {enc : TypeId × Value→H} {W : World} {gl : List Nat}
theorem reads_byt : Reads enc Go.Proofs.Tryz.prog W gl 5 (fun _ cs (n : Int)=>cs = [.sc (.int .u8 n)]∧0≤n∧n < 256):=by
  intro K st n vs x hE h
  obtain ⟨k,rfl,_,hw⟩:=DataW.trod_int Go.Proofs.Tryz.underlying5 h
  refine ⟨K,[],[.sc (.int .u8 k)],k,by simpa using hE,KM.le_refl K,.cons (.sc rfl) .nil,rfl,?_⟩
  simp only [Lit.wf,Bool.and_eq_true,decide_eq_true_eq] at hw
  have h1 : (0 : Int)≤k:=hw.1
  have h2 : k≤(255 : Int):=hw.2
  omega
theorem reads_bytes (hg : ∃ g,gl[0]? = some g∧g < W.heap.size) : Reads enc Go.Proofs.Tryz.prog W gl 42 (fun st cs (l : List Int)=>∃ a,cs = [a]∧BytesAt st a l):=by
  intro K st n vs x hE h
  obtain ⟨K',L,cs,us,h1,h2,h3,a,rows,rfl,h4,h5,h6⟩:=reads_slice (R:=fun _ cs (n : Int)=>cs = [.sc (.int .u8 n)]∧0≤n∧n < 256) (fun _ _ _ _ h=>h) Go.Proofs.Tryz.underlying42 c_byt26 (by decide) hg reads_byt K st n vs x hE h
  obtain rfl:=rows_map (f:=fun n=>[AV.sc (.int .u8 n)]) h5 (fun i a b=>(h6 i a b).1)
  refine ⟨K',L,[a],us,h1,h2,h3,a,rfl,⟨_,_,h4⟩,fun b hb=>?_⟩
  obtain ⟨i,hi,rfl⟩:=List.mem_iff_getElem.1 hb
  exact (h6 i (by simpa using hi) hi).2
end
end Go.VX.Seat
end
section
set_option maxRecDepth 4000
namespace Go.VX.Seat
open Go.Proofs
theorem atN_swap {st M L : St} {x y : Box} (hm : x.mode = y.mode) (hc : x.cells.length = y.cells.length) {b o : Nat} (h : St.atN (st++(M++x :: L)) b o 0 = some []) : St.atN (st++(M++y :: L)) b o 0 = some []:=by
  by_cases hb : b = st.length + M.length
  · subst hb
    have e : ∀ z : Box,(st++(M++z :: L))[st.length + M.length]? = some z:=fun z=>by
      rw [List.getElem?_append_right (by omega),Nat.add_sub_cancel_left,List.getElem?_append_right (by omega),Nat.sub_self]; rfl
    unfold St.atN at h ⊢
    rw [e x] at h
    rw [e y]
    simp only [hm,hc] at h ⊢
    split at h
    · cases h
    · rename_i h2
      rw [if_neg h2]
      split at h
      · rename_i h3
        rw [if_pos h3]
        simp
      · cases h
  · exact atN_agree (Agree.swap st M x y L) h hb
theorem ArrAt.swap {st M L : St} {x y : Box} (hm : x.mode = y.mode) (hc : x.cells.length = y.cells.length) {lo hi : Nat} {v : AV} {esz : Nat} {rows : List (List AV)} (h : ArrAt (st++(M++x :: L)) lo hi v esz rows) (hlo : st.length + M.length < lo) : ArrAt (st++(M++y :: L)) lo hi v esz rows where
  len:=h.len
  size:=fun b o len e full e1=>let ⟨h1,h2⟩:=h.size b o len e full e1; ⟨h1,atN_swap hm hc h2⟩
  row:=fun i hi=>by
    obtain ⟨b,o,h1,h2,h3,h4⟩:=h.row i hi
    exact ⟨b,o,h1,h2,h3,atN_agree (Agree.swap st M x y L) h4 (by omega)⟩
theorem CodAt.swap {st M L : St} {x y : Box} (hm : x.mode = y.mode) (hc : x.cells.length = y.cells.length) {lo hi : Nat} {v : AV} {C : CodV} (h : CodAt (st++(M++x :: L)) lo hi v C) (hlo : st.length + M.length < lo) : CodAt (st++(M++y :: L)) lo hi v C:=by
  obtain ⟨s,bl,e,hs,f,hb,hbo⟩:=h
  exact ⟨s,bl,e,ArrAt.swap hm hc hs hlo,f,ArrAt.swap hm hc hb hlo,fun i hi=>ArrAt.swap hm hc (hbo i hi) hlo⟩
theorem CodAt.swap2 {st L : St} {a b x y : Box} (hm : x.mode = y.mode) (hc : x.cells.length = y.cells.length) {lo hi : Nat} {v : AV} {C : CodV} (h : CodAt (st++(a :: b :: x :: L)) lo hi v C) (hlo : st.length + 2 < lo) : CodAt (st++(a :: b :: y :: L)) lo hi v C :=
  CodAt.swap (M:=[a,b]) hm hc h hlo
section
variable {X : Cx} {st : St}
end
end Go.VX.Seat
end
open Go.VX.AV renaming cell? → xc, toV → xd
open Int renaming reduceAdd → xe, reduceLE → xf, reduceLT → xh, reduceNeg → xi, reduceToNat → xj
open Nat renaming reduceAdd → xk, reduceEqDiff → xl, reduceLeDiff → xm, reduceMul → xn, reduceSub → xp
open Go.VX.VOpd renaming ev → xq
open Go.VX renaming asInt? → xr, asNat? → xu, cellVal → xv, cellsV → xy, fillA → xz, partsEv → ya, resOf → yc, splice → yd, tupOf → ye, zeroes → yf
section
set_option maxRecDepth 4000
namespace Go.VX.Seat
open Go.Proofs
theorem CodAt.swap1 {st L : St} {a x y : Box} (hm : x.mode = y.mode) (hc : x.cells.length = y.cells.length) {lo hi : Nat} {v : AV} {C : CodV} (h : CodAt (st++(a :: x :: L)) lo hi v C) (hlo : st.length + 1 < lo) : CodAt (st++(a :: y :: L)) lo hi v C :=
  CodAt.swap (M:=[a]) hm hc h hlo
def outD (T : Except Int CodV) : CodV × Int:=match T with
  | .error e=>(⟨[],0,0,0,0,[]⟩,e)
  | .ok C=>(C,0)
theorem LdR.out {st S : St} {T : Except Int CodV} {r : CRes} (h : LdR st S T r) : ∃ s b lo hi,r = .ret (.tup [.agg [s,iA (outD T).1.params,iA (outD T).1.regs,iA (outD T).1.code,iA (outD T).1.spill,b],iA (outD T).2])∧s.isCell = true∧b.isCell = true ∧
    CodAt S lo hi (.agg [s,iA (outD T).1.params,iA (outD T).1.regs,iA (outD T).1.code,iA (outD T).1.spill,b]) (outD T).1∧FitsC (outD T).1:=by
  rcases h with ⟨e,rfl,rfl⟩ | ⟨C,lo,w,rfl,hz,_,hC,rfl⟩
  · refine ⟨_,_,0,0,rfl,rfl,rfl,⟨_,_,rfl,emptyArr _ _ _ _,fun _=>.sc (.slice none 0 0),emptyArr _ _ _ _,fun i hi=>absurd hi (by simp [outD])⟩,?_⟩
    refine ⟨?_,?_,fun b hb=>?_⟩
    · show ((0 : Nat) : Int) < _
      decide
    · show ((0 : Nat) : Int) < _
      decide
    · simp [outD] at hb
  · have hc:=hC.cod
    obtain ⟨s,b,rfl,hs,f,hb,ho⟩:=hc
    refine ⟨s,b,lo,_,rfl,isCell_len hs.len,isCell_len hb.len,⟨s,b,rfl,hs,f,hb,ho⟩,?_⟩
    have hok:=chkR_ok hz
    have h16 : C.sizes.length≤16:=by have:=hok.lim; unfold limR at this; simp at this; omega
    have h60:=hok.n60
    refine ⟨?_,?_,fun w hw=>?_⟩
    · show (C.sizes.length : Int) < _
      omega
    · show (C.words.length : Int) < _
      omega
    · have:=(wrdsR_zero hok.wds w hw).1
      omega
structure FaW (st S : St) (ob gb : Nat) (co cg : List AV) (U : CodV) (vb : AV) (B : List Int) : Prop where
  c1 : ∃ lo hi,CodAt S lo hi (.agg co) U
  c2 : ∃ lo hi,CodAt S lo hi (.agg cg) U
  ob : BoxAt S ob co
  gb : BoxAt S gb cg
  g : GB S
  pre : ∃ m,S = st++m
  b : ∃ lo hi,ArrAt S lo hi vb 1 (rowsB B)
theorem FaW.app {st S : St} {ob gb : Nat} {co cg : List AV} {U : CodV} {vb : AV} {B : List Int} (h : FaW st S ob gb co cg U vb B) (L : St) : FaW st (S++L) ob gb co cg U vb B where
  c1:=let ⟨lo,hi,x⟩:=h.c1; ⟨lo,hi,x.mono L⟩
  c2:=let ⟨lo,hi,x⟩:=h.c2; ⟨lo,hi,x.mono L⟩
  ob:=h.ob.ext (Ext.of _ _)
  gb:=h.gb.ext (Ext.of _ _)
  g:=h.g.app L
  pre:=let ⟨m,x⟩:=h.pre; ⟨m++L,by rw [x,List.append_assoc]⟩
  b:=let ⟨lo,hi,x⟩:=h.b; ⟨lo,hi,x.mono L⟩
section
variable {X : Cx} {st : St}
set_option maxHeartbeats 8000000 in
theorem w_WordsBytes (h : OnH X) (hg : GB st) {lo hi : Nat} {v vb : AV} {U0 : CodV} {B : List Int} (hv : CodAt st lo hi v U0) (hvb : BytesAt st vb B) :
    wpF X 4 [v,vb] st fun r s=>r = .ret (bA true)∧∃ m,s = st++m:=by
  refine wpF_go (fn:=v_l26_WordsBytes) (by rw [h.F]; rfl) ?_
  have hm:=fun L=>hv.mono L
  have hfU:=cut26_fits U0
  obtain ⟨⟨lob,hib,hB⟩,hrB⟩:=hvb
  obtain ⟨s,bl,rfl,hs,hb⟩:=hv
  clear hs hb
  have hcU:=fun L=>w_l26_cut (st:=st++L) h.toOn (hm L)
  generalize cut26 U0 = U at *
  simp only [v_l26_WordsBytes,kB,kZ,kD,kE,xp,xj,xn,xe,xf,xh,xi,xm,xl,xk,reduceIte,reduceCtorEq,yd,yc,xv]
  refine callO_codB (hcU _) ?_
  intro w1 m1 lo1 hi1 g1 c1
  simp only [List.append_assoc,List.cons_append,List.nil_append,kB,kZ,kD,kE,xp,xj,xn,xe,xf,xh,xi,xm,xl,xk,reduceIte,reduceCtorEq,yd,yc,xv]
  refine callO_codB (hcU _) ?_
  intro w2 m2 lo2 hi2 g2 c2
  replace c1:=c1.mono m2
  simp only [List.append_assoc,List.cons_append,List.nil_append,List.length_append,List.length_cons,List.length_nil,Nat.zero_add] at c1 c2 g1 g2
  obtain ⟨sz1,bl1,e1,hs1,hb1⟩:=c1
  have hsc1:=isCell_len hs1.len
  have hsl1:=cellsOf_len hs1.len
  have hbc1 : bl1.isCell = true:=let ⟨_,hb,_⟩:=hb1; isCell_len hb.len
  have c1 : CodAt _ lo1 hi1 w1 U:=⟨sz1,bl1,e1,hs1,hb1⟩
  obtain ⟨sz2,bl2,e2,hs2,hb2⟩:=c2
  have hsc2:=isCell_len hs2.len
  have hsl2:=cellsOf_len hs2.len
  have hbc2 : bl2.isCell = true:=let ⟨_,hb,_⟩:=hb2; isCell_len hb.len
  have c2 : CodAt _ lo2 hi2 w2 U:=⟨sz2,bl2,e2,hs2,hb2⟩
  clear hs1 hb1 hs2 hb2
  subst e1 e2
  replace c1:=CodAt.swap1 (st:=st) (lo:=lo1) (y:=⟨[sz1,iA U.params,iA U.regs,iA U.code,iA U.spill,bl1],0,1⟩) (by rfl) (by rfl) c1 (by omega)
  replace c2:=CodAt.swap1 (st:=st) (lo:=lo2) (y:=⟨[sz1,iA U.params,iA U.regs,iA U.code,iA U.spill,bl1],0,1⟩) (by rfl) (by rfl) c2 (by omega)
  replace c1:=CodAt.swap2 (st:=st) (lo:=lo1) (y:=⟨[sz2,iA U.params,iA U.regs,iA U.code,iA U.spill,bl2],0,1⟩) (by rfl) (by rfl) c1 (by omega)
  replace c2:=CodAt.swap2 (st:=st) (lo:=lo2) (y:=⟨[sz2,iA U.params,iA U.regs,iA U.code,iA U.spill,bl2],0,1⟩) (by rfl) (by rfl) c2 (by omega)
  simp only [List.append_assoc,List.cons_append,List.nil_append,hsc1,hsl1,hbc1,hsc2,hsl2,hbc2,kB,kZ,kD,kE,xp,xj,xn,xe,xf,xh,xi,xm,xl,xk,reduceIte,reduceCtorEq,yd,yc,xv]
  have gS:=hg.app (⟨[s,iA U0.params,iA U0.regs,iA U0.code,iA U0.spill,bl],0,0⟩ :: ⟨[sz1,iA U.params,iA U.regs,iA U.code,iA U.spill,bl1],0,1⟩ :: ⟨[sz2,iA U.params,iA U.regs,iA U.code,iA U.spill,bl2],0,1⟩ :: (m1++m2))
  have oB : BoxAt (st++(⟨[s,iA U0.params,iA U0.regs,iA U0.code,iA U0.spill,bl],0,0⟩ :: ⟨[sz1,iA U.params,iA U.regs,iA U.code,iA U.spill,bl1],0,1⟩ :: ⟨[sz2,iA U.params,iA U.regs,iA U.code,iA U.spill,bl2],0,1⟩ :: (m1++m2))) (st.length + 1) [sz1,iA U.params,iA U.regs,iA U.code,iA U.spill,bl1]:=BoxAt.of (m:=0) (v:=1) (by simp) (by decide)
  have gB : BoxAt (st++(⟨[s,iA U0.params,iA U0.regs,iA U0.code,iA U0.spill,bl],0,0⟩ :: ⟨[sz1,iA U.params,iA U.regs,iA U.code,iA U.spill,bl1],0,1⟩ :: ⟨[sz2,iA U.params,iA U.regs,iA U.code,iA U.spill,bl2],0,1⟩ :: (m1++m2))) (st.length + 2) [sz2,iA U.params,iA U.regs,iA U.code,iA U.spill,bl2]:=BoxAt.of (m:=0) (v:=1) (by simp) (by decide)
  have hpre : ∃ m,(st++(⟨[s,iA U0.params,iA U0.regs,iA U0.code,iA U0.spill,bl],0,0⟩ :: ⟨[sz1,iA U.params,iA U.regs,iA U.code,iA U.spill,bl1],0,1⟩ :: ⟨[sz2,iA U.params,iA U.regs,iA U.code,iA U.spill,bl2],0,1⟩ :: (m1++m2)) : St) = st++m:=⟨_,rfl⟩
  have hB0:=hB.mono (⟨[s,iA U0.params,iA U0.regs,iA U0.code,iA U0.spill,bl],0,0⟩ :: ⟨[sz1,iA U.params,iA U.regs,iA U.code,iA U.spill,bl1],0,1⟩ :: ⟨[sz2,iA U.params,iA U.regs,iA U.code,iA U.spill,bl2],0,1⟩ :: (m1++m2))
  generalize (st++(⟨[s,iA U0.params,iA U0.regs,iA U0.code,iA U0.spill,bl],0,0⟩ :: ⟨[sz1,iA U.params,iA U.regs,iA U.code,iA U.spill,bl1],0,1⟩ :: ⟨[sz2,iA U.params,iA U.regs,iA U.code,iA U.spill,bl2],0,1⟩ :: (m1++m2)) : St) = S0 at *
  have ox : ∀ L,St.atN (S0++L) (st.length + 1) 0 6 = some [sz1,iA U.params,iA U.regs,iA U.code,iA U.spill,bl1]:=fun L=>oB.atN L 0 6 (by simp)
  have gx : ∀ L,St.atN (S0++L) (st.length + 2) 0 6 = some [sz2,iA U.params,iA U.regs,iA U.code,iA U.spill,bl2]:=fun L=>gB.atN L 0 6 (by simp)
  have hFa : FaW st S0 (st.length + 1) (st.length + 2) _ _ U vb B:=⟨⟨_,_,c1⟩,⟨_,_,c2⟩,oB,gB,gS,hpre,⟨_,_,hB0⟩⟩
  clear oB gB hm hcU g1 g2 hB hB0
  generalize hobE : st.length + 1 = ob' at *
  generalize hgbE : st.length + 2 = gb' at *
  have hself : decide (chkR U≠chkR U) = false:=decide_eq_false fun e=>e rfl
  refine wpF.mono (w_words_Bytes h gS c2) ?_
  rintro r S1 ⟨hbad,hok⟩
  have hun : ∃ x m,r = .ret (.tup [x,iA (chkR U)])∧S1 = S0++m∧(chkR U≠0→lenA x = some 0)∧(chkR U = 0→∃ lo hi,ArrAt S1 lo hi x 1 (rowsB (bytesP U))):=by
    by_cases hz : chkR U = 0
    · obtain ⟨x,m,e1,e2,hown,_⟩:=hok hz
      exact ⟨x,m,by rw [e1,hz],e2,fun e=>absurd hz e,fun _=>⟨_,_,hown.arr⟩⟩
    · obtain ⟨e1,m,e2⟩:=hbad hz
      exact ⟨_,m,e1,e2,fun _=>rfl,fun e=>absurd e hz⟩
  clear hbad hok
  obtain ⟨x,m,rfl,rfl,hx0,hx1⟩:=hun
  refine ⟨keptA_nil _ _ _,?_⟩
  simp only [ox,kB,kZ,kD,kE,xp,xj,xn,xe,xf,xh,xi,xm,xl,xk,reduceIte,reduceCtorEq,yd,yc,xv]
  refine callO_same (j_r26_Check h.toOn (c1.mono m)) ?_
  simp only [hself,kB,kZ,kD,kE,xp,xj,xn,xe,xf,xh,xi,xm,xl,xk,reduceIte,reduceCtorEq,yd,yc,xv]
  refine anyG (mS m0) (fun e s=>∃ L,s = S0++L∧e 1 = vb∧e 5 = .ptr ob' 0∧e 6 = .ptr gb' 0) ?_ ?_
  · have n00 : decide (((0 : Nat) : Int)≠0) = false:=by decide
    have n01 : decide ((0 : Int)≠0) = false:=by decide
    cases hz : decide (chkR U≠0)
    · have hz0 : chkR U = 0:=Classical.byContradiction fun e=>of_decide_eq_false hz e
      have hz2 : decide (chkR U = 0) = true:=decide_eq_true hz0
      obtain ⟨lo3,hi3,hxa⟩:=hx1 hz0
      have hbq : ((bstr (bytesP U)).toList == (bstr (bytesP U)).toList) = true:=beq_self_eq_true _
      simp only [hz,hz2,hself,kB,kZ,kD,kE,xp,xj,xn,xe,xf,xh,xi,xm,xl,xk,reduceIte,reduceCtorEq,yd,yc,xv]
      refine opR_b2s (by simp only [kB,kZ,kD,kE,xp,xj,xn,xe,xf,xh,xi,xm,xl,xk,reduceIte,reduceCtorEq,yd,yc,xv]) hxa ?_
      simp only [ox,kB,kZ,kD,kE,xp,xj,xn,xe,xf,xh,xi,xm,xl,xk,reduceIte,reduceCtorEq,yd,yc,xv]
      refine wpF.mono (w_r26_Bytes h.toOn (c1.mono m) hz0) ?_
      rintro r S2 ⟨w2,m3,lo4,rfl,rfl,hown⟩
      refine ⟨kept_app _ _ _ _,?_⟩
      simp only [kB,kZ,kD,kE,xp,xj,xn,xe,xf,xh,xi,xm,xl,xk,reduceIte,reduceCtorEq,yd,yc,xv]
      have ha2:=hown.arr
      rw [List.append_assoc] at ha2
      refine opR_b2s (by simp only [kB,kZ,kD,kE,xp,xj,xn,xe,xf,xh,xi,xm,xl,xk,reduceIte,reduceCtorEq,yd,yc,xv]) ha2 ?_
      simp only [c_neqs,hbq,kB,kZ,kD,kE,xp,xj,xn,xe,xf,xh,xi,xm,xl,xk,reduceIte,reduceCtorEq,yd,yc,xv]
      exact ⟨m++m3,rfl⟩
    · have l0:=hx0 (of_decide_eq_true hz)
      have hz2 : decide (chkR U = 0) = false:=decide_eq_false (of_decide_eq_true hz)
      simp only [hz,hz2,l0,n00,n01,hself,kB,kZ,kD,kE,xp,xj,xn,xe,xf,xh,xi,xm,xl,xk,reduceIte,reduceCtorEq,yd,yc,xv]
      exact ⟨m,rfl⟩
  clear hx0 hx1 hself ox gx c1 c2 gS hpre
  rintro e s3 ⟨L,rfl,k1,k5,k6⟩
  have hF3:=hFa.app L
  clear hFa
  generalize (S0++L : St) = S3 at *
  have hmin : min (B.length : Int) 3000 = ((min B.length 3000 : Nat) : Int):=by omega
  obtain ⟨lob,hib,hB⟩:=hF3.b
  have lb:=hB.len
  simp only [List.length_map] at lb
  rw [←List.append_nil S3]
  simp only [k1,k5,k6,lb,hmin,kB,kZ,kD,kE,xp,xj,xn,xe,xf,xh,xi,xm,xl,xk,reduceIte,reduceCtorEq,yd,yc,xv]
  refine opR_pre (vx:=vb) (n:=min B.length 3000) (by simp only [kB,kZ,kD,kE,xp,xj,xn,xe,xf,xh,xi,xm,xl,xk,reduceIte,reduceCtorEq,yd,yc,xv]) (by first | (simp only [kB,kZ,kD,kE,xp,xj,xn,xe,xf,xh,xi,xm,xl,xk,reduceIte,reduceCtorEq,yd,yc,xv]; done) | (simp only [kB,kZ,kD,kE,xp,xj,xn,xe,xf,xh,xi,xm,xl,xk,reduceIte,reduceCtorEq,yd,yc,xv]; rw [if_pos (by omega)])) (hB.mono _) (by simp; omega) ?_
  intro wi hwi
  refine ⟨keptA_nil _ _ _,?_⟩
  rw [←List.map_take] at hwi
  obtain ⟨n,hn⟩ : ∃ n,min B.length 3000 = n:=⟨_,rfl⟩
  have hnl : n≤B.length:=by omega
  have hn3 : n≤3000:=by omega
  rw [hn] at hwi
  have hQl : (B.take n).length = n:=by simp; omega
  have hQr : ∀ b ∈ B.take n,0≤b∧b < 256:=fun b hb=>hrB b (List.mem_of_mem_take hb)
  simp only [k1,k5,k6,kB,kZ,kD,kE,xp,xj,xn,xe,xf,xh,xi,xm,xl,xk,reduceIte,reduceCtorEq,yd,yc,xv]
  refine opR_appendF (b:=S3.length + 0) (z:=⟨[],0,0⟩) (lo:=S3.length) (by simp only [kB,kZ,kD,kE,xp,xj,xn,xe,xf,xh,xi,xm,xl,xk,reduceIte,reduceCtorEq,yd,yc,xv]) (by simp only [kB,kZ,kD,kE,xp,xj,xn,xe,xf,xh,xi,xm,xl,xk,reduceIte,reduceCtorEq,yd,yc,xv]) (by simp) (by decide) (by omega) hwi (by simp; omega) ?_
  intro w5 M5 hown5 _
  have hF5:=hF3.app ([⟨[],0,0⟩]++M5)
  rw [←List.append_assoc] at hF5
  clear hF3 hwi hB
  generalize (S3++[⟨[],0,0⟩]++M5 : St) = S5 at *
  simp only [k1,k5,k6,kB,kZ,kD,kE,xp,xj,xn,xe,xf,xh,xi,xm,xl,xk,reduceIte,reduceCtorEq,yd,yc,xv]
  refine wpF.mono (w_Load h hF5.g hown5.arr (by omega) hQr) ?_
  rintro r S6 ⟨⟨m6,rfl⟩,hR6⟩
  obtain ⟨s6,b6,lo6,hi6,rfl,hs6,hb6,hC6,hfit⟩:=hR6.out
  refine ⟨keptA_nil _ _ _,?_⟩
  obtain ⟨D,hD⟩ : ∃ D,(outD (loadD (B.take n))).1 = D:=⟨_,rfl⟩
  obtain ⟨f,hf⟩ : ∃ f,(outD (loadD (B.take n))).2 = f:=⟨_,rfl⟩
  rw [hD] at hC6 hfit ⊢
  rw [hf]
  have hF6:=hF5.app m6
  have hin6:=own_frame hown5 m6
  clear hR6 hF5 hown5
  generalize (S5++m6 : St) = S6 at *
  rw [←List.append_nil S6]
  simp only [k1,k5,k6,hs6,hb6,kB,kZ,kD,kE,xp,xj,xn,xe,xf,xh,xi,xm,xl,xk,reduceIte,reduceCtorEq,yd,yc,xv]
  refine opR_appendF (b:=S6.length + 1) (z:=⟨[],0,0⟩) (lo:=S6.length) (by simp only [kB,kZ,kD,kE,xp,xj,xn,xe,xf,xh,xi,xm,xl,xk,reduceIte,reduceCtorEq,yd,yc,xv]) (by simp only [kB,kZ,kD,kE,xp,xj,xn,xe,xf,xh,xi,xm,xl,xk,reduceIte,reduceCtorEq,yd,yc,xv]) (by simp) (by decide) (by omega) (hin6.arr.mono _) (by simp; omega) ?_
  intro w7 M7 hown7 _
  have b11 : BoxAt (S6++[⟨[s6,iA D.params,iA D.regs,iA D.code,iA D.spill,b6],0,1⟩,⟨[],0,0⟩]++M7) (S6.length + 0) [s6,iA D.params,iA D.regs,iA D.code,iA D.spill,b6]:=BoxAt.of (m:=0) (v:=1) (by simp) (by decide)
  have hF7:=hF6.app ([⟨[s6,iA D.params,iA D.regs,iA D.code,iA D.spill,b6],0,1⟩,⟨[],0,0⟩]++M7)
  have hin7:=own_frame hin6 ([⟨[s6,iA D.params,iA D.regs,iA D.code,iA D.spill,b6],0,1⟩,⟨[],0,0⟩]++M7)
  have hC7:=hC6.mono ([⟨[s6,iA D.params,iA D.regs,iA D.code,iA D.spill,b6],0,1⟩,⟨[],0,0⟩]++M7)
  rw [←List.append_assoc] at hF7 hin7 hC7
  clear hF6 hin6 hC6
  generalize (S6++[⟨[s6,iA D.params,iA D.regs,iA D.code,iA D.spill,b6],0,1⟩,⟨[],0,0⟩]++M7 : St) = S7 at *
  simp only [k1,k5,k6,kB,kZ,kD,kE,xp,xj,xn,xe,xf,xh,xi,xm,xl,xk,reduceIte,reduceCtorEq,yd,yc,xv]
  refine wpF.mono (w_LoadX h.toOn hown7.arr (by omega) hQr) ?_
  rintro r S8 ⟨⟨m8,rfl⟩,hR8⟩
  obtain ⟨s8,b8,lo8,hi8,rfl,hs8,hb8,hC8,_⟩:=hR8.out
  refine ⟨keptA_nil _ _ _,?_⟩
  rw [hD] at hC8 ⊢
  rw [hf]
  have b11' : BoxAt (S7++m8) (S6.length + 0) [s6,iA D.params,iA D.regs,iA D.code,iA D.spill,b6]:=b11.ext (Ext.of _ _)
  have hF8:=hF7.app m8
  have hin8:=own_frame hin7 m8
  have hC7':=hC7.mono m8
  clear hR8 hF7 hown7 hin7 hC7 b11
  generalize (S7++m8 : St) = S8 at *
  have x11 : ∀ L,St.atN (S8++L) (S6.length + 0) 0 6 = some [s6,iA D.params,iA D.regs,iA D.code,iA D.spill,b6]:=fun L=>b11'.atN L 0 6 (by simp)
  have xo : ∀ L,St.atN (S8++L) ob' 0 6 = some [sz1,iA U.params,iA U.regs,iA U.code,iA U.spill,bl1]:=fun L=>hF8.ob.atN L 0 6 (by simp)
  have xg : ∀ L,St.atN (S8++L) gb' 0 6 = some [sz2,iA U.params,iA U.regs,iA U.code,iA U.spill,bl2]:=fun L=>hF8.gb.atN L 0 6 (by simp)
  have hff : decide (f = f) = true:=decide_eq_true rfl
  obtain ⟨loa,hia,ca⟩:=hF8.c1
  obtain ⟨lob2,hib2,cb⟩:=hF8.c2
  obtain ⟨lob3,hib3,hB3⟩:=hF8.b
  obtain ⟨mm,hmm⟩:=hF8.pre
  have lw5:=hin8.arr.len
  simp only [List.length_map] at lw5
  generalize S6.length + 0 = p11 at *
  rw [←List.append_nil S8]
  simp only [k1,k5,k6,hs8,hb8,hff,x11,kB,kZ,kD,kE,xp,xj,xn,xe,xf,xh,xi,xm,xl,xk,reduceIte,reduceCtorEq,yd,yc,xv]
  have j1:=j_r26_Same h.toOn (hC7'.mono [⟨[s8,iA D.params,iA D.regs,iA D.code,iA D.spill,b8],0,1⟩]) (hC8.mono _) hfit
  refine callO_same j1 ?_
  simp only [k1,k5,k6,xo,xg,decide_true,kB,kZ,kD,kE,xp,xj,xn,xe,xf,xh,xi,xm,xl,xk,reduceIte,reduceCtorEq,yd,yc,xv]
  refine callO_same (j_r26_Same h.toOn (ca.mono _) (cb.mono _) hfU) ?_
  simp only [k1,k5,k6,decide_true,kB,kZ,kD,kE,xp,xj,xn,xe,xf,xh,xi,xm,xl,xk,reduceIte,reduceCtorEq,yd,yc,xv]
  refine opR_b2s (by simp only [kB,kZ,kD,kE,xp,xj,xn,xe,xf,xh,xi,xm,xl,xk,reduceIte,reduceCtorEq,yd,yc,xv]) (hin8.arr.mono _) ?_
  simp only [k1,lw5,kB,kZ,kD,kE,xp,xj,xn,xe,xf,xh,xi,xm,xl,xk,reduceIte,reduceCtorEq,yd,yc,xv]
  refine opR_pre (vx:=vb) (n:=(B.take n).length) (by simp only [kB,kZ,kD,kE,xp,xj,xn,xe,xf,xh,xi,xm,xl,xk,reduceIte,reduceCtorEq,yd,yc,xv]) (by first | (simp only [kB,kZ,kD,kE,xp,xj,xn,xe,xf,xh,xi,xm,xl,xk,reduceIte,reduceCtorEq,yd,yc,xv]; done) | (simp only [kB,kZ,kD,kE,xp,xj,xn,xe,xf,xh,xi,xm,xl,xk,reduceIte,reduceCtorEq,yd,yc,xv]; rw [if_pos (by omega)])) (hB3.mono _) (by simp; omega) ?_
  intro w9 hw9
  refine ⟨keptA_nil _ _ _,?_⟩
  rw [←List.map_take,hQl] at hw9
  simp only [kB,kZ,kD,kE,xp,xj,xn,xe,xf,xh,xi,xm,xl,xk,reduceIte,reduceCtorEq,yd,yc,xv]
  refine opR_b2s (by simp only [kB,kZ,kD,kE,xp,xj,xn,xe,xf,xh,xi,xm,xl,xk,reduceIte,reduceCtorEq,yd,yc,xv]) hw9 ?_
  have hbq : ((bstr (B.take n)).toList == (bstr (B.take n)).toList) = true:=beq_self_eq_true _
  simp only [c_eqs,hbq,kB,kZ,kD,kE,xp,xj,xn,xe,xf,xh,xi,xm,xl,xk,reduceIte,reduceCtorEq,yd,yc,xv]
  refine callO_same (.hook (h.alive _ (hF8.g.app _))) ?_
  simp only [kB,kZ,kD,kE,xp,xj,xn,xe,xf,xh,xi,xm,xl,xk,reduceIte,reduceCtorEq,yd,yc,xv]
  rw [hmm]
  exact ⟨_,List.append_assoc _ _ _⟩
end
end Go.VX.Seat
end
