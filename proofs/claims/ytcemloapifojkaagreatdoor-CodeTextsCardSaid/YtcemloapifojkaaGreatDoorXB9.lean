/- A part of the proofs of the statements of one layer: S16, S17, S18, S19, S20, S21, S22, S24, S23, E1. No condition is added here. -/
import Derived.Test.YtcemloapifojkaaGreatDoorXB8
set_option linter.unusedVariables false
set_option linter.unusedSimpArgs false
open Go.VX.AV renaming cell? → xa, toV → xb
open Int renaming reduceAdd → xc, reduceLE → xd, reduceLT → xe, reduceNeg → xf, reduceToNat → xg
open Nat renaming reduceAdd → xh, reduceEqDiff → xi, reduceLeDiff → xj, reduceMul → xk, reduceSub → xl
open Go.VX.VOpd renaming ev → xm
open Go.VX renaming asInt? → xn, asNat? → xp, cellVal → xq, cellsV → xr, fillA → xu, partsEv → xv, resOf → xw, splice → xy, tupOf → xz, zeroes → ya
section
set_option maxRecDepth 4000
namespace Go.VX.Seat
open Go.Proofs
def outF (x : Int × Int × Int) : CRes:=outC x.2.1 x.2.2 x.1
theorem BoxAt.head (st : St) (cs : List AV) (v : Nat) (L : St) : BoxAt (st++(⟨cs,0,v⟩ :: L)) (st.length + 0) cs:=BoxAt.of (m:=0) (v:=v) (by simp) (by decide)
theorem BoxAt.first (cs : List AV) (v : Nat) (L : St) : BoxAt (⟨cs,0,v⟩ :: L) 0 cs:=BoxAt.of (m:=0) (v:=v) (by simp) (by decide)
theorem kept_loc {env : Env} {st M : St} {C C' : Box} {j o : Nat} {x : VOpd} (h : x.ev env = .ptr (st.length + (j + 1)) o) : keptA env (st++(C :: M)) (st++(C' :: M)) [x] = true:=by
  unfold keptA
  simp only [List.all_cons,List.all_nil,Bool.and_true,h,adrBox]
  rw [List.getElem?_append_right (by omega),List.getElem?_append_right (by omega),Nat.add_sub_cancel_left,List.getElem?_cons_succ,List.getElem?_cons_succ]
  cases M[j]? with
  | none=>rfl
  | some b=>simp
section
variable {X : Cx}
set_option maxHeartbeats 4000000 in
theorem w_code_unit (h : On X) {st : St} (hg : GlobAt st) {lo hi : Nat} {s bl : AV} {U : UnitV} (hs : IntsAt st lo hi s U.sizes) (hb : BlksAt st lo hi bl U.blocks) :
    wpF X 91 [.ptr (st.length + 0) 0] (st++[⟨[s,iA U.params,iA U.regs,iA U.code,iA U.spill,bl,iA 0,iA 0],0,0⟩]) fun r s=>r = outF (findU U)∧∃ m,s = st++m:=by
  refine wpF_intro (fn:=v_code_checker_unit) (by rw [h.F]; rfl) ?_
  have l1:=hs.len
  have l2 : lenA bl = some U.blocks.length:=by
    obtain ⟨f,hb,_⟩:=hb
    have:=hb.len
    simpa using this
  have hcs:=isCell_len l1
  have hcb:=isCell_len l2
  simp only [List.length_map] at l1
  simp only [v_code_checker_unit,l1,l2,hcs,hcb,kB,kC,cellsOf,kE,xl,xg,xk,xc,xd,xe,xf,xj,xi,xh,reduceIte,reduceCtorEq,xy,xw,xq]
  have hex : ∀ {r : CRes} {s' : St},(∃ L,s' = st++L)→r = outF (findU U)→(r = outF (findU U)∧∃ m,s' = st++m):=fun h1 h2=>⟨h2,h1⟩
  refine cutG m0 [0,2] (fun _=>limitsU U = false) ?_ ?_
  · have hval : limitsU U = true→outF (findU U) = outC 0 0 3:=fun hq=>by
      unfold findU
      rw [hq]
      rfl
    unfold limitsU at hval ⊢
    simp only [Bool.or_eq_true,Bool.or_eq_false_iff,decide_eq_true_eq,decide_eq_false_iff_not] at hval ⊢
    repeat' first
      | (refine gO_t ?_ ?_<;>(intro hc; simp only [hc,l1,l2,kB,kC,cellsOf,kE,xl,xg,xk,xc,xd,xe,xf,xj,xi,xh,reduceIte,reduceCtorEq,xy,xw,xq]))
      | (refine callO_must h (BoxAt.head _ _ _ _) (by decide) ?_ ?_<;>(intro hc; simp only [kB,kC,cellsOf,kE,xl,xg,xk,xc,xd,xe,xf,xj,xi,xh,reduceIte,reduceCtorEq,xy,xw,xq]))
    all_goals first
      | (cases hc; done)
      | (simp only [decide_eq_true_eq,decide_eq_false_iff_not] at *
         omega)
      | (rw [hval (by simp only [decide_eq_true_eq,decide_eq_false_iff_not] at *; omega),outC_ne (by decide)]
         first | exact ⟨_,rfl⟩ | exact ⟨rfl,_,rfl⟩ | exact ⟨trivial,_,rfl⟩ | exact ⟨[],(List.append_nil _).symm⟩)
      | fail
  · intro e1 hL hlim
    simp only [kB,kC,cellsOf,kE,xl,xg,xk,xc,xd,xe,xf,xj,xi,xh,reduceIte,reduceCtorEq,xy,xw,xq] at hL
    obtain ⟨h0,h2⟩:=hL
    have hnb : (U.blocks.length : Int)≤2000∧1≤U.blocks.length:=by
      simp only [limitsU,Bool.or_eq_false_iff,decide_eq_false_iff_not] at hlim
      omega
    have hns : (U.sizes.length : Int)≤16:=by
      simp only [limitsU,Bool.or_eq_false_iff,decide_eq_false_iff_not] at hlim
      omega
    simp only [h0,h2,l1,l2,kB,kC,cellsOf,kE,xl,xg,xk,xc,xd,xe,xf,xj,xi,xh,reduceIte,reduceCtorEq,xy,xw,xq]
    refine callO_same (j_ContainsFunc h (hs.mono _) (by omega)) ?_
    simp only [h0,h2,l1,l2,kB,kC,cellsOf,kE,xl,xg,xk,xc,xd,xe,xf,xj,xi,xh,reduceIte,reduceCtorEq,xy,xw,xq]
    refine callO_must h (BoxAt.head _ _ _ _) (by decide) ?_ ?_<;>intro hsz
    case refine_2 =>
      have : outF (findU U) = outC 0 0 2:=by
        have hsz : U.sizes.any badSize = true:=by simpa using hsz
        unfold findU
        rw [hlim,hsz]
        rfl
      simp only [this,outC_ne (e:=2) (by decide),kB,kC,cellsOf,kE,xl,xg,xk,xc,xd,xe,xf,xj,xi,xh,reduceIte,reduceCtorEq,xy,xw,xq]
      first | exact ⟨_,rfl⟩ | exact ⟨rfl,_,rfl⟩ | exact ⟨trivial,_,rfl⟩ | exact ⟨[],(List.append_nil _).symm⟩
    have hsz : U.sizes.any badSize = false:=by simpa using hsz
    simp only [h0,h2,l1,l2,kB,kC,cellsOf,kE,xl,xg,xk,xc,xd,xe,xf,xj,xi,xh,reduceIte,reduceCtorEq,xy,xw,xq]
    refine cutG m0 [0,2] (fun _=>headU U = false) ?_ ?_
    · have hval : headU U = true→outF (findU U) = outC 0 0 2:=fun hq=>by
        unfold findU
        rw [hlim,hsz,hq]
        rfl
      unfold headU at hval ⊢
      simp only [Bool.or_eq_true,Bool.or_eq_false_iff,decide_eq_true_eq,decide_eq_false_iff_not,Bool.not_eq_eq_eq_not,Bool.not_true,Bool.not_false] at hval ⊢
      repeat' first
        | (refine gO_t ?_ ?_<;>(intro hc; simp only [hc,h0,h2,l1,l2,kB,kC,cellsOf,kE,xl,xg,xk,xc,xd,xe,xf,xj,xi,xh,reduceIte,reduceCtorEq,xy,xw,xq]))
        | (refine callO_same (j_code_within h _ _) ?_; simp only [h0,h2,kB,kC,cellsOf,kE,xl,xg,xk,xc,xd,xe,xf,xj,xi,xh,reduceIte,reduceCtorEq,xy,xw,xq])
        | (refine callO_must h (BoxAt.head _ _ _ _) (by decide) ?_ ?_<;>(intro hc; simp only [h0,h2,kB,kC,cellsOf,kE,xl,xg,xk,xc,xd,xe,xf,xj,xi,xh,reduceIte,reduceCtorEq,xy,xw,xq]))
      all_goals first
        | (cases hc; done)
        | (refine ⟨?_,hc⟩
           simp only [decide_eq_true_eq,decide_eq_false_iff_not] at *
           omega)
        | (rw [hval (Or.inr hc),outC_ne (by decide)]
           first | exact ⟨_,rfl⟩ | exact ⟨rfl,_,rfl⟩ | exact ⟨trivial,_,rfl⟩ | exact ⟨[],(List.append_nil _).symm⟩)
        | (rw [hval (Or.inl (by simp only [decide_eq_true_eq,decide_eq_false_iff_not] at *; omega)),outC_ne (by decide)]
           first | exact ⟨_,rfl⟩ | exact ⟨rfl,_,rfl⟩ | exact ⟨trivial,_,rfl⟩ | exact ⟨[],(List.append_nil _).symm⟩)
        | fail
    · intro e2 hL hhd
      simp only [kB,kC,cellsOf,kE,xl,xg,xk,xc,xd,xe,xf,xj,xi,xh,reduceIte,reduceCtorEq,xy,xw,xq] at hL
      simp only [h0,h2] at hL
      obtain ⟨g0,g2⟩:=hL
      simp only [g0,g2,l1,l2,kB,kC,cellsOf,kE,xl,xg,xk,xc,xd,xe,xf,xj,xi,xh,reduceIte,reduceCtorEq,xy,xw,xq]
      have hsp : 0≤U.spill:=by
        simp only [headU,Bool.or_eq_false_iff,decide_eq_false_iff_not] at hhd
        omega
      have hval : findU U = match blkFind U 0 U.blocks with
          | some x=>x
          | none=>if decide (20000 < (total U.blocks : Int)) then (3,0,0) else (0,0,0):=by
        unfold findU
        simp only [hlim,hsz,hhd,Bool.false_eq_true,if_false]
        try rfl
      refine loop_inv (fun n e s'=>∃ (L : St) (ver : Nat) (blk at_ : Int),s' = st++(⟨[s,iA U.params,iA U.regs,iA U.code,iA U.spill,bl,iA blk,iA at_],0,ver⟩ :: L)∧BoxAt L 0 [s,iA U.params,iA U.regs,iA U.code,iA U.spill,bl]∧e 0 = .ptr (st.length + 0) 0∧e 2 = .ptr (st.length + 1) 0∧e 81 = bl∧e 82 = iA U.blocks.length ∧
        ∃ i : Nat,i + n = U.blocks.length∧e 83 = iA i∧e 3 = iA (total (U.blocks.take i))∧total (U.blocks.take i)≤400 * i∧blkFind U i (U.blocks.drop i) = blkFind U 0 U.blocks) ?_ U.blocks.length ?_
      case refine_2 =>
        exact ⟨[⟨[s,iA U.params,iA U.regs,iA U.code,iA U.spill,bl],0,1⟩],0,0,0,rfl,BoxAt.first _ _ _,by simp only [g0,kB,kC,cellsOf,kE,xl,xg,xk,xc,xd,xe,xf,xj,xi,xh,reduceIte,reduceCtorEq,xy,xw,xq],by simp only [g2,kB,kC,cellsOf,kE,xl,xg,xk,xc,xd,xe,xf,xj,xi,xh,reduceIte,reduceCtorEq,xy,xw,xq],by simp only [kB,kC,cellsOf,kE,xl,xg,xk,xc,xd,xe,xf,xj,xi,xh,reduceIte,reduceCtorEq,xy,xw,xq],by simp only [kB,kC,cellsOf,kE,xl,xg,xk,xc,xd,xe,xf,xj,xi,xh,reduceIte,reduceCtorEq,xy,xw,xq],0,by omega,by simp only [kB,kC,cellsOf,kE,xl,xg,xk,xc,xd,xe,xf,xj,xi,xh,reduceIte,reduceCtorEq,xy,xw,xq],by simp only [kB,kC,cellsOf,kE,xl,xg,xk,xc,xd,xe,xf,xj,xi,xh,reduceIte,reduceCtorEq,xy,xw,xq]; rfl,by simp [total],rfl⟩
      intro n e s' ⟨L,ver,blk,at_,hs',hB2,k0,k2,k81,k82,i,hin,k83,k3,htot,hfind⟩
      rw [show s' = st++(⟨[s,iA U.params,iA U.regs,iA U.code,iA U.spill,bl,iA blk,iA at_],0,ver⟩ :: (L++[])) by rw [hs',List.append_nil]]
      clear hs' s' g0 g2 h0 h2 e1 e2
      have y1:=hB2.at1
      have yN:=hB2.atN
      obtain ⟨f,hb1,hbo⟩:=hb
      simp only [k0,k2,k81,k82,k83,k3,kB,kC,cellsOf,kE,xl,xg,xk,xc,xd,xe,xf,xj,xi,xh,reduceIte,reduceCtorEq,xy,xw,xq]
      refine condO_intro ?_ ?_<;>intro hc<;>simp only [kB,kC,cellsOf,kE,xl,xg,xk,xc,xd,xe,xf,xj,xi,xh,reduceIte,reduceCtorEq,xy,xw,xq]
      · have hi : i < U.blocks.length:=by have:=of_decide_eq_true hc; omega
        obtain ⟨b1,o1,he1,hn1,_,_⟩:=hb1.get i (by simpa using hi)
        simp only [List.getElem_mapIdx,BlkV.row] at hn1
        have hcell:=isCell_len (hbo i hi).len
        have l3:=(hbo i hi).len
        simp only [List.length_map] at l3
        rw [List.drop_eq_getElem_cons hi] at hfind
        simp only [blkFind] at hfind
        simp only [k0,k2,k81,k82,k83,k3,y1,l2,he1,hn1,hcell,l3,kZ,kB,kC,cellsOf,kE,xl,xg,xk,xc,xd,xe,xf,xj,xi,xh,reduceIte,reduceCtorEq,xy,xw,xq]
        have hbad : (decide (U.blocks[i].catch_ < -1) || decide ((U.blocks.length : Int)≤U.blocks[i].catch_)) = true→outF (findU U) = outC i U.blocks[i].ops.length 2:=fun hb=>by
          rw [hval,← hfind]
          simp only [hb,if_true]
          rfl
        have hcat : (decide (U.blocks[i].catch_ = -1) || regOkA U.blocks.length U.blocks[i].catch_) = !(decide (U.blocks[i].catch_ < -1) || decide ((U.blocks.length : Int)≤U.blocks[i].catch_)):=by
          unfold regOkA
          by_cases q1 : U.blocks[i].catch_ = -1
          · have q2 : ¬ (U.blocks[i].catch_ < -1):=by omega
            have q3 : ¬ ((U.blocks.length : Int)≤U.blocks[i].catch_):=by omega
            simp [q1]
            omega
          · by_cases q2 : U.blocks[i].catch_ < -1
            · have q3 : ¬ (0≤U.blocks[i].catch_):=by omega
              simp [q1,q2,q3]
            · have q3 : 0≤U.blocks[i].catch_:=by omega
              by_cases q4 : (U.blocks.length : Int)≤U.blocks[i].catch_
              · have q5 : ¬ (U.blocks[i].catch_ < U.blocks.length):=by omega
                simp [q1,q2,q3,q4,q5]
              · have q5 : U.blocks[i].catch_ < U.blocks.length:=by omega
                simp [q1,q2,q3,q4,q5]
        refine ⟨kept_loc (j:=L.length + 0) (o:=0) (by simp only [kZ,kB,kC,cellsOf,kE,xl,xg,xk,xc,xd,xe,xf,xj,xi,xh,reduceIte,reduceCtorEq,xy,xw,xq]),?_⟩
        try simp only [k0,k2,k81,k82,k83,k3,y1,l2,he1,hn1,hcell,l3,kZ,kB,kC,cellsOf,kE,xl,xg,xk,xc,xd,xe,xf,xj,xi,xh,reduceIte,reduceCtorEq,xy,xw,xq]
        have hB2a : BoxAt (L++[⟨[f i,iA U.blocks[i].e.k,iA U.blocks[i].e.a,iA U.blocks[i].e.t,iA U.blocks[i].e.e,iA U.blocks[i].catch_],0,1⟩]) 0 [s,iA U.params,iA U.regs,iA U.code,iA U.spill,bl]:=hB2.ext (Ext.of _ _)
        have hB5a : BoxAt (L++[⟨[f i,iA U.blocks[i].e.k,iA U.blocks[i].e.a,iA U.blocks[i].e.t,iA U.blocks[i].e.e,iA U.blocks[i].catch_],0,1⟩]) (L.length + 0) [f i,iA U.blocks[i].e.k,iA U.blocks[i].e.a,iA U.blocks[i].e.t,iA U.blocks[i].e.e,iA U.blocks[i].catch_]:=BoxAt.last _ _ _
        refine cutG m0 [0,2,3,4,5,81,82,83] (fun _=>(decide (U.blocks[i].catch_ < -1) || decide ((U.blocks.length : Int)≤U.blocks[i].catch_)) = false) ?_ ?_
        · refine gO_f ?_ ?_<;>intro hq<;>simp only [k0,k2,k81,k82,k83,k3,y1,l2,hq,kZ,kB,kC,cellsOf,kE,xl,xg,xk,xc,xd,xe,xf,xj,xi,xh,reduceIte,reduceCtorEq,xy,xw,xq]
          · refine callO_must h (BoxAt.head _ _ _ _) (by decide) ?_ ?_<;>intro hq2
            · rw [hq,Bool.true_or] at hcat
              have:=congrArg (! ·) hcat
              simp only [Bool.not_not,Bool.not_true] at this
              simp only [←this,kZ,kB,kC,cellsOf,kE,xl,xg,xk,xc,xd,xe,xf,xj,xi,xh,reduceIte,reduceCtorEq,xy,xw,xq]
            · cases hq2
          · refine callO_same (j_code_within h _ _) ?_
            simp only [k0,k2,k81,k82,k83,k3,kZ,kB,kC,cellsOf,kE,xl,xg,xk,xc,xd,xe,xf,xj,xi,xh,reduceIte,reduceCtorEq,xy,xw,xq]
            refine callO_must h (BoxAt.head _ _ _ _) (by decide) ?_ ?_<;>intro hq2
            · rw [hq2,Bool.or_true] at hcat
              have:=congrArg (! ·) hcat
              simp only [Bool.not_not,Bool.not_true] at this
              simp only [←this,kZ,kB,kC,cellsOf,kE,xl,xg,xk,xc,xd,xe,xf,xj,xi,xh,reduceIte,reduceCtorEq,xy,xw,xq]
            · rw [hq,hq2,Bool.or_self] at hcat
              have:=congrArg (! ·) hcat
              simp only [Bool.not_not,Bool.not_false] at this
              simp only [hbad this.symm,outC_ne (e:=2) (by decide),kZ,kB,kC,cellsOf,kE,xl,xg,xk,xc,xd,xe,xf,xj,xi,xh,reduceIte,reduceCtorEq,xy,xw,xq]
              first | exact ⟨_,rfl⟩ | exact ⟨rfl,_,rfl⟩ | exact ⟨trivial,_,rfl⟩ | exact ⟨[],(List.append_nil _).symm⟩
        · intro e5 hL5 hcatok
          simp only [hcatok,Bool.false_eq_true,if_false] at hfind
          clear hbad hcat
          simp only [k0,k2,k81,k82,k83,k3,kZ,kB,kC,cellsOf,kE,xl,xg,xk,xc,xd,xe,xf,xj,xi,xh,reduceIte,reduceCtorEq,xy,xw,xq] at hL5
          obtain ⟨m0',m2,m3,m4,m5,m81,m82,m83⟩:=hL5
          clear k0 k2 k81 k82 k83 k3
          have z1:=hB2a.at1
          have z5:=hB5a.at1
          have z5N:=hB5a.atN
          generalize hL2 : L++[⟨[f i,iA U.blocks[i].e.k,iA U.blocks[i].e.a,iA U.blocks[i].e.t,iA U.blocks[i].e.e,iA U.blocks[i].catch_],0,1⟩] = L2 at *
          simp only [Nat.add_zero] at z5 z5N
          rw [show L2 = L2++[] by simp]
          simp only [m0',m2,m3,m4,m5,m81,m82,m83,z1,z5,l3,kB,kC,cellsOf,kE,xl,xg,xk,xc,xd,xe,xf,xj,xi,xh,reduceIte,reduceCtorEq,xy,xw,xq]
          refine callO_must h (BoxAt.head _ _ _ _) (by decide) ?_ ?_<;>intro hq4
          case refine_2 =>
            have h400 : decide (400 < (U.blocks[i].ops.length : Int)) = true:=by
              have:=of_decide_eq_false hq4
              exact decide_eq_true (by omega)
            have : outF (findU U) = outC i U.blocks[i].ops.length 3:=by
              rw [hval,← hfind]
              simp only [h400,if_true]
              rfl
            simp only [this,outC_ne (e:=3) (by decide),kB,kC,cellsOf,kE,xl,xg,xk,xc,xd,xe,xf,xj,xi,xh,reduceIte,reduceCtorEq,xy,xw,xq]
            first | exact ⟨_,rfl⟩ | exact ⟨rfl,_,rfl⟩ | exact ⟨trivial,_,rfl⟩ | exact ⟨[],(List.append_nil _).symm⟩
          have hle : U.blocks[i].ops.length≤400:=by have:=of_decide_eq_true hq4; omega
          have h400 : decide (400 < (U.blocks[i].ops.length : Int)) = false:=decide_eq_false (by omega)
          simp only [h400,Bool.false_eq_true,if_false] at hfind
          simp only [m0',m2,m3,m4,m5,m81,m82,m83,z1,z5,l3,kB,kC,cellsOf,kE,xl,xg,xk,xc,xd,xe,xf,xj,xi,xh,reduceIte,reduceCtorEq,xy,xw,xq]
          refine loop_inv (fun n e s'=>∃ (L3 : St) (ver : Nat) (at_ : Int),s' = st++(⟨[s,iA U.params,iA U.regs,iA U.code,iA U.spill,bl,iA i,iA at_],0,ver⟩ :: L3)∧BoxAt L3 0 [s,iA U.params,iA U.regs,iA U.code,iA U.spill,bl]∧BoxAt L3 L.length [f i,iA U.blocks[i].e.k,iA U.blocks[i].e.a,iA U.blocks[i].e.t,iA U.blocks[i].e.e,iA U.blocks[i].catch_] ∧
            e 0 = .ptr (st.length + 0) 0∧e 2 = .ptr (st.length + 1) 0∧e 3 = iA (total (U.blocks.take i))∧e 5 = .ptr (st.length + (L.length + 0 + 1)) 0∧e 81 = bl∧e 82 = iA U.blocks.length∧e 83 = iA i∧e 118 = f i∧e 119 = iA U.blocks[i].ops.length ∧
            ∃ k : Nat,k + n = U.blocks[i].ops.length∧e 120 = iA k∧opsFind U i k (U.blocks[i].ops.drop k) = opsFind U i 0 U.blocks[i].ops) ?_ U.blocks[i].ops.length ?_
          case refine_2 =>
            refine ⟨L2,_,_,by rw [List.append_nil],hB2a,by simpa using hB5a,?_,?_,?_,?_,?_,?_,?_,?_,?_,0,by omega,?_,rfl⟩
            all_goals simp only [m0',m2,m3,m4,m5,m81,m82,m83,kB,kC,cellsOf,kE,xl,xg,xk,xc,xd,xe,xf,xj,xi,xh,reduceIte,reduceCtorEq,xy,xw,xq]
            all_goals rfl
          clear z1 z5 z5N m0' m2 m3 m4 m5 m81 m82 m83 e5 hB2a hB5a y1 yN hL2
          intro n2 e6 s6 ⟨L3,ver3,at3,hs6,c2,c5,k0,k2,k3,k5,k81,k82,k83,k118,k119,k,hk,k120,hof⟩
          rw [show s6 = st++(⟨[s,iA U.params,iA U.regs,iA U.code,iA U.spill,bl,iA i,iA at3],0,ver3⟩ :: (L3++[])) by rw [hs6,List.append_nil]]
          clear hs6 s6
          have z1:=c2.at1
          have z5:=c5.at1
          have z5N:=c5.atN
          simp only [k0,k2,k3,k5,k81,k82,k83,k118,k119,k120,kB,kC,cellsOf,kE,xl,xg,xk,xc,xd,xe,xf,xj,xi,xh,reduceIte,reduceCtorEq,xy,xw,xq]
          refine condO_intro ?_ ?_<;>intro hc6<;>simp only [kB,kC,cellsOf,kE,xl,xg,xk,xc,xd,xe,xf,xj,xi,xh,reduceIte,reduceCtorEq,xy,xw,xq]
          · have hk2 : k < U.blocks[i].ops.length:=by have:=of_decide_eq_true hc6; omega
            obtain ⟨b2,o2,he2,hn2,_,_⟩:=(hbo i hi).get k (by simpa using hk2)
            simp only [List.getElem_map,OpV.row] at hn2
            rw [List.drop_eq_getElem_cons hk2] at hof
            simp only [opsFind] at hof
            simp only [k0,k2,k3,k5,k81,k82,k83,k118,k119,k120,l3,he2,hn2,kZ,kB,kC,cellsOf,kE,xl,xg,xk,xc,xd,xe,xf,xj,xi,xh,reduceIte,reduceCtorEq,xy,xw,xq]
            refine callO_out (j_code_op h (hg.ext (Ext.of _ _)) l1 l2 hsp (BoxAt.head _ _ _ _) _ _ _ _ _ _ _) ?_ ?_<;>intro hq7
            · have hx : opsFind U i (k + 1) ((U.blocks[i].ops).drop (k + 1)) = opsFind U i 0 U.blocks[i].ops:=by
                rw [←hof]
                refine (if_neg ?_).symm
                intro hd
                exact (of_decide_eq_true hd) hq7
              simp only [k0,k2,k3,k5,k81,k82,k83,k118,k119,k120,kZ,kB,kC,cellsOf,kE,xl,xg,xk,xc,xd,xe,xf,xj,xi,xh,reduceIte,reduceCtorEq,xy,xw,xq]
              rw [wrap_small (by omega) (by omega)]
              exact ⟨n2 - 1,by omega,_,_,_,rfl,c2.ext (Ext.of _ _),c5.ext (Ext.of _ _),k + 1,by omega,by simp,hx⟩
            · have hx : opsFind U i 0 U.blocks[i].ops = some (opErrU U (U.blocks[i].ops)[k],(i : Int),(k : Int)):=by
                rw [←hof]
                exact if_pos (decide_eq_true hq7)
              rw [hx] at hfind
              simp only at hfind
              have : outF (findU U) = outC i k (opErrU U (U.blocks[i].ops)[k]):=by
                rw [hval,← hfind]
                rfl
              have hq8 : opErrU U (U.blocks[i].ops)[k]≠0:=hq7
              simp only [this,outC_ne hq8,kZ,kB,kC,cellsOf,kE,xl,xg,xk,xc,xd,xe,xf,xj,xi,xh,reduceIte,reduceCtorEq,xy,xw,xq]
              first
                | first | exact ⟨_,rfl⟩ | exact ⟨rfl,_,rfl⟩ | exact ⟨trivial,_,rfl⟩ | exact ⟨[],(List.append_nil _).symm⟩
                | fail
          · have hk2 : k = U.blocks[i].ops.length:=by have:=of_decide_eq_false hc6; omega
            rw [←hof,List.drop_eq_nil_of_le (by omega)] at hfind
            simp only [opsFind] at hfind
            simp only [k0,k2,k3,k5,k81,k82,k83,k118,k119,k120,z1,z5,z5N,l3,kZ,kB,kC,cellsOf,kE,xl,xg,xk,xc,xd,xe,xf,xj,xi,xh,reduceIte,reduceCtorEq,xy,xw,xq]
            refine callO_out (j_code_end h l2 (BoxAt.head _ _ _ _) _ _ _ _) ?_ ?_<;>intro hq7
            · have hd : decide (endErrU U U.blocks[i].e≠0) = false:=decide_eq_false (fun hn=>hn hq7)
              simp only [hd,Bool.false_eq_true,if_false] at hfind
              have htk : total (U.blocks.take (i + 1)) = total (U.blocks.take i) + U.blocks[i].ops.length:=by
                unfold total
                rw [List.take_succ_eq_append_getElem hi]
                simp only [List.map_append,List.map_cons,List.map_nil,List.sum_append,List.sum_cons,List.sum_nil,Nat.add_zero]
              simp only [k0,k2,k3,k5,k81,k82,k83,k118,k119,k120,z1,z5,z5N,l3,kZ,kB,kC,cellsOf,kE,xl,xg,xk,xc,xd,xe,xf,xj,xi,xh,reduceIte,reduceCtorEq,xy,xw,xq]
              rw [wrap_small (by omega) (by omega)]
              try rw [wrap_small (by omega) (by omega)]
              refine ⟨n - 1,by omega,_,_,_,_,rfl,c2.ext (Ext.of _ _),i + 1,by omega,by simp,by rw [htk]; simp,by omega,hfind⟩
            · have hd : decide (endErrU U U.blocks[i].e≠0) = true:=decide_eq_true hq7
              have : outF (findU U) = outC i U.blocks[i].ops.length (endErrU U U.blocks[i].e):=by
                rw [hval,← hfind]
                simp only [hd,if_true]
                rfl
              have hq8 : endErrU U U.blocks[i].e≠0:=hq7
              simp only [this,outC_ne hq8,kZ,kB,kC,cellsOf,kE,xl,xg,xk,xc,xd,xe,xf,xj,xi,xh,reduceIte,reduceCtorEq,xy,xw,xq]
              first
                | first | exact ⟨_,rfl⟩ | exact ⟨rfl,_,rfl⟩ | exact ⟨trivial,_,rfl⟩ | exact ⟨[],(List.append_nil _).symm⟩
                | fail
      · have hi : i = U.blocks.length:=by have:=of_decide_eq_false hc; omega
        have t1 : U.blocks.take i = U.blocks:=List.take_of_length_le (by omega)
        have t2 : U.blocks.drop i = []:=List.drop_eq_nil_of_le (by omega)
        rw [t1] at k3
        rw [t2] at hfind
        simp only [blkFind] at hfind
        rw [←hfind] at hval
        simp only at hval
        simp only [k0,k2,k3,kZ,kB,kC,cellsOf,kE,xl,xg,xk,xc,xd,xe,xf,xj,xi,xh,reduceIte,reduceCtorEq,xy,xw,xq]
        refine callO_must h (BoxAt.head _ _ _ _) (by decide) ?_ ?_<;>intro hq
        · have : outF (findU U) = .ret (.tup []):=by
            have h2 : decide (20000 < (total U.blocks : Int)) = false:=by
              have:=of_decide_eq_true hq
              exact decide_eq_false (by omega)
            rw [hval,h2]
            rfl
          simp only [this,kZ,kB,kC,cellsOf,kE,xl,xg,xk,xc,xd,xe,xf,xj,xi,xh,reduceIte,reduceCtorEq,xy,xw,xq]
          first | exact ⟨_,rfl⟩ | exact ⟨rfl,_,rfl⟩ | exact ⟨trivial,_,rfl⟩ | exact ⟨[],(List.append_nil _).symm⟩
        · have : outF (findU U) = outC 0 0 3:=by
            have h2 : decide (20000 < (total U.blocks : Int)) = true:=by
              have:=of_decide_eq_false hq
              exact decide_eq_true (by omega)
            rw [hval,h2]
            rfl
          simp only [this,outC_ne (e:=3) (by decide),kZ,kB,kC,cellsOf,kE,xl,xg,xk,xc,xd,xe,xf,xj,xi,xh,reduceIte,reduceCtorEq,xy,xw,xq]
          first | exact ⟨_,rfl⟩ | exact ⟨rfl,_,rfl⟩ | exact ⟨trivial,_,rfl⟩ | exact ⟨[],(List.append_nil _).symm⟩
end
end Go.VX.Seat
end
section
set_option maxRecDepth 4000
namespace Go.VX.Seat
open Go.Proofs
def AppOk (s : St) (w : AV) : Prop:=∀ b o n e full,w = .sl b o n e full→full = true∨((s[b]?).map (·.mode)) = some 0
structure OwnS (s : St) (lo : Nat) (w : AV) (esz : Nat) (rows : List (List AV)) : Prop where
  arr : ArrAt s lo s.length w esz rows
  bnd : ∀ b,boxOf w = some b→lo≤b∧b < s.length
  app : AppOk s w
def ExactBox (s : St) (w : AV) (esz : Nat) (rows : List (List AV)) : Prop:=rows≠[]→∃ b full ver,w = .sl b 0 rows.length esz full∧s[b]? = some ⟨rows.flatten,0,ver⟩
theorem nil_or_sl {v : AV} {n : Nat} (h : lenA v = some n) : (v = .sc (.slice none 0 0)∧n = 0)∨∃ b o e f,v = .sl b o n e f:=by
  unfold lenA at h
  split at h
  · cases h; exact .inr ⟨_,_,_,_,rfl⟩
  · cases h; exact .inl ⟨rfl,rfl⟩
  · cases h
theorem emptyArr (st : St) (lo hi esz : Nat) : ArrAt st lo hi (.sc (.slice none 0 0)) esz [] where
  len:=rfl
  size:=fun b o len e f h=>by cases h
  row:=fun i h=>absurd h (by simp)
theorem _root_.Go.VX.ArrAt.wide' {st : St} {lo hi lo' hi' : Nat} {v : AV} {esz : Nat} {rows : List (List AV)} (h : ArrAt st lo hi v esz rows) (h1 : lo'≤lo) (h2 : hi≤hi') : ArrAt st lo' hi' v esz rows where
  len:=h.len
  size:=h.size
  row:=fun i hi=>by
    obtain ⟨b,o,a1,a2,a3,a4⟩:=h.row i hi
    exact ⟨b,o,a1,by omega,by omega,a4⟩
theorem _root_.Go.VX.ArrAt.wide {st : St} {lo hi hi' : Nat} {v : AV} {esz : Nat} {rows : List (List AV)} (h : ArrAt st lo hi v esz rows) (h2 : hi≤hi') : ArrAt st lo hi' v esz rows:=h.wide' (Nat.le_refl _) h2
theorem own_nil (s : St) (lo esz : Nat) : OwnS s lo (.sc (.slice none 0 0)) esz []:=⟨emptyArr _ _ _ _,fun b h=>(by cases h),fun b o n e full h=>(by cases h)⟩
theorem own_empty {s : St} {b lo esz : Nat} {x : Box} (h : s[b]? = some x) (hm : x.mode < 2) (hl : lo≤b) : OwnS s lo (.sl b 0 0 esz true) esz [] where
  arr := { len := rfl
           size:=fun b o len e full hv=>by
             cases hv
             refine ⟨rfl,?_⟩
             unfold St.atN
             simp [h,hm]
           row:=fun i hi=>absurd hi (by simp) }
  bnd:=fun b hb=>by cases hb; exact ⟨hl,(List.getElem?_eq_some_iff.1 h).1⟩
  app:=fun b o n e full h=>(by cases h; exact .inl rfl)
section
variable {X : Cx} {st : St}
end
end Go.VX.Seat
end
section
set_option maxRecDepth 4000
namespace Go.VX.Seat
open Go.Proofs
theorem OwnS.agree {X : Nat→Prop} {s s' : St} {lo esz : Nat} {w : AV} {rows : List (List AV)} (h : OwnS s lo w esz rows) (ha : Agree X s s') (hx : ∀ b,boxOf w = some b→¬ X b) : OwnS s' lo w esz rows where
  arr:=(h.arr.agree ha hx).wide ha.len
  bnd:=fun b hb=>⟨(h.bnd b hb).1,Nat.lt_of_lt_of_le (h.bnd b hb).2 ha.len⟩
  app:=fun b o n e full hw=>by
    have hb : boxOf w = some b:=by rw [hw]; rfl
    rcases h.app b o n e full hw with h1 | h1
    · exact .inl h1
    · exact .inr (by rw [ha.eq b (h.bnd b hb).2 (hx b hb)]; exact h1)
theorem OwnS.low {s : St} {lo lo' esz : Nat} {w : AV} {rows : List (List AV)} (h : OwnS s lo w esz rows) (hl : lo'≤lo) : OwnS s lo' w esz rows where
  arr:=h.arr.wide' hl (Nat.le_refl _)
  bnd:=fun b hb=>⟨Nat.le_trans hl (h.bnd b hb).1,(h.bnd b hb).2⟩
  app:=h.app
theorem ExactBox.agree {X : Nat→Prop} {s s' : St} {esz : Nat} {w : AV} {rows : List (List AV)} (h : ExactBox s w esz rows) (ha : Agree X s s') (hx : ∀ b,boxOf w = some b→¬ X b) : ExactBox s' w esz rows:=fun hne=>by
  obtain ⟨b,full,ver,rfl,hb⟩:=h hne
  exact ⟨b,full,ver,rfl,by rw [ha.eq b (List.getElem?_eq_some_iff.1 hb).1 (hx b rfl)]; exact hb⟩
def blkRows (l : List BlkV) (f : Nat→AV) : List (List AV):=l.mapIdx fun i b=>b.row (f i)
theorem blkRows_length (l : List BlkV) (f : Nat→AV) : (blkRows l f).length = l.length:=by simp [blkRows]
structure OwnB (s : St) (lo : Nat) (bl : AV) (f : Nat→AV) (l : List BlkV) : Prop where
  own : OwnS s lo bl 6 (blkRows l f)
  box : ExactBox s bl 6 (blkRows l f)
  ops : ∀ i (h : i < l.length),OwnS s lo (f i) 7 (l[i].ops.map OpV.row)
  sep1 : ∀ i,i < l.length→∀ b,boxOf bl = some b→boxOf (f i)≠some b
  sep2 : ∀ i j,i < l.length→j < l.length→i≠j→∀ b,boxOf (f i) = some b→boxOf (f j)≠some b
structure OwnZ (s : St) (lo : Nat) (sz bl : AV) (f : Nat→AV) (zs : List Int) (l : List BlkV) : Prop where
  own : OwnS s lo sz 1 (zs.map fun n=>[iA n])
  sep : ∀ b,boxOf sz = some b→boxOf bl≠some b∧∀ i,i < l.length→boxOf (f i)≠some b
structure OwnU (s : St) (lo : Nat) (v : AV) (U : UnitV) : Prop where
  ex : ∃ sz bl f,v = .agg [sz,iA U.params,iA U.regs,iA U.code,iA U.spill,bl]∧OwnZ s lo sz bl f U.sizes U.blocks∧OwnB s lo bl f U.blocks
theorem OwnB.agree {X : Nat→Prop} {s s' : St} {lo : Nat} {bl : AV} {f : Nat→AV} {l : List BlkV} (h : OwnB s lo bl f l) (ha : Agree X s s') (hx : ∀ b,lo≤b→b < s.length→¬ X b) : OwnB s' lo bl f l where
  own:=h.own.agree ha fun b hb=>hx b (h.own.bnd b hb).1 (h.own.bnd b hb).2
  box:=h.box.agree ha fun b hb=>hx b (h.own.bnd b hb).1 (h.own.bnd b hb).2
  ops:=fun i hi=>(h.ops i hi).agree ha fun b hb=>hx b ((h.ops i hi).bnd b hb).1 ((h.ops i hi).bnd b hb).2
  sep1:=h.sep1
  sep2:=h.sep2
theorem OwnZ.agree {X : Nat→Prop} {s s' : St} {lo : Nat} {sz bl : AV} {f : Nat→AV} {zs : List Int} {l : List BlkV} (h : OwnZ s lo sz bl f zs l) (ha : Agree X s s') (hx : ∀ b,lo≤b→b < s.length→¬ X b) : OwnZ s' lo sz bl f zs l where
  own:=h.own.agree ha fun b hb=>hx b (h.own.bnd b hb).1 (h.own.bnd b hb).2
  sep:=h.sep
theorem OwnU.agree {X : Nat→Prop} {s s' : St} {lo : Nat} {v : AV} {U : UnitV} (h : OwnU s lo v U) (ha : Agree X s s') (hx : ∀ b,lo≤b→b < s.length→¬ X b) : OwnU s' lo v U :=
  let ⟨sz,bl,f,e,hz,hb⟩:=h.ex
  ⟨sz,bl,f,e,hz.agree ha hx,hb.agree ha hx⟩
theorem OwnB.blks {s : St} {lo : Nat} {bl : AV} {f : Nat→AV} {l : List BlkV} (h : OwnB s lo bl f l) : BlksAt s lo s.length bl l:=⟨f,h.own.arr,fun i hi=>(h.ops i hi).arr⟩
theorem OwnU.unit {s : St} {lo : Nat} {v : AV} {U : UnitV} (h : OwnU s lo v U) : UnitAt s lo s.length v U :=
  let ⟨sz,bl,f,e,hz,hb⟩:=h.ex
  ⟨sz,bl,e,hz.own.arr,hb.blks⟩
theorem blkRows_snoc (l : List BlkV) (f : Nat→AV) (b : BlkV) (w : AV) : blkRows (l++[b]) (fun j=>if j = l.length then w else f j) = blkRows l f++[b.row w]:=by
  unfold blkRows
  apply List.ext_getElem
  · simp
  · intro i h1 h2
    simp only [List.getElem_mapIdx]
    by_cases hi : i < l.length
    · rw [List.getElem_append_left hi,List.getElem_append_left (by simpa using hi),List.getElem_mapIdx,if_neg (by omega)]
    · simp at h1
      have : i = l.length:=by omega
      subst this
      simp
theorem OwnB.snoc {X : Nat→Prop} {s s3 : St} {lo : Nat} {bl bl' w : AV} {f : Nat→AV} {l : List BlkV} {b : BlkV} (hB : OwnB s lo bl f l) (ha : Agree X s s3) (hX : ∀ n,n < s.length→X n→boxOf bl = some n) (hw : OwnS s3 lo w 7 (b.ops.map OpV.row)) (hwn : ∀ n,boxOf w = some n→s.length≤n)
    (hown : OwnS s3 lo bl' 6 (blkRows l f++[b.row w])) (hex : ExactBox s3 bl' 6 (blkRows l f++[b.row w])) (hbl : ∀ n,boxOf bl' = some n→s.length≤n∧boxOf w≠some n) : OwnB s3 lo bl' (fun j=>if j = l.length then w else f j) (l++[b]) where
  own:=by rw [blkRows_snoc]; exact hown
  box:=by rw [blkRows_snoc]; exact hex
  ops:=fun i hi=>by
    by_cases h : i < l.length
    · simp only [List.getElem_append_left h]
      rw [if_neg (by omega)]
      exact (hB.ops i h).agree ha fun n hn hx=>hB.sep1 i h n (hX n ((hB.ops i h).bnd n hn).2 hx) hn
    · simp at hi
      have : i = l.length:=by omega
      subst this
      simpa using hw
  sep1:=fun i hi n hn=>by
    have h1:=hbl n hn
    by_cases h : i < l.length
    · rw [if_neg (by omega)]
      intro h2
      have:=((hB.ops i h).bnd n h2).2
      omega
    · simp at hi
      rw [if_pos (by omega)]
      exact h1.2
  sep2:=fun i j hi hj hij n hn=>by
    simp at hi hj
    by_cases h : i < l.length<;>by_cases h' : j < l.length
    · rw [if_neg (by omega)] at hn ⊢
      exact hB.sep2 i j h h' hij n hn
    · rw [if_neg (by omega)] at hn
      rw [if_pos (by omega)]
      intro h2
      have:=((hB.ops i h).bnd n hn).2
      have:=hwn n h2
      omega
    · rw [if_pos (by omega)] at hn
      rw [if_neg (by omega)]
      intro h2
      have:=((hB.ops j h').bnd n h2).2
      have:=hwn n hn
      omega
    · omega
theorem OwnZ.snoc {X : Nat→Prop} {s s3 : St} {lo : Nat} {sz bl bl' w : AV} {f : Nat→AV} {zs : List Int} {l : List BlkV} {b : BlkV} (hZ : OwnZ s lo sz bl f zs l) (ha : Agree X s s3) (hX : ∀ n,n < s.length→X n→boxOf bl = some n) (hwn : ∀ n,boxOf w = some n→s.length≤n) (hbl : ∀ n,boxOf bl' = some n→s.length≤n) :
    OwnZ s3 lo sz bl' (fun j=>if j = l.length then w else f j) zs (l++[b]) where
  own:=hZ.own.agree ha fun n hn hx=>(hZ.sep n hn).1 (hX n (hZ.own.bnd n hn).2 hx)
  sep:=fun n hn=>by
    have h0:=(hZ.own.bnd n hn).2
    refine ⟨fun h=>by have:=hbl n h; omega,fun i hi h=>?_⟩
    simp at hi
    by_cases h' : i < l.length
    · rw [if_neg (by omega)] at h
      exact (hZ.sep n hn).2 i h' h
    · rw [if_pos (by omega)] at h
      have:=hwn n h
      omega
theorem OwnB.low {s : St} {lo lo' : Nat} {bl : AV} {f : Nat→AV} {l : List BlkV} (h : OwnB s lo bl f l) (hl : lo'≤lo) : OwnB s lo' bl f l :=
  ⟨h.own.low hl,h.box,fun i hi=>(h.ops i hi).low hl,h.sep1,h.sep2⟩
theorem OwnZ.low {s : St} {lo lo' : Nat} {sz bl : AV} {f : Nat→AV} {zs : List Int} {l : List BlkV} (h : OwnZ s lo sz bl f zs l) (hl : lo'≤lo) : OwnZ s lo' sz bl f zs l:=⟨h.own.low hl,h.sep⟩
theorem OwnU.low {s : St} {lo lo' : Nat} {v : AV} {U : UnitV} (h : OwnU s lo v U) (hl : lo'≤lo) : OwnU s lo' v U :=
  let ⟨sz,bl,f,e,hz,hb⟩:=h.ex
  ⟨sz,bl,f,e,hz.low hl,hb.low hl⟩
theorem srcCells_arr {s : St} {lo hi esz : Nat} {v : AV} {rows : List (List AV)} (h : ArrAt s lo hi v esz rows) : srcCells s esz rows.length v = some rows.flatten:=by
  by_cases hr : rows = []
  · subst hr
    have hl:=h.len
    rcases nil_or_sl hl with ⟨rfl,_⟩ | ⟨b,o,e,f,rfl⟩
    · rfl
    · obtain ⟨h1,h2⟩:=h.size _ _ _ _ _ rfl
      subst h1
      simp only [srcCells,List.length_nil,Nat.le_refl,true_and,if_true,Nat.zero_mul,h2,List.flatten_nil]
  · exact h.src hr
theorem append_own {P : Program} {env : Env} {s : St} {lo lo' hi' esz bytes : Nat} {x y : VOpd} {rows rows2 : List (List AV)} (hx : OwnS s lo (x.ev env) esz rows) (hlo : lo≤s.length) (hy : ArrAt s lo' hi' (y.ev env) esz rows2)
    (hsz : (rows.length + rows2.length) * (bytes + 1)≤1000000000) (hc : rows2.flatten.all AV.isCell = true) :
    ∃ w s',vop P (.append esz bytes x y) env s = some (.val w,s')∧Agree (fun b=>rows2≠[]∧boxOf (x.ev env) = some b) s s'∧OwnS s' lo w esz (rows++rows2) ∧
      ((rows2 = []∧w = x.ev env∧s' = s)∨(rows2≠[]∧boxOf w = some s.length∧ExactBox s' w esz (rows++rows2))):=by
  have l1:=hx.arr.len
  have l2:=hy.len
  have q1:=srcLen_len l1
  have q2:=srcLen_len l2
  have q3:=srcCells_arr hx.arr
  have q4:=srcCells_arr hy
  have hrl : ∀ r ∈ rows++rows2,r.length = esz:=fun r hr=>by
    rcases List.mem_append.1 hr with hr | hr
    · exact hx.arr.rowlen r hr
    · exact hy.rowlen r hr
  have key : ∀ (s1 : St) (X : Nat→Prop),s1.length = s.length→Agree X s s1→(∀ b,X b→boxOf (x.ev env) = some b)→rows2≠[]→vop P (.append esz bytes x y) env s = some (.val (.sl s.length 0 (rows.length + rows2.length) esz false),s1++[⟨rows.flatten++rows2.flatten,0,0⟩]) →
      ∃ w s',vop P (.append esz bytes x y) env s = some (.val w,s')∧Agree (fun b=>rows2≠[]∧boxOf (x.ev env) = some b) s s'∧OwnS s' lo w esz (rows++rows2) ∧
      ((rows2 = []∧w = x.ev env∧s' = s)∨(rows2≠[]∧boxOf w = some s.length∧ExactBox s' w esz (rows++rows2))):=by
    intro s1 X hl1 ha hX hne hv
    have hb : (s1++[⟨rows.flatten++rows2.flatten,0,0⟩])[s.length]? = some ⟨(rows++rows2).flatten,0,0⟩:=by
      rw [List.getElem?_append_right (by omega),hl1]; simp
    refine ⟨_,_,hv,?_,⟨(ArrAt.ofBox hb (by decide) hrl (by simp)).wide' hlo (by simp [hl1]),fun b h=>?_,fun b o n e full h=>?_⟩,.inr ⟨hne,rfl,fun _=>⟨_,_,_,by rw [List.length_append],hb⟩⟩⟩
    · have:=ha.trans (Agree.app (fun _=>False) s1 [⟨rows.flatten++rows2.flatten,0,0⟩])
      exact this.mono fun n _ h=>by
        rcases h with h | h
        · exact ⟨hne,hX n h⟩
        · exact h.elim
    · cases h
      simp [hl1]
      exact hlo
    · cases h
      exact .inr (by rw [hb]; rfl)
  rcases nil_or_sl l1 with ⟨he,h0⟩ | ⟨b,o,e,f,he⟩
  · have hr : rows = []:=List.length_eq_zero_iff.1 h0
    subst hr
    by_cases hne : rows2 = []
    · subst hne
      refine ⟨_,s,?_,Agree.refl _ _,by simpa using hx,.inl ⟨rfl,rfl,rfl⟩⟩
      simp only [List.length_nil] at q1 q2 q3 q4
      rw [he] at q1 q3 ⊢
      simp only [vop,he,q1,q2,q3,q4]
      rw [if_pos (by simp)]
      rfl
    · refine key s (fun _=>False) rfl (Agree.refl _ _) (fun _ h=>h.elim) hne ?_
      have hm : rows2.length≠0:=fun h=>hne (List.length_eq_zero_iff.1 h)
      simp only [List.length_nil] at q1 q3 hsz
      rw [he] at q1 q3
      simp only [vop,he,q1,q2,q3,q4]
      rw [if_pos (by simpa using hsz)]
      simp only [hm,if_false,List.length_nil,List.flatten_nil,List.nil_append]
  · have h1:=(hx.arr.size _ _ _ _ _ he).1
    subst h1
    by_cases hne : rows2 = []
    · subst hne
      refine ⟨_,s,?_,Agree.refl _ _,by simpa using hx,.inl ⟨rfl,rfl,rfl⟩⟩
      simp only [List.length_nil] at q2 q4
      rw [he] at q1 q3 ⊢
      simp only [vop,he,q1,q2,q3,q4]
      rw [if_pos (by simpa using hsz)]
      rfl
    · have hm : rows2.length≠0:=fun h=>hne (List.length_eq_zero_iff.1 h)
      rw [he] at q1 q3
      cases f with
      | true =>
        refine key s (fun _=>False) rfl (Agree.refl _ _) (fun _ h=>h.elim) hne ?_
        simp only [vop,he,q1,q2,q3,q4]
        rw [if_pos hsz]
        simp only [hm,if_false,if_true]
      | false =>
        have hm0 : ((s[b]?).map (·.mode)) = some 0:=by
          rcases hx.app _ _ _ _ _ he with h | h
          · cases h
          · exact h
        refine key (s.kill b) (fun n=>n = b) ?_ (Agree.kill s b) (fun n hn=>by rw [he,hn]; rfl) hne ?_
        · unfold St.kill
          split<;>simp
        · simp only [vop,he,q1,q2,q3,q4]
          rw [if_pos hsz]
          simp only [hm,if_false,Bool.false_eq_true]
          rw [if_pos ⟨hm0,hc⟩]
theorem opR_append {X : Cx} {K : Env→St→Post3→Prop} {Q : Post3} {d : Option Nat} {k : List VOpd} {env : Env} {s : St} {lo lo' hi' esz bytes : Nat} {x y : VOpd} {rows rows2 : List (List AV)} {vx vy : AV} (ex : x.ev env = vx) (ey : y.ev env = vy) (hx : OwnS s lo vx esz rows) (hlo : lo≤s.length) (hy : ArrAt s lo' hi' vy esz rows2)
    (hsz : (rows.length + rows2.length) * (bytes + 1)≤1000000000) (hc : rows2.flatten.all AV.isCell = true)
    (h : ∀ w s',Agree (fun b=>rows2≠[]∧boxOf vx = some b) s s'→OwnS s' lo w esz (rows++rows2)→((rows2 = []∧w = vx∧s' = s)∨(rows2≠[]∧boxOf w = some s.length∧ExactBox s' w esz (rows++rows2))) →
      keptA env s s' k = true∧K (env.put d w) s' Q) : opR X K d k env s Q (vop X.P (.append esz bytes x y) env s):=by
  subst ex; subst ey
  obtain ⟨w,s',hv,h1,h2,h3⟩:=append_own (P:=X.P) hx hlo hy hsz hc
  rw [hv]
  exact h w s' h1 h2 h3
theorem opR_pre {X : Cx} {K : Env→St→Post3→Prop} {Q : Post3} {d : Option Nat} {k : List VOpd} {env : Env} {s : St} {lo hi esz n : Nat} {x y : VOpd} {rows : List (List AV)} {vx : AV} (ex : x.ev env = vx) (ey : asNat? (y.ev env) = some n) (hx : ArrAt s lo hi vx esz rows) (hn : n≤rows.length)
    (h : ∀ w,ArrAt s lo hi w esz (rows.take n)→keptA env s s k = true∧K (env.put d w) s Q) : opR X K d k env s Q (vop X.P (.slice none esz x none (some y) none) env s):=by
  subst ex
  obtain ⟨w,hw,ha⟩:=hx.pre n hn
  rw [v_slice_pre X.P env s esz x y n ey,hw]
  exact h w ha
theorem wpF_go {X : Cx} {st : St} {f : FuncId} {fn : VFun} {args : List AV} {R : CRes→St→Prop} (hF : X.F f = some fn) (h : xC X fn.body (envOf args) (st++[]) (bodK fn.res R)) : wpF X f args st R:=by
  rw [List.append_nil] at h
  exact wpF_intro hF h
def NewU (st s : St) (r : CRes) (U : UnitV) : Prop:=∃ w,r = .ret w∧(∃ m,s = st++m)∧OwnU s st.length w U
theorem opRow_cells (l : List OpV) : (l.map OpV.row).flatten.all AV.isCell = true:=by
  induction l with
  | nil=>rfl
  | cons o l ih =>
    simp only [List.map_cons,List.flatten_cons,List.all_append,ih,Bool.and_true]
    rfl
theorem intRow_cells (l : List Int) : (l.map fun n=>[iA n]).flatten.all AV.isCell = true:=by
  induction l with
  | nil=>rfl
  | cons o l ih =>
    simp only [List.map_cons,List.flatten_cons,List.all_append,ih,Bool.and_true]
    rfl
end Go.VX.Seat
end
section
set_option maxRecDepth 4000
namespace Go.VX.Seat
open Go.Proofs
theorem kept_app (env : Env) (st m : St) (l : List VOpd) : keptA env st (st++m) l = true:=by
  unfold keptA
  rw [List.all_eq_true]
  intro x _
  split
  · rename_i b o hb
    split
    · rename_i p hp
      rw [List.getElem?_append_left (List.getElem?_eq_some_iff.1 hp).1,hp]
      simp
    · rfl
  · rfl
theorem callO_newU {X : Cx} {env : Env} {st : St} {Q : Post3} {K : Env→St→Post3→Prop} {f : FuncId} {args : List AV} {dst : Option Nat} {keep : List VOpd} {U : UnitV} (hw : wpF X f args st fun r s=>NewU st s r U)
    (h : ∀ w m,OwnU (st++m) st.length w U→K (env.put dst w) (st++m) Q) : callO X f args dst keep K env st Q:=by
  refine wpF.mono hw ?_
  rintro r s ⟨w,rfl,⟨m,rfl⟩,h1⟩
  exact ⟨kept_app _ _ _ _,h w m h1⟩
section
variable {X : Cx} {st : St}
end
end Go.VX.Seat
end
section
set_option maxRecDepth 4000
namespace Go.VX.Seat
open Go.Proofs
def cutB : List BlkV→Nat→Int→List BlkV
  | [],_,_=>[]
  | _ :: _,0,_=>[]
  | b :: r,n + 1,k=>{ b with ops:=b.ops.take k.toNat } :: cutB r n (k - (b.ops.take k.toNat).length)
def cutU (U : UnitV) (n : Nat) (k : Int) : UnitV:={ U with sizes:=U.sizes.take 17,blocks:=cutB U.blocks n k }
section
variable {X : Cx} {st : St}
theorem w_Cut (h : On X) {lo hi : Nat} {v : AV} {U : UnitV} (hv : UnitAt st lo hi v U) (n : Nat) (k : Int) (hn : n≤1000000) (hk : -1000000000000≤k∧k≤2000000000000) (hlen : ∀ b ∈ U.blocks.take n,min b.ops.length k.toNat≤1000000) :
    wpF X 32 [v,iA n,iA k] st fun r s=>NewU st s r (cutU U n k):=by
  refine wpF_go (fn:=v_r07_Cut) (by rw [h.F]; rfl) ?_
  obtain ⟨s,bl,rfl,hs,hb⟩:=hv
  have l1:=hs.len
  have l2 : lenA bl = some U.blocks.length:=by
    obtain ⟨f,hb,_⟩:=hb
    have:=hb.len
    simpa using this
  have hcs:=isCell_len l1
  have hcb:=isCell_len l2
  simp only [List.length_map] at l1
  simp only [v_r07_Cut,l1,l2,hcs,hcb,kB,kZ,kD,kE,xl,xg,xk,xc,xd,xe,xf,xj,xi,xh,reduceIte,reduceCtorEq,xy,xw,xq]
  have hmin : (min (U.sizes.length : Int) 17) = ((min U.sizes.length 17 : Nat) : Int):=by omega
  refine opR_pre (vx:=s) (n:=min U.sizes.length 17) (lo:=lo) (hi:=hi) (rows:=U.sizes.map fun n=>[iA n]) (by simp only [kB,kZ,kD,kE,xl,xg,xk,xc,xd,xe,xf,xj,xi,xh,reduceIte,reduceCtorEq,xy,xw,xq]) (by rw [hmin]; simp only [kB,kZ,kD,kE,xl,xg,xk,xc,xd,xe,xf,xj,xi,xh,reduceIte,reduceCtorEq,xy,xw,xq]; rw [if_pos (by omega)]) (hs.mono _) (by simp; omega) ?_
  intro sz1 hsz1
  simp only [kB,kZ,kD,kE,xl,xg,xk,xc,xd,xe,xf,xj,xi,xh,reduceIte,reduceCtorEq,xy,xw,xq]
  refine opR_append (vx:=.sl (st.length + 3) 0 0 1 true) (vy:=sz1) (lo:=st.length + 3) (rows:=[]) (by simp only [kB,kZ,kD,kE,xl,xg,xk,xc,xd,xe,xf,xj,xi,xh,reduceIte,reduceCtorEq,xy,xw,xq]) (by simp only [kB,kZ,kD,kE,xl,xg,xk,xc,xd,xe,xf,xj,xi,xh,reduceIte,reduceCtorEq,xy,xw,xq]) (own_empty (by rw [List.getElem?_append_right (by omega),Nat.add_sub_cancel_left]; rfl) (by decide) (Nat.le_refl _)) (by simp) hsz1 (by simp; omega) ?_ ?_
  · rw [←List.map_take]; exact intRow_cells _
  intro sz s1 hag hown hsz
  obtain ⟨L,rfl⟩:=Agree.shape (M:=[_,_,_]) (N:=[_]) hag (fun b hb=>by have:=hb.2; cases this; simp)
  clear hag hsz
  have ht : U.sizes.take (min U.sizes.length 17) = U.sizes.take 17:=by
    rcases Nat.le_total U.sizes.length 17 with h | h
    · rw [Nat.min_eq_left h,List.take_length,List.take_of_length_le h]
    · rw [Nat.min_eq_right h]
  simp only [List.nil_append,← List.map_take,ht] at hown
  have hcsz:=isCell_len hown.arr.len
  have hcoz:=cellsOf_len hown.arr.len
  simp only [hcsz,hcoz,kB,kZ,kD,kE,xl,xg,xk,xc,xd,xe,xf,xj,xi,xh,reduceIte,reduceCtorEq,xy,xw,xq]
  refine loop_inv (fun m e s'=>∃ (L : St) (ver : Nat) (blv : AV) (i : Nat) (kk : Int) (done : List BlkV) (f : Nat→AV),
    s' = st++(⟨[s,iA U.params,iA U.regs,iA U.code,iA U.spill,bl],0,0⟩ :: ⟨[.sc (.slice none 0 0),iA 0,iA 0,iA 0,iA 0,.sc (.slice none 0 0)],0,0⟩ :: ⟨[sz,iA U.params,iA U.regs,iA U.code,iA U.spill,blv],0,ver⟩ :: L) ∧
    e 1 = iA n∧e 2 = iA kk∧e 3 = .ptr (st.length + 0) 0∧e 6 = .ptr (st.length + 1) 0∧e 7 = .ptr (st.length + 2) 0∧e 8 = iA i ∧
    m + i = U.blocks.length∧i≤n∧(-1000000000000≤kk∧kk≤k)∧done.length = i∧done++cutB (U.blocks.drop i) (n - i) kk = cutB U.blocks n k ∧
    OwnB s' (st.length + 3) blv f done∧OwnZ s' (st.length + 3) sz blv f (U.sizes.take 17) done) ?_ U.blocks.length ?_
  case refine_2 =>
    refine ⟨L,3,.sc (.slice none 0 0),0,k,[],fun _=>.sc (.slice none 0 0),rfl,?_,?_,?_,?_,?_,?_,by omega,by omega,⟨hk.1,Int.le_refl _⟩,rfl,by simp,?_,?_⟩
    iterate 6 (simp only [kB,kZ,kD,kE,xl,xg,xk,xc,xd,xe,xf,xj,xi,xh,reduceIte,reduceCtorEq,xy,xw,xq])
    · exact ⟨own_nil _ _ _,fun h=>absurd rfl h,fun i hi=>absurd hi (by simp),fun i hi=>absurd hi (by simp),fun i j hi=>absurd hi (by simp)⟩
    · refine ⟨?_,fun b hb=>⟨by simp [boxOf],fun i hi=>absurd hi (by simp)⟩⟩
      have:=hown.agree (Agree.swap st [⟨[s,iA U.params,iA U.regs,iA U.code,iA U.spill,bl],0,0⟩,⟨[.sc (.slice none 0 0),iA 0,iA 0,iA 0,iA 0,.sc (.slice none 0 0)],0,0⟩] _ ⟨[sz,iA U.params,iA U.regs,iA U.code,iA U.spill,.sc (.slice none 0 0)],0,3⟩ L) (fun b hb=>by have:=(hown.bnd b hb).1; simp; omega)
      exact this
  clear hown L hsz1
  intro m e s' ⟨L,ver,blv,i,kk,done,f,hs',k1,k2,k3,k6,k7,k8,him,hin,hkk,hdl,hdone,hB,hZ⟩
  rw [hs'] at hB hZ
  rw [show s' = st++(⟨[s,iA U.params,iA U.regs,iA U.code,iA U.spill,bl],0,0⟩ :: ⟨[.sc (.slice none 0 0),iA 0,iA 0,iA 0,iA 0,.sc (.slice none 0 0)],0,0⟩ :: ⟨[sz,iA U.params,iA U.regs,iA U.code,iA U.spill,blv],0,ver⟩ :: (L++[])) by rw [hs',List.append_nil]]
  clear hs'
  simp only [k1,k2,k3,k6,k7,k8,l2,kB,kZ,kD,kE,xl,xg,xk,xc,xd,xe,xf,xj,xi,xh,reduceIte,reduceCtorEq,xy,xw,xq]
  obtain ⟨f0,hb1,hbo⟩:=hb
  refine gO_t ?_ ?_<;>intro hc
  · have hil : i < U.blocks.length:=by have:=of_decide_eq_true hc; omega
    obtain ⟨b1,o1,he1,hn1,ha1,_⟩:=hb1.get i (by simpa using hil)
    simp only [List.getElem_mapIdx,BlkV.row] at hn1 ha1
    have ha0:=fun L=>ha1 L 0 (by omega)
    simp only [kB,kZ,kD,kE,xl,xg,xk,xc,xd,xe,xf,xj,xi,xh,reduceIte,reduceCtorEq,xy,xw,xq] at ha0
    have l3:=(hbo i hil).len
    simp only [List.length_map] at l3
    have hcell:=isCell_len l3
    simp only [hc,k1,k2,k3,k6,k7,k8,l2,he1,hn1,ha0,l3,hcell,kB,kZ,kD,kE,xl,xg,xk,xc,xd,xe,xf,xj,xi,xh,reduceIte,reduceCtorEq,xy,xw,xq]
    refine condO_intro ?_ ?_<;>intro hc2
    · have hin2 : i < n:=by have:=of_decide_eq_true hc2; omega
      simp only [hc,k1,k2,k3,k6,k7,k8,l2,he1,hn1,ha0,l3,hcell,kB,kZ,kD,kE,xl,xg,xk,xc,xd,xe,xf,xj,xi,xh,reduceIte,reduceCtorEq,xy,xw,xq]
      have hml : min (U.blocks[i].ops.length : Int) (max kk 0) = ((min U.blocks[i].ops.length kk.toNat : Nat) : Int):=by omega
      have hmt : U.blocks[i].ops.take (min U.blocks[i].ops.length kk.toNat) = U.blocks[i].ops.take kk.toNat:=by
        rcases Nat.le_total U.blocks[i].ops.length kk.toNat with h | h
        · rw [Nat.min_eq_left h,List.take_length,List.take_of_length_le h]
        · rw [Nat.min_eq_right h]
      refine opR_pre (vx:=f0 i) (n:=min U.blocks[i].ops.length kk.toNat) (lo:=lo) (hi:=hi) (rows:=U.blocks[i].ops.map OpV.row) (by simp only [kB,kZ,kD,kE,xl,xg,xk,xc,xd,xe,xf,xj,xi,xh,reduceIte,reduceCtorEq,xy,xw,xq]) (by rw [hml]; simp only [kB,kZ,kD,kE,xl,xg,xk,xc,xd,xe,xf,xj,xi,xh,reduceIte,reduceCtorEq,xy,xw,xq]; rw [if_pos (by omega)]) ((hbo i hil).mono _) (by simp; omega) ?_
      intro w1 hw1
      rw [←List.map_take,hmt] at hw1
      simp only [kB,kZ,kD,kE,xl,xg,xk,xc,xd,xe,xf,xj,xi,xh,reduceIte,reduceCtorEq,xy,xw,xq]
      have htl : (U.blocks[i].ops.take kk.toNat).length≤1000000:=by
        have:=hlen U.blocks[i] (List.mem_take_iff_getElem.2 ⟨i,by omega,rfl⟩)
        simp only [List.length_take]
        have hkk2 : kk.toNat≤k.toNat:=by omega
        omega
      refine opR_append (vx:=.sl (st.length + (L.length + 1 + 1 + 1 + 1)) 0 0 7 true) (vy:=w1) (lo:=st.length + (L.length + 1 + 1 + 1 + 1)) (rows:=[]) (by simp only [kB,kZ,kD,kE,xl,xg,xk,xc,xd,xe,xf,xj,xi,xh,reduceIte,reduceCtorEq,xy,xw,xq]) (by simp only [kB,kZ,kD,kE,xl,xg,xk,xc,xd,xe,xf,xj,xi,xh,reduceIte,reduceCtorEq,xy,xw,xq]) (own_empty (x:=⟨[],0,0⟩) (by simp) (by decide) (by omega)) (by simp) hw1 (by simp only [List.length_nil,List.length_map]; omega) (opRow_cells _) ?_
      intro w s1 hag hown hor
      obtain ⟨L2,rfl⟩ : ∃ L2,s1 = st++(⟨[s,iA U.params,iA U.regs,iA U.code,iA U.spill,bl],0,0⟩ :: ⟨[.sc (.slice none 0 0),iA 0,iA 0,iA 0,iA 0,.sc (.slice none 0 0)],0,0⟩ :: ⟨[sz,iA U.params,iA U.regs,iA U.code,iA U.spill,blv],0,ver⟩ :: (L++(⟨[f0 i,iA U.blocks[i].e.k,iA U.blocks[i].e.a,iA U.blocks[i].e.t,iA U.blocks[i].e.e,iA U.blocks[i].catch_],0,1⟩ :: L2 : St))):=by
        have:=Agree.shape (st:=st) (M:=⟨[s,iA U.params,iA U.regs,iA U.code,iA U.spill,bl],0,0⟩ :: ⟨[.sc (.slice none 0 0),iA 0,iA 0,iA 0,iA 0,.sc (.slice none 0 0)],0,0⟩ :: ⟨[sz,iA U.params,iA U.regs,iA U.code,iA U.spill,blv],0,ver⟩ :: (L++[⟨[f0 i,iA U.blocks[i].e.k,iA U.blocks[i].e.a,iA U.blocks[i].e.t,iA U.blocks[i].e.e,iA U.blocks[i].catch_],0,1⟩])) (N:=[⟨[],0,0⟩]) (by simpa using hag) (fun b hb=>by have:=hb.2; cases this; simp)
        simpa using this
      clear hag hw1
      simp only [List.nil_append] at hown
      have hwl:=hown.arr.len
      simp only [List.length_map] at hwl
      have hwc:=isCell_len hwl
      have hwo:=cellsOf_len hwl
      have hwr : IntKind.wrap .i64 (kk - ((U.blocks[i].ops.take kk.toNat).length : Int)) = kk - ((U.blocks[i].ops.take kk.toNat).length : Int):=wrap_small (by omega) (by omega)
      simp only [k1,k2,k3,k6,k7,k8,hwl,hwc,hwo,hwr,kB,kZ,kD,kE,xl,xg,xk,xc,xd,xe,xf,xj,xi,xh,reduceIte,reduceCtorEq,xy,xw,xq]
      have hag0 : Agree (fun _=>False) (st++(⟨[s,iA U.params,iA U.regs,iA U.code,iA U.spill,bl],0,0⟩ :: ⟨[.sc (.slice none 0 0),iA 0,iA 0,iA 0,iA 0,.sc (.slice none 0 0)],0,0⟩ :: ⟨[sz,iA U.params,iA U.regs,iA U.code,iA U.spill,blv],0,ver⟩ :: L : St)) (st++(⟨[s,iA U.params,iA U.regs,iA U.code,iA U.spill,bl],0,0⟩ :: ⟨[.sc (.slice none 0 0),iA 0,iA 0,iA 0,iA 0,.sc (.slice none 0 0)],0,0⟩ :: ⟨[sz,iA U.params,iA U.regs,iA U.code,iA U.spill,blv],0,ver⟩ :: (L++(⟨[w,iA U.blocks[i].e.k,iA U.blocks[i].e.a,iA U.blocks[i].e.t,iA U.blocks[i].e.e,iA U.blocks[i].catch_],0,2⟩ :: (L2++[⟨[w,iA U.blocks[i].e.k,iA U.blocks[i].e.a,iA U.blocks[i].e.t,iA U.blocks[i].e.e,iA U.blocks[i].catch_],0,0⟩]) : St)) : St)):=by
        simpa using Agree.app _ (st++(⟨[s,iA U.params,iA U.regs,iA U.code,iA U.spill,bl],0,0⟩ :: ⟨[.sc (.slice none 0 0),iA 0,iA 0,iA 0,iA 0,.sc (.slice none 0 0)],0,0⟩ :: ⟨[sz,iA U.params,iA U.regs,iA U.code,iA U.spill,blv],0,ver⟩ :: L : St)) (⟨[w,iA U.blocks[i].e.k,iA U.blocks[i].e.a,iA U.blocks[i].e.t,iA U.blocks[i].e.e,iA U.blocks[i].catch_],0,2⟩ :: (L2++[⟨[w,iA U.blocks[i].e.k,iA U.blocks[i].e.a,iA U.blocks[i].e.t,iA U.blocks[i].e.e,iA U.blocks[i].catch_],0,0⟩]) : St)
      have hag1 : Agree (fun n=>n = st.length + (L.length + 1 + 1 + 1)) (st++(⟨[s,iA U.params,iA U.regs,iA U.code,iA U.spill,bl],0,0⟩ :: ⟨[.sc (.slice none 0 0),iA 0,iA 0,iA 0,iA 0,.sc (.slice none 0 0)],0,0⟩ :: ⟨[sz,iA U.params,iA U.regs,iA U.code,iA U.spill,blv],0,ver⟩ :: (L++(⟨[f0 i,iA U.blocks[i].e.k,iA U.blocks[i].e.a,iA U.blocks[i].e.t,iA U.blocks[i].e.e,iA U.blocks[i].catch_],0,1⟩ :: L2 : St)) : St)) (st++(⟨[s,iA U.params,iA U.regs,iA U.code,iA U.spill,bl],0,0⟩ :: ⟨[.sc (.slice none 0 0),iA 0,iA 0,iA 0,iA 0,.sc (.slice none 0 0)],0,0⟩ :: ⟨[sz,iA U.params,iA U.regs,iA U.code,iA U.spill,blv],0,ver⟩ :: (L++(⟨[w,iA U.blocks[i].e.k,iA U.blocks[i].e.a,iA U.blocks[i].e.t,iA U.blocks[i].e.e,iA U.blocks[i].catch_],0,2⟩ :: (L2++[⟨[w,iA U.blocks[i].e.k,iA U.blocks[i].e.a,iA U.blocks[i].e.t,iA U.blocks[i].e.e,iA U.blocks[i].catch_],0,0⟩]) : St)) : St)):=by
        have a1:=Agree.swap st (⟨[s,iA U.params,iA U.regs,iA U.code,iA U.spill,bl],0,0⟩ :: ⟨[.sc (.slice none 0 0),iA 0,iA 0,iA 0,iA 0,.sc (.slice none 0 0)],0,0⟩ :: ⟨[sz,iA U.params,iA U.regs,iA U.code,iA U.spill,blv],0,ver⟩ :: L) ⟨[f0 i,iA U.blocks[i].e.k,iA U.blocks[i].e.a,iA U.blocks[i].e.t,iA U.blocks[i].e.e,iA U.blocks[i].catch_],0,1⟩ ⟨[w,iA U.blocks[i].e.k,iA U.blocks[i].e.a,iA U.blocks[i].e.t,iA U.blocks[i].e.e,iA U.blocks[i].catch_],0,2⟩ L2
        have a2:=a1.trans (Agree.app (fun _=>False) _ [⟨[w,iA U.blocks[i].e.k,iA U.blocks[i].e.a,iA U.blocks[i].e.t,iA U.blocks[i].e.e,iA U.blocks[i].catch_],0,0⟩])
        refine Agree.mono (by simpa using a2) ?_
        intro n _ hn
        simpa using hn
      have hlo : (st++(⟨[s,iA U.params,iA U.regs,iA U.code,iA U.spill,bl],0,0⟩ :: ⟨[.sc (.slice none 0 0),iA 0,iA 0,iA 0,iA 0,.sc (.slice none 0 0)],0,0⟩ :: ⟨[sz,iA U.params,iA U.regs,iA U.code,iA U.spill,blv],0,ver⟩ :: L : St)).length = st.length + (L.length + 1 + 1 + 1):=by simp
      have hl1 : (st++(⟨[s,iA U.params,iA U.regs,iA U.code,iA U.spill,bl],0,0⟩ :: ⟨[.sc (.slice none 0 0),iA 0,iA 0,iA 0,iA 0,.sc (.slice none 0 0)],0,0⟩ :: ⟨[sz,iA U.params,iA U.regs,iA U.code,iA U.spill,blv],0,ver⟩ :: (L++(⟨[f0 i,iA U.blocks[i].e.k,iA U.blocks[i].e.a,iA U.blocks[i].e.t,iA U.blocks[i].e.e,iA U.blocks[i].catch_],0,1⟩ :: L2 : St)) : St)).length = st.length + (L.length + (L2.length + 1) + 1 + 1 + 1):=by simp
      have hl2 : (st++(⟨[s,iA U.params,iA U.regs,iA U.code,iA U.spill,bl],0,0⟩ :: ⟨[.sc (.slice none 0 0),iA 0,iA 0,iA 0,iA 0,.sc (.slice none 0 0)],0,0⟩ :: ⟨[sz,iA U.params,iA U.regs,iA U.code,iA U.spill,blv],0,ver⟩ :: (L++(⟨[w,iA U.blocks[i].e.k,iA U.blocks[i].e.a,iA U.blocks[i].e.t,iA U.blocks[i].e.e,iA U.blocks[i].catch_],0,2⟩ :: (L2++[⟨[w,iA U.blocks[i].e.k,iA U.blocks[i].e.a,iA U.blocks[i].e.t,iA U.blocks[i].e.e,iA U.blocks[i].catch_],0,0⟩]) : St)) : St)).length = st.length + (L.length + (L2.length + 1 + 1) + 1 + 1 + 1):=by simp
      have hB2:=hB.agree hag0 (fun _ _ _ h=>h)
      have hw2:=hown.agree hag1 (fun b hb=>by have:=(hown.bnd b hb).1; omega)
      obtain ⟨nb,hnb⟩ : ∃ nb : BlkV,nb = { U.blocks[i] with ops:=U.blocks[i].ops.take kk.toNat }:=⟨_,rfl⟩
      have hrow : nb.row w = [w,iA U.blocks[i].e.k,iA U.blocks[i].e.a,iA U.blocks[i].e.t,iA U.blocks[i].e.e,iA U.blocks[i].catch_]:=by rw [hnb]; rfl
      refine opR_append (vx:=blv) (vy:=.sl (st.length + (L.length + (L2.length + 1) + 1 + 1 + 1)) 0 1 6 true) (lo:=st.length + 3) (lo':=st.length + (L.length + (L2.length + 1) + 1 + 1 + 1)) (hi':=st.length + (L.length + (L2.length + 1) + 1 + 1 + 1) + 1) (rows:=blkRows done f) (rows2:=[nb.row w]) (by simp only [kB,kZ,kD,kE,xl,xg,xk,xc,xd,xe,xf,xj,xi,xh,reduceIte,reduceCtorEq,xy,xw,xq]) (by simp only [kB,kZ,kD,kE,xl,xg,xk,xc,xd,xe,xf,xj,xi,xh,reduceIte,reduceCtorEq,xy,xw,xq]) hB2.own (by rw [hl2]; omega) (ArrAt.ofBox (mode:=0) (ver:=0) ?_ (by decide) (by rw [hrow]; simp) rfl) ?_ (by rw [hrow]; simp only [hwc,kB,kZ,kD,kE,xl,xg,xk,xc,xd,xe,xf,xj,xi,xh,reduceIte,reduceCtorEq,xy,xw,xq]) ?_
      · rw [hrow]
        simp
      · rw [blkRows_length]
        simp only [List.length_cons,List.length_nil]
        omega
      intro bl2 s3 hag3 hown3 hor3
      obtain ⟨_,hbox3,hex3⟩ : [nb.row w]≠[]∧boxOf bl2 = some (st++(⟨[s,iA U.params,iA U.regs,iA U.code,iA U.spill,bl],0,0⟩ :: ⟨[.sc (.slice none 0 0),iA 0,iA 0,iA 0,iA 0,.sc (.slice none 0 0)],0,0⟩ :: ⟨[sz,iA U.params,iA U.regs,iA U.code,iA U.spill,blv],0,ver⟩ :: (L++(⟨[w,iA U.blocks[i].e.k,iA U.blocks[i].e.a,iA U.blocks[i].e.t,iA U.blocks[i].e.e,iA U.blocks[i].catch_],0,2⟩ :: (L2++[⟨[w,iA U.blocks[i].e.k,iA U.blocks[i].e.a,iA U.blocks[i].e.t,iA U.blocks[i].e.e,iA U.blocks[i].catch_],0,0⟩]) : St)) : St)).length∧ExactBox s3 bl2 6 (blkRows done f++[nb.row w]):=by
        rcases hor3 with h | h
        · exact absurd h.1 (by simp)
        · exact h
      have hw3:=hw2.agree hag3 (fun b hb hx=>by
        have h1:=(hown.bnd b hb).1
        have h2:=(hB.own.bnd b hx.2).2
        omega)
      have hag4 : Agree (fun n=>boxOf blv = some n) (st++(⟨[s,iA U.params,iA U.regs,iA U.code,iA U.spill,bl],0,0⟩ :: ⟨[.sc (.slice none 0 0),iA 0,iA 0,iA 0,iA 0,.sc (.slice none 0 0)],0,0⟩ :: ⟨[sz,iA U.params,iA U.regs,iA U.code,iA U.spill,blv],0,ver⟩ :: L : St)) s3:=(hag0.trans hag3).mono fun n _ h=>by
        rcases h with h | h
        · exact h.elim
        · exact h.2
      have hB3:=OwnB.snoc (b:=nb) hB hag4 (fun n _ h=>h) (by rw [hnb]; exact hw3.low (by omega)) (fun n hn=>by have:=(hown.bnd n hn).1; omega) hown3 hex3 (fun n hn=>by
        rw [hbox3] at hn
        cases hn
        refine ⟨by omega,fun h=>?_⟩
        have:=(hown.bnd _ h).2
        omega)
      have hZ3:=OwnZ.snoc (b:=nb) (w:=w) (bl':=bl2) hZ hag4 (fun n _ h=>h) (fun n hn=>by have:=(hown.bnd n hn).1; omega) (fun n hn=>by
        rw [hbox3] at hn
        cases hn
        omega)
      obtain ⟨L3,rfl⟩ : ∃ L3,s3 = (st++(⟨[s,iA U.params,iA U.regs,iA U.code,iA U.spill,bl],0,0⟩ :: ⟨[.sc (.slice none 0 0),iA 0,iA 0,iA 0,iA 0,.sc (.slice none 0 0)],0,0⟩ :: ⟨[sz,iA U.params,iA U.regs,iA U.code,iA U.spill,blv],0,ver⟩ :: L3 : St)):=by
        have:=Agree.shape (st:=st) (M:=[⟨[s,iA U.params,iA U.regs,iA U.code,iA U.spill,bl],0,0⟩,⟨[.sc (.slice none 0 0),iA 0,iA 0,iA 0,iA 0,.sc (.slice none 0 0)],0,0⟩,⟨[sz,iA U.params,iA U.regs,iA U.code,iA U.spill,blv],0,ver⟩]) (N:=L) hag4 (fun b hb=>(hB.own.bnd b hb).1)
        simpa using this
      have hbl:=hown3.arr.len
      have hblc:=isCell_len hbl
      have hblo:=cellsOf_len hbl
      simp only [k1,k2,k3,k6,k7,k8,hblc,hblo,kB,kZ,kD,kE,xl,xg,xk,xc,xd,xe,xf,xj,xi,xh,reduceIte,reduceCtorEq,xy,xw,xq]
      have hag5:=Agree.swap st [⟨[s,iA U.params,iA U.regs,iA U.code,iA U.spill,bl],0,0⟩,⟨[.sc (.slice none 0 0),iA 0,iA 0,iA 0,iA 0,.sc (.slice none 0 0)],0,0⟩] ⟨[sz,iA U.params,iA U.regs,iA U.code,iA U.spill,blv],0,ver⟩ ⟨[sz,iA U.params,iA U.regs,iA U.code,iA U.spill,bl2],0,ver + 1⟩ L3
      have htk : (U.blocks[i].ops.take kk.toNat).length≤kk.toNat:=by simp; omega
      refine ⟨m - 1,by omega,L3,ver + 1,bl2,i + 1,_,done++[nb],_,rfl,rfl,?_,by omega,by omega,⟨by omega,by omega⟩,by simp [hdl],?_,hB3.agree hag5 (fun b hb _ h=>by simp at h; omega),hZ3.agree hag5 (fun b hb _ h=>by simp at h; omega)⟩
      · rw [wrap_small (by omega) (by omega)]
        simp
      · rw [List.drop_eq_getElem_cons hil,show n - i = (n - (i + 1)) + 1 by omega] at hdone
        simp only [cutB] at hdone
        rw [←hdone,hnb]
        simp
    · have hout : done = cutB U.blocks n k:=by
        have h1 : n - i = 0:=by have:=of_decide_eq_false hc2; omega
        rw [h1] at hdone
        rw [←hdone]
        cases U.blocks.drop i<;>simp [cutB]
      have hbvc:=isCell_len hB.own.arr.len
      have hag:=Agree.swap st [⟨[s,iA U.params,iA U.regs,iA U.code,iA U.spill,bl],0,0⟩] ⟨[.sc (.slice none 0 0),iA 0,iA 0,iA 0,iA 0,.sc (.slice none 0 0)],0,0⟩ ⟨[sz,iA U.params,iA U.regs,iA U.code,iA U.spill,blv],0,1⟩ (⟨[sz,iA U.params,iA U.regs,iA U.code,iA U.spill,blv],0,ver⟩ :: L)
      simp only [hc,k1,k2,k3,k6,k7,k8,l2,hcsz,hbvc,List.append_nil,kB,kZ,kD,kE,xl,xg,xk,xc,xd,xe,xf,xj,xi,xh,reduceIte,reduceCtorEq,xy,xw,xq]
      rw [hout] at hB hZ
      exact ⟨_,rfl,⟨_,rfl⟩,⟨sz,blv,f,rfl,(hZ.agree hag (fun b hb _ h=>by simp at h; omega)).low (by omega),(hB.agree hag (fun b hb _ h=>by simp at h; omega)).low (by omega)⟩⟩
  · have hout : done = cutB U.blocks n k:=by
      have h1 : U.blocks.drop i = []:=List.drop_eq_nil_of_le (by have:=of_decide_eq_false hc; omega)
      rw [h1] at hdone
      rw [←hdone]
      simp [cutB]
    have hbvc:=isCell_len hB.own.arr.len
    have hag:=Agree.swap st [⟨[s,iA U.params,iA U.regs,iA U.code,iA U.spill,bl],0,0⟩] ⟨[.sc (.slice none 0 0),iA 0,iA 0,iA 0,iA 0,.sc (.slice none 0 0)],0,0⟩ ⟨[sz,iA U.params,iA U.regs,iA U.code,iA U.spill,blv],0,1⟩ (⟨[sz,iA U.params,iA U.regs,iA U.code,iA U.spill,blv],0,ver⟩ :: L)
    simp only [hc,k1,k2,k3,k6,k7,k8,l2,hcsz,hbvc,List.append_nil,kB,kZ,kD,kE,xl,xg,xk,xc,xd,xe,xf,xj,xi,xh,reduceIte,reduceCtorEq,xy,xw,xq]
    rw [hout] at hB hZ
    exact ⟨_,rfl,⟨_,rfl⟩,⟨sz,blv,f,rfl,(hZ.agree hag (fun b hb _ h=>by simp at h; omega)).low (by omega),(hB.agree hag (fun b hb _ h=>by simp at h; omega)).low (by omega)⟩⟩
end
end Go.VX.Seat
end
section
namespace Go.VX
inductive Tr where
  | lf
  | nd (l : Tr) (v : AV) (r : Tr)
  deriving Inhabited
def Tr.get : Tr→Nat→AV
  | .lf,_=>undefA
  | .nd l v r,n=>bif Nat.beq n 0 then v else bif Nat.beq (n % 2) 1 then l.get (n / 2) else r.get (n / 2 - 1)
def Tr.put : Nat→Tr→Nat→AV→Tr
  | 0,t,_,_=>t
  | d + 1,.lf,n,v=>bif Nat.beq n 0 then .nd .lf v .lf else bif Nat.beq (n % 2) 1 then .nd (Tr.put d .lf (n / 2) v) undefA .lf else .nd .lf undefA (Tr.put d .lf (n / 2 - 1) v)
  | d + 1,.nd l x r,n,v=>bif Nat.beq n 0 then .nd l v r else bif Nat.beq (n % 2) 1 then .nd (l.put d (n / 2) v) x r else .nd l x (r.put d (n / 2 - 1) v)
theorem Tr.get_put : ∀ (d : Nat) (t : Tr) (n : Nat) (v : AV) (m : Nat),n + 1 < 2 ^ d→(Tr.put d t n v).get m = if m = n then v else t.get m
  | 0,t,n,v,m,h=>by simp at h
  | d + 1,.lf,n,v,m,h=>by
    have hp : 2 ^ (d + 1) = 2 * 2 ^ d:=by rw [Nat.pow_succ]; omega
    unfold Tr.put
    by_cases h0 : n = 0
    · subst h0
      have : Nat.beq 0 0 = true:=rfl
      simp only [this,cond_true,Tr.get]
      by_cases hm : m = 0
      · subst hm; simp
      · have : Nat.beq m 0 = false:=by cases hb : Nat.beq m 0 with | false=>rfl | true=>exact absurd (Nat.eq_of_beq_eq_true hb) hm
        simp [this,hm]
    · have hb0 : Nat.beq n 0 = false:=by cases hb : Nat.beq n 0 with | false=>rfl | true=>exact absurd (Nat.eq_of_beq_eq_true hb) h0
      simp only [hb0,cond_false]
      cases hb1 : Nat.beq (n % 2) 1 with
      | true =>
        have h1:=Nat.eq_of_beq_eq_true hb1
        simp only [cond_true,Tr.get]
        by_cases hm : m = 0
        · subst hm
          have : Nat.beq 0 0 = true:=rfl
          simp only [this,cond_true]
          rw [if_neg (by omega)]
        · have hm0 : Nat.beq m 0 = false:=by cases hb : Nat.beq m 0 with | false=>rfl | true=>exact absurd (Nat.eq_of_beq_eq_true hb) hm
          simp only [hm0,cond_false]
          cases hb2 : Nat.beq (m % 2) 1 with
          | true =>
            have h2:=Nat.eq_of_beq_eq_true hb2
            simp only [cond_true]
            rw [Tr.get_put d .lf (n / 2) v (m / 2) (by omega)]
            by_cases hmn : m = n
            · subst hmn; simp
            · rw [if_neg (by omega),if_neg hmn]; rfl
          | false =>
            have h2 : m % 2≠1:=fun e=>by rw [e] at hb2; cases hb2
            simp only [cond_false]
            rw [if_neg (by omega)]
      | false =>
        have h1 : n % 2≠1:=fun e=>by rw [e] at hb1; cases hb1
        simp only [cond_false,Tr.get]
        by_cases hm : m = 0
        · subst hm
          have : Nat.beq 0 0 = true:=rfl
          simp only [this,cond_true]
          rw [if_neg (by omega)]
        · have hm0 : Nat.beq m 0 = false:=by cases hb : Nat.beq m 0 with | false=>rfl | true=>exact absurd (Nat.eq_of_beq_eq_true hb) hm
          simp only [hm0,cond_false]
          cases hb2 : Nat.beq (m % 2) 1 with
          | true =>
            have h2:=Nat.eq_of_beq_eq_true hb2
            simp only [cond_true]
            rw [if_neg (by omega)]
          | false =>
            have h2 : m % 2≠1:=fun e=>by rw [e] at hb2; cases hb2
            simp only [cond_false]
            rw [Tr.get_put d .lf (n / 2 - 1) v (m / 2 - 1) (by omega)]
            by_cases hmn : m = n
            · subst hmn; simp
            · rw [if_neg (by omega),if_neg hmn]; rfl
  | d + 1,.nd l x r,n,v,m,h=>by
    have hp : 2 ^ (d + 1) = 2 * 2 ^ d:=by rw [Nat.pow_succ]; omega
    unfold Tr.put
    by_cases h0 : n = 0
    · subst h0
      have : Nat.beq 0 0 = true:=rfl
      simp only [this,cond_true,Tr.get]
      by_cases hm : m = 0
      · subst hm; simp
      · have : Nat.beq m 0 = false:=by cases hb : Nat.beq m 0 with | false=>rfl | true=>exact absurd (Nat.eq_of_beq_eq_true hb) hm
        simp [this,hm]
    · have hb0 : Nat.beq n 0 = false:=by cases hb : Nat.beq n 0 with | false=>rfl | true=>exact absurd (Nat.eq_of_beq_eq_true hb) h0
      simp only [hb0,cond_false]
      cases hb1 : Nat.beq (n % 2) 1 with
      | true =>
        have h1:=Nat.eq_of_beq_eq_true hb1
        simp only [cond_true,Tr.get]
        by_cases hm : m = 0
        · subst hm
          have : Nat.beq 0 0 = true:=rfl
          simp only [this,cond_true]
          rw [if_neg (by omega)]
        · have hm0 : Nat.beq m 0 = false:=by cases hb : Nat.beq m 0 with | false=>rfl | true=>exact absurd (Nat.eq_of_beq_eq_true hb) hm
          simp only [hm0,cond_false]
          cases hb2 : Nat.beq (m % 2) 1 with
          | true =>
            have h2:=Nat.eq_of_beq_eq_true hb2
            simp only [cond_true]
            rw [Tr.get_put d l (n / 2) v (m / 2) (by omega)]
            by_cases hmn : m = n
            · subst hmn; simp
            · rw [if_neg (by omega),if_neg hmn]
          | false =>
            have h2 : m % 2≠1:=fun e=>by rw [e] at hb2; cases hb2
            simp only [cond_false]
            rw [if_neg (by omega)]
      | false =>
        have h1 : n % 2≠1:=fun e=>by rw [e] at hb1; cases hb1
        simp only [cond_false,Tr.get]
        by_cases hm : m = 0
        · subst hm
          have : Nat.beq 0 0 = true:=rfl
          simp only [this,cond_true]
          rw [if_neg (by omega)]
        · have hm0 : Nat.beq m 0 = false:=by cases hb : Nat.beq m 0 with | false=>rfl | true=>exact absurd (Nat.eq_of_beq_eq_true hb) hm
          simp only [hm0,cond_false]
          cases hb2 : Nat.beq (m % 2) 1 with
          | true =>
            have h2:=Nat.eq_of_beq_eq_true hb2
            simp only [cond_true]
            rw [if_neg (by omega)]
          | false =>
            have h2 : m % 2≠1:=fun e=>by rw [e] at hb2; cases hb2
            simp only [cond_false]
            rw [Tr.get_put d r (n / 2 - 1) v (m / 2 - 1) (by omega)]
            by_cases hmn : m = n
            · subst hmn; simp
            · rw [if_neg (by omega),if_neg hmn]
def Tr.set (t : Tr) : Option Nat→AV→Option Tr
  | none,_=>some t
  | some d,v=>bif Nat.blt d 65535 then some (t.put 16 d v) else none
theorem Tr.set_ok {t t' : Tr} {d : Option Nat} {v : AV} (h : t.set d v = some t') : t'.get = Env.put t.get d v:=by
  cases d with
  | none=>simp [Tr.set] at h; subst h; rfl
  | some d =>
    cases hb : Nat.blt d 65535 with
    | false=>simp [Tr.set,hb] at h
    | true =>
      simp only [Tr.set,hb,cond_true,Option.some.injEq] at h
      subst h
      have : d < 65535:=Nat.lt_of_lt_of_le (Nat.lt_succ_self d) (Nat.le_of_ble_eq_true hb)
      funext m
      exact Tr.get_put 16 t d v m (by omega)
def trOf : Nat→Tr→List AV→Option Tr
  | _,t,[]=>some t
  | k,t,a :: r=>match t.set (some k) a with
    | some t'=>trOf (k + 1) t' r
    | none=>none
theorem trOf_ok : ∀ {l : List AV} {k : Nat} {t t' : Tr},trOf k t l = some t'→∀ m,t'.get m = if k≤m∧m < k + l.length then l.getD (m - k) undefA else t.get m
  | [],k,t,t',h,m=>by
    simp [trOf] at h; subst h
    rw [if_neg]
    rintro ⟨h1,h2⟩
    simp at h2
    omega
  | a :: r,k,t,t',h,m=>by
    unfold trOf at h
    split at h
    · rename_i t1 h1
      rw [trOf_ok h m,Tr.set_ok h1]
      simp only [List.length_cons,Env.put]
      by_cases hm : m = k
      · subst hm
        rw [if_neg (by omega),if_pos rfl,if_pos (by omega)]
        simp
      · by_cases h2 : k + 1≤m∧m < k + 1 + r.length
        · rw [if_pos h2,if_pos (by omega),show m - k = (m - (k + 1)) + 1 by omega]
          simp
        · rw [if_neg h2,if_neg hm,if_neg (by omega)]
    · cases h
theorem trOf_env {l : List AV} {t : Tr} (h : trOf 0 .lf l = some t) : t.get = envOf l:=by
  funext m
  rw [trOf_ok h m]
  unfold envOf
  by_cases hm : m < l.length
  · rw [if_pos (by omega)]; rfl
  · rw [if_neg (by omega),List.getD_eq_getElem?_getD,List.getElem?_eq_none (by omega)]; rfl
def keepsB : St→St→Bool
  | [],_=>true
  | _ :: _,[]=>false
  | x :: s,y :: s'=>Nat.beq x.ver y.ver && (Nat.beq x.mode y.mode && keepsB s s')
theorem keepsB_ok : ∀ {st st' : St},keepsB st st' = true→(∀ (b : Nat) (x : Box),st[b]? = some x→∃ y : Box,st'[b]? = some y∧(x.ver = y.ver→x.mode = y.mode→x = y))→st' = st++st'.drop st.length
  | [],st',_,_=>by simp
  | x :: s,[],h,_=>by cases h
  | x :: s,y :: s',h,he=>by
    simp only [keepsB,Bool.and_eq_true] at h
    obtain ⟨z,hz,hxy⟩:=he 0 x (by simp)
    simp at hz; subst hz
    have h1:=hxy (Nat.eq_of_beq_eq_true h.1) (Nat.eq_of_beq_eq_true h.2.1)
    have:=keepsB_ok h.2.2 (fun b z hb=>by simpa using he (b + 1) z (by simpa using hb))
    subst h1
    simp only [List.cons_append,List.length_cons,List.drop_succ_cons]
    rw [←this]
abbrev EvC:=VC→Tr→St→Option (VX × Tr × St)
abbrev EvF:=FuncId→List AV→St→Option (CRes × St)
def evO (P : Program) (call : EvF) : List VOper→Tr→St→Option (VX × Tr × St)
  | [],t,st=>some (.norm,t,st)
  | o :: l,t,st =>
    match wantedA t.get o.guard with
    | false=>match t.set o.dst undefA with
      | some t'=>evO P call l t' st
      | none=>none
    | true=>match vop P o.op t.get st with
      | some (.val v,st1)=>match keptA t.get st st1 o.keep with
        | true=>match t.set o.dst v with
          | some t'=>evO P call l t' st1
          | none=>none
        | false=>none
      | some (.skip,st1)=>match keptA t.get st st1 o.keep with
        | true=>match t.set o.dst undefA with
          | some t'=>evO P call l t' st1
          | none=>none
        | false=>none
      | some (.call f args,_)=>match call f args st with
        | some (.ret v,st1)=>match keptA t.get st st1 o.keep with
          | true=>match t.set o.dst v with
            | some t'=>evO P call l t' st1
            | none=>none
          | false=>none
        | some (.pan v,st1)=>some (.pan v,t,st1)
        | none=>none
      | some (.pan v,_)=>some (.pan v,t,st)
      | none=>none
def trim (r : CRes) (st st' : St) : CRes × St:=match r.flat && keepsB st st' with
  | true=>(r,st)
  | false=>(r,st')
def evF (F : FuncId→Option VFun) (rec : EvC) (f : FuncId) (args : List AV) (st : St) : Option (CRes × St) :=
  match F f with
  | some fn=>match trOf 0 .lf args with
    | some t=>match rec fn.body t st with
      | some (.norm,t',st')=>match resOf t'.get st' fn.res with
        | some vs=>some (trim (.ret (tupOf vs)) st st')
        | none=>none
      | some (.ret,t',st')=>match resOf t'.get st' fn.res with
        | some vs=>some (trim (.ret (tupOf vs)) st st')
        | none=>none
      | some (.pan v,_,st')=>some (.pan v,st')
      | _=>none
    | none=>none
  | none=>none
def evC (P : Program) (F : FuncId→Option VFun) (hk : EvF→EvF) : Nat→EvC
  | 0,_,_,_=>none
  | n + 1,.skip,t,st=>some (.norm,t,st)
  | n + 1,.reg l,t,st=>evO P (hk (evF F (evC P F hk n))) l t st
  | n + 1,.seq a b,t,st=>match evC P F hk n a t st with
    | some (.norm,t1,st1)=>evC P F hk n b t1 st1
    | r=>r
  | n + 1,.cond c a b,t,st=>match c.ev t.get with
    | .sc (.bool true)=>evC P F hk n a t st
    | .sc (.bool false)=>evC P F hk n b t st
    | _=>none
  | n + 1,.block id a,t,st=>match evC P F hk n a t st with
    | some (x,t1,st1)=>some (x.unblock id,t1,st1)
    | none=>none
  | n + 1,.loop a,t,st=>match evC P F hk n a t st with
    | some (.norm,t1,st1)=>evC P F hk n (.loop a) t1 st1
    | r=>r
  | n + 1,.exit id,t,st=>some (.exit id,t,st)
  | n + 1,.ret,t,st=>some (.ret,t,st)
section
variable {P : Program} {F : FuncId→Option VFun} {H : FuncId→List AV→St→CRes→St→Prop} {hk : EvF→EvF}
def CallOk (P : Program) (F : FuncId→Option VFun) (H : FuncId→List AV→St→CRes→St→Prop) (call : EvF) : Prop:=∀ f args st r st',call f args st = some (r,st')→J P F H (.call f args st r st')
def CodeOk (P : Program) (F : FuncId→Option VFun) (H : FuncId→List AV→St→CRes→St→Prop) (rec : EvC) : Prop:=∀ c t st x t' st',rec c t st = some (x,t',st')→J P F H (.code c t.get st x t'.get st')
theorem evO_ok {call : EvF} (hc : CallOk P F H call) : ∀ {l : List VOper} {t : Tr} {st : St} {x : VX} {t' : Tr} {st' : St},evO P call l t st = some (x,t',st')→J P F H (.ops l t.get st x t'.get st')
  | [],t,st,x,t',st',h=>by
    simp only [evO,Option.some.injEq,Prod.mk.injEq] at h
    obtain ⟨rfl,rfl,rfl⟩:=h
    exact .nil
  | o :: l,t,st,x,t',st',h=>by
    unfold evO at h
    split at h
    · rename_i hw
      split at h
      · rename_i t1 ht
        have:=evO_ok hc h
        rw [Tr.set_ok ht] at this
        exact .idle hw this
      · cases h
    · rename_i hw
      split at h
      · rename_i v st1 hv
        split at h
        · rename_i hk1
          split at h
          · rename_i t1 ht
            have:=evO_ok hc h
            rw [Tr.set_ok ht] at this
            exact .val hw hv hk1 this
          · cases h
        · cases h
      · rename_i st1 hv
        split at h
        · rename_i hk1
          split at h
          · rename_i t1 ht
            have:=evO_ok hc h
            rw [Tr.set_ok ht] at this
            exact .done hw hv hk1 this
          · cases h
        · cases h
      · rename_i f args st1 hv
        have e1:=vop_call_st hv
        subst e1
        split at h
        · rename_i v st2 hcall
          split at h
          · rename_i hk1
            split at h
            · rename_i t1 ht
              have:=evO_ok hc h
              rw [Tr.set_ok ht] at this
              exact .callR hw hv (hc _ _ _ _ _ hcall) hk1 this
            · cases h
          · cases h
        · rename_i v st2 hcall
          simp only [Option.some.injEq,Prod.mk.injEq] at h
          obtain ⟨rfl,rfl,rfl⟩:=h
          exact .callP hw hv (hc _ _ _ _ _ hcall)
        · cases h
      · rename_i v st1 hv
        have e1:=vop_pan_st hv
        subst e1
        simp only [Option.some.injEq,Prod.mk.injEq] at h
        obtain ⟨rfl,rfl,rfl⟩:=h
        exact .panic hw hv
      · cases h
theorem trim_ok (hE : ∀ f args st r st',H f args st r st'→Evo st st') {f : FuncId} {args : List AV} {st st' st2 : St} {r r' : CRes} (h : J P F H (.call f args st r st')) (ht : trim r st st' = (r',st2)) : J P F H (.call f args st r' st2):=by
  unfold trim at ht
  split at ht
  · rename_i hb
    simp only [Bool.and_eq_true] at hb
    cases ht
    have he:=J_evo hE h
    have:=keepsB_ok hb.2 (fun b x hx=>let ⟨y,h1,_,_,h4⟩:=he b x hx; ⟨y,h1,h4⟩)
    rw [this] at h
    exact .forget h hb.1
  · cases ht; exact h
theorem evF_ok (hE : ∀ f args st r st',H f args st r st'→Evo st st') {rec : EvC} (hr : CodeOk P F H rec) : CallOk P F H (evF F rec):=by
  intro f args st r st' h
  unfold evF at h
  split at h
  · rename_i fn hF
    split at h
    · rename_i t ht
      have he:=trOf_env ht
      split at h
      · rename_i t1 st1 hb
        split at h
        · rename_i vs hvs
          simp only [Option.some.injEq] at h
          have j:=hr _ _ _ _ _ _ hb
          rw [he] at j
          exact trim_ok hE (.call hF j (.inl rfl) hvs) h
        · cases h
      · rename_i t1 st1 hb
        split at h
        · rename_i vs hvs
          simp only [Option.some.injEq] at h
          have j:=hr _ _ _ _ _ _ hb
          rw [he] at j
          exact trim_ok hE (.call hF j (.inr rfl) hvs) h
        · cases h
      · rename_i v t1 st1 hb
        simp only [Option.some.injEq,Prod.mk.injEq] at h
        obtain ⟨rfl,rfl⟩:=h
        have j:=hr _ _ _ _ _ _ hb
        rw [he] at j
        exact .callX hF j
      · cases h
    · cases h
  · cases h
theorem evC_ok (hE : ∀ f args st r st',H f args st r st'→Evo st st') (hh : ∀ call,CallOk P F H call→CallOk P F H (hk call)) : ∀ n,CodeOk P F H (evC P F hk n)
  | 0=>fun c t st x t' st' h=>by simp [evC] at h
  | n + 1=>fun c t st x t' st' h=>by
    have ih:=evC_ok hE hh n
    cases c with
    | skip=>simp only [evC,Option.some.injEq,Prod.mk.injEq] at h; obtain ⟨rfl,rfl,rfl⟩:=h; exact .skip
    | reg l=>exact .reg (evO_ok (hh _ (evF_ok hE ih)) h)
    | seq a b =>
      simp only [evC] at h
      split at h
      · rename_i t1 st1 ha
        exact .seqN (ih _ _ _ _ _ _ ha) (ih _ _ _ _ _ _ h)
      · rename_i hno
        refine .seqX (ih _ _ _ _ _ _ h) ?_
        rintro rfl
        exact hno _ _ h
    | cond c a b =>
      simp only [evC] at h
      split at h
      · rename_i hc
        exact .cond (t:=true) hc (ih _ _ _ _ _ _ h)
      · rename_i hc
        exact .cond (t:=false) hc (ih _ _ _ _ _ _ h)
      · cases h
    | block id a =>
      simp only [evC] at h
      split at h
      · rename_i x1 t1 st1 ha
        simp only [Option.some.injEq,Prod.mk.injEq] at h
        obtain ⟨rfl,rfl,rfl⟩:=h
        exact .block (ih _ _ _ _ _ _ ha)
      · cases h
    | loop a =>
      simp only [evC] at h
      split at h
      · rename_i t1 st1 ha
        exact .loopN (ih _ _ _ _ _ _ ha) (ih _ _ _ _ _ _ h)
      · rename_i hno
        refine .loopX (ih _ _ _ _ _ _ h) ?_
        rintro rfl
        exact hno _ _ h
    | exit id=>simp only [evC,Option.some.injEq,Prod.mk.injEq] at h; obtain ⟨rfl,rfl,rfl⟩:=h; exact .exit
    | ret=>simp only [evC,Option.some.injEq,Prod.mk.injEq] at h; obtain ⟨rfl,rfl,rfl⟩:=h; exact .ret
end
end Go.VX
end
