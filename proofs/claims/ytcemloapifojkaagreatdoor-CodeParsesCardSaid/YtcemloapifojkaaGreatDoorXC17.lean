/- A part of the proofs of the statements of one layer: CQ6, CQ7. No condition is added here. -/
import Derived.Test.YtcemloapifojkaaGreatDoorXC16
set_option linter.unusedVariables false
set_option linter.unusedSimpArgs false
open Go.VX.AV renaming cell? → xc, toV → xd
open Int renaming reduceAdd → xe, reduceLE → xf, reduceLT → xg, reduceNeg → xh, reduceToNat → xi
open Nat renaming reduceAdd → xj, reduceEqDiff → xk, reduceLeDiff → xl, reduceMul → xm, reduceSub → xn
open Go.VX.VOpd renaming ev → xp
open Go.VX renaming asInt? → xq, asNat? → xr, cellVal → xu, cellsV → xv, fillA → xw, partsEv → xy, resOf → xz, splice → ya, tupOf → yb, zeroes → yc
section
set_option maxRecDepth 4000
namespace Go.VX.Seat
open Go.Proofs Go.Lib
section
variable {X : Cx} {st : St}
set_option maxHeartbeats 4000000 in
theorem w_r07_Parse (h : OnH X) (hg : GB st) (t : List UInt8) :
    wpF X 15 [sA t] st fun r s=>∃ w,r = .ret (.tup [w,iA (parseT t).2.1,iA (parseT t).2.2])∧(∃ m,s = st++m)∧OwnU s st.length w (parseT t).1:=by
  refine wpF_go (fn:=v_r07_Parse) (by rw [h.F]; rfl) ?_
  have q1:=k_len h.toOn t
  simp only [v_r07_Parse,q1,kB,kZ,kD,kE,xn,xi,xm,xe,xf,xg,xh,xl,xk,xj,reduceIte,reduceCtorEq,ya,xz,xu]
  refine condO_intro ?_ ?_<;>intro hc
  · have hlt : 2000000 < (t.length : Int):=of_decide_eq_true hc
    have e : parseT t = (zeroU,0,3):=by unfold parseT; rw [if_pos hlt]
    rw [e]
    simp only [kB,kZ,kD,kE,xn,xi,xm,xe,xf,xg,xh,xl,xk,xj,reduceIte,reduceCtorEq,ya,xz,xu]
    exact ⟨_,rfl,⟨_,rfl⟩,own_zero _ _⟩
  have hlt : ¬ 2000000 < (t.length : Int):=of_decide_eq_false hc
  have ht : t.length≤2000000:=by omega
  have eP : parseT t = match runL 1 0 zeroU (splC 10 t) with
      | .error k=>(zeroU,k,4)
      | .ok U=>if chkU U = 0 then (U,0,0) else (zeroU,0,chkU U):=by unfold parseT; exact if_neg hlt
  simp only [kB,kZ,kD,kE,xn,xi,xm,xe,xf,xg,xh,xl,xk,xj,reduceIte,reduceCtorEq,ya,xz,xu]
  refine wpF.mono (w_Split h 10 t (by omega)) ?_
  rintro r S ⟨v,m,hi,rfl,rfl,ha⟩
  refine ⟨kept_app _ _ _ _,?_⟩
  have hpl:=spl_le 10 t
  have hcl:=spl_len 10 t
  have hcc:=List.count_le_length (a:=(10 : UInt8)) (l:=t)
  have hpne : splC 10 t≠[]:=by obtain ⟨p0,pt,e⟩:=spl_cons 10 t; rw [e]; simp
  rw [eP]
  generalize splC 10 t = ps at *
  obtain ⟨np,hnp⟩ : ∃ np,ps.length = np + 1:=⟨ps.length - 1,by have:=List.length_pos_iff.2 hpne; omega⟩
  obtain ⟨B,hB⟩ : ∃ B : St,B = st++[⟨[.sc (.slice none 0 0),iA 0,iA 0,iA 0,iA 0,.sc (.slice none 0 0)],0,0⟩]++m:=⟨_,rfl⟩
  have hr1 : B[st.length + 0]? = some ⟨[.sc (.slice none 0 0),iA 0,iA 0,iA 0,iA 0,.sc (.slice none 0 0)],0,0⟩:=by rw [hB]; simp
  have hpB : ∃ k,B = st++k:=⟨_,by rw [hB,List.append_assoc]⟩
  have hgB : GB B:=by obtain ⟨k,e⟩:=hpB; rw [e]; exact hg.app k
  have hlB : st.length < B.length:=by rw [hB]; simp
  rw [←hB] at ha ⊢
  generalize hrb : st.length + 0 = rb at *
  have hzero : ∀ {s1 : St},(∃ k,s1 = B++k)→∃ S',St.put s1 rb 0 [.sc (.slice none 0 0),iA 0,iA 0,iA 0,iA 0,.sc (.slice none 0 0)] = some S'∧St.atN S' rb 0 6 = some [.sc (.slice none 0 0),iA 0,iA 0,iA 0,iA 0,.sc (.slice none 0 0)]∧∃ m,S' = st++m:=fun {s1} hpre=>by
    obtain ⟨k3,hk3⟩:=hpre
    obtain ⟨k4,hk4⟩:=hpB
    have hr2 : s1[rb]? = some ⟨[.sc (.slice none 0 0),iA 0,iA 0,iA 0,iA 0,.sc (.slice none 0 0)],0,0⟩:=by
      rw [hk3,List.getElem?_append_left (List.getElem?_eq_some_iff.1 hr1).1]
      exact hr1
    obtain ⟨S',e1,e2,e3⟩:=put_whole hr2 (cells:=[.sc (.slice none 0 0),iA 0,iA 0,iA 0,iA 0,.sc (.slice none 0 0)]) rfl rfl
    exact ⟨S',e1,by rw [atN_box e2 (by decide) 0 6 (by simp)]; rfl,e3.ext ⟨k4++k3,by rw [hk3,hk4,List.append_assoc]⟩ fun b hb e=>by omega⟩
  have hln:=ha.len
  simp only [List.length_map,hnp] at hln
  have hwn : IntKind.wrap .i64 (((np + 1 : Nat) : Int) - 1) = (np : Int):=by rw [wrap_small (by omega) (by omega)]; omega
  obtain ⟨b1,o1,he1,hn1,ha1,_⟩:=ha.get np (by simp; omega)
  have p1:=ha1 [] 0 (by omega)
  obtain ⟨last,hlast⟩ : ∃ last,last = ps[np]'(by omega):=⟨_,rfl⟩
  simp only [List.append_nil,List.getElem_map,Nat.add_zero,List.getElem?_cons_zero,← hlast] at p1
  have hdrop : ps.drop np = [last]:=by
    rw [List.drop_eq_getElem_cons (by omega),List.drop_eq_nil_of_le (by omega),hlast]
  simp only [hln,hwn,he1,p1,kB,kZ,kD,kE,xn,xi,xm,xe,xf,xg,xh,xl,xk,xj,reduceIte,reduceCtorEq,ya,xz,xu]
  refine opR_cut (l:=0) (u:=np) ha (by simp only [kB,kZ,kD,kE,xn,xi,xm,xe,xf,xg,xh,xl,xk,xj,reduceIte,reduceCtorEq,ya,xz,xu]) rfl (by simp only [bnd,kB,kZ,kD,kE,xn,xi,xm,xe,xf,xg,xh,xl,xk,xj,reduceIte,reduceCtorEq,ya,xz,xu]; exact if_pos (by omega)) (by omega) (by simp; omega) (by simpa using hpne) ?_
  intro w hw _
  rw [←List.map_take,List.drop_zero] at hw
  have hlw:=hw.len
  simp only [List.length_map,List.length_take,Nat.min_eq_left (show np≤ps.length by omega)] at hlw
  simp only [kB,kZ,kD,kE,xn,xi,xm,xe,xf,xg,xh,xl,xk,xj,reduceIte,reduceCtorEq,ya,xz,xu]
  have hP0 : QS B (B++[⟨[.sc (.slice none 0 0),iA 0,iA 0,iA 0,iA 0,.sc (.slice none 0 0)],0,0⟩,⟨[iA 0],0,1⟩]) (B.length + 1) B.length (B.length + 2) 0 (.sc (.slice none 0 0)) (.sc (.slice none 0 0)) (fun _=>.sc (.slice none 0 0)) zeroU :=
    ⟨⟨_,rfl⟩,⟨1,by simp⟩,⟨by omega,by omega,by omega,by omega,by omega,by simp⟩,zero_ptr (ver:=0) (by simp)⟩
  generalize (B++[⟨[.sc (.slice none 0 0),iA 0,iA 0,iA 0,iA 0,.sc (.slice none 0 0)],0,0⟩,⟨[iA 0],0,1⟩] : St) = S0 at *
  have hlo0 : B.length≤B.length + 2:=by omega
  generalize B.length + 1 = sb at *
  generalize B.length + 2 = lo at *
  obtain ⟨ub,hub⟩ : ∃ ub,ub = B.length:=⟨_,rfl⟩
  rw [←hub] at hP0 ⊢
  refine anyLoop (mB m0) (fun e s=>∃ (σ : Int) (sz bl : AV) (f : Nat→AV) (U : UnitV),e 2 = .ptr rb 0∧e 5 = w∧e 6 = sA last∧e 7 = .ptr ub 0∧e 8 = .ptr sb 0∧QS B s sb ub lo σ sz bl f U∧stOk σ U∧runL 1 0 zeroU ps = runL (1 + np) (sT σ) U [last]) ?_ ?_
  · refine loop_inv (fun n e s=>∃ (i : Nat) (σ : Int) (sz bl : AV) (f : Nat→AV) (U : UnitV),i + n = np∧e 2 = .ptr rb 0∧e 5 = w∧e 6 = sA last∧e 7 = .ptr ub 0∧e 8 = .ptr sb 0∧e 9 = iA i∧QS B s sb ub lo σ sz bl f U∧stOk σ U∧Small U n∧runL 1 0 zeroU ps = runL (1 + i) (sT σ) U (ps.drop i)) ?_ np ?_
    case refine_2=>exact ⟨0,0,_,_,_,zeroU,by omega,rfl,rfl,rfl,rfl,rfl,rfl,hP0,.inl ⟨rfl,rfl⟩,⟨by simp only [zeroU,List.length_nil]; omega,by simp only [zeroU,List.length_nil]; omega,fun b hb=>by simp [zeroU] at hb⟩,by rw [List.drop_zero]; rfl⟩
    clear hP0
    rintro n e s ⟨i,σ,sz,bl,f,U,hin,k2,k5,k6,k7,k8,k9,hP,hok,hS,hrun⟩
    simp only [k2,k5,k6,k7,k8,k9,hlw,kB,kZ,kD,kE,xn,xi,xm,xe,xf,xg,xh,xl,xk,xj,reduceIte,reduceCtorEq,ya,xz,xu]
    refine condO_intro ?_ ?_<;>intro hc3
    case refine_2 =>
      have hi : i = np:=by have:=of_decide_eq_false hc3; omega
      subst hi
      simp only [k2,k5,k6,k7,k8,k9,kB,kZ,kD,kE,xn,xi,xm,xe,xf,xg,xh,xl,xk,xj,reduceIte,reduceCtorEq,ya,xz,xu]
      exact ⟨σ,sz,bl,f,U,hP,hok,by rw [hrun,hdrop]⟩
    have hi : i < np:=by have:=of_decide_eq_true hc3; omega
    obtain ⟨n',rfl⟩ : ∃ n',n = n' + 1:=⟨n - 1,by omega⟩
    obtain ⟨kk,hk⟩:=hP.pre
    obtain ⟨b2,o2,he2,hn2,ha2,_⟩:=hw.get i (by simp; omega)
    have p2:=ha2 kk 0 (by omega)
    rw [←hk] at p2
    simp only [List.getElem_map,List.getElem_take,Nat.add_zero,List.getElem?_cons_zero] at p2
    have hll:=hpl (ps[i]'(by omega)) (List.getElem_mem _)
    have hdi : ps.drop i = ps[i]'(by omega) :: ps.drop (i + 1):=List.drop_eq_getElem_cons (by omega)
    rw [hdi] at hrun
    rw [runL_cons _ _ _ _ (fun e=>by have:=congrArg List.length e; simp at this; omega)] at hrun
    have hwi : IntKind.wrap .i64 ((i : Int) + 1) = ((i + 1 : Nat) : Int):=by rw [wrap_small (by omega) (by omega)]; omega
    simp only [k2,k5,k6,k7,k8,k9,he2,p2,kB,kZ,kD,kE,xn,xi,xm,xe,xf,xg,xh,xl,xk,xj,reduceIte,reduceCtorEq,ya,xz,xu]
    refine wpF.mono (w_r07_u0 h hgB hP (ps[i]'(by omega)) (by omega) hS hok) ?_
    rintro r s1 ⟨ok,rfl,hpre,hno,hyes⟩
    refine ⟨keptA_nil _ _ _,?_⟩
    cases ok with
    | false =>
      have hst:=hno rfl
      rw [hst] at hrun
      dsimp only at hrun
      obtain ⟨S',e1,e4,e5⟩:=hzero hpre
      have hwi' : IntKind.wrap .i64 ((i : Int) + 1) = 1 + (i : Int):=by rw [hwi]; omega
      rw [hrun]
      simp only [k2,k5,k6,k7,k8,k9,hwi',e1,e4,kB,kZ,kD,kE,xn,xi,xm,xe,xf,xg,xh,xl,xk,xj,reduceIte,reduceCtorEq,ya,xz,xu]
      exact ⟨_,rfl,e5,own_zero _ _⟩
    | true =>
      obtain ⟨τ,sz',bl',f',V,hP',hst,hok',hS'⟩:=hyes rfl
      rw [hst] at hrun
      dsimp only at hrun
      simp only [k2,k5,k6,k7,k8,k9,hwi,kB,kZ,kD,kE,xn,xi,xm,xe,xf,xg,xh,xl,xk,xj,reduceIte,reduceCtorEq,ya,xz,xu]
      exact ⟨n',by omega,i + 1,τ,sz',bl',f',V,by omega,rfl,hP',hok',hS',by rw [hrun]; congr 1⟩
  rintro e s ⟨σ,sz,bl,f,U,k2,k5,k6,k7,k8,hP,hok,hrun⟩
  have x0:=hP.st0
  have g0:=fun ox oy=>k_ne X.P ox oy last []
  simp only [k2,k5,k6,k7,k8,g0,kB,kZ,kD,kE,xn,xi,xm,xe,xf,xg,xh,xl,xk,xj,reduceIte,reduceCtorEq,ya,xz,xu]
  refine anyG (T:=fun q=>q) m0 (fun e s'=>s' = s∧e 2 = .ptr rb 0∧e 5 = w∧e 7 = .ptr ub 0∧e 52 = bA (decide (¬ (last = []∧sT σ = 1)))) ?_ ?_
  · by_cases hl : last = []
    · have e1 : decide (last≠[]) = false:=decide_eq_false (fun e=>e hl)
      have e2 : decide (¬ (last = []∧sT σ = 1)) = decide (sT σ≠1):=by simp [hl]
      simp only [e1,e2,kB,kZ,kD,kE,xn,xi,xm,xe,xf,xg,xh,xl,xk,xj,reduceIte,reduceCtorEq,ya,xz,xu]
      rcases hok with ⟨rfl,_⟩ | ⟨rfl,_⟩ | ⟨rfl,_⟩ | ⟨rfl,_⟩
      all_goals simp only [k2,k5,k6,k7,k8,x0,Int.reduceEq,kB,kZ,kD,kE,xn,xi,xm,xe,xf,xg,xh,xl,xk,xj,reduceIte,reduceCtorEq,ya,xz,xu]
      all_goals rfl
    · have e1 : decide (last≠[]) = true:=decide_eq_true hl
      have e2 : decide (¬ (last = []∧sT σ = 1)) = true:=decide_eq_true (fun e=>hl e.1)
      simp only [e1,e2,k2,k5,k6,k7,k8,kB,kZ,kD,kE,xn,xi,xm,xe,xf,xg,xh,xl,xk,xj,reduceIte,reduceCtorEq,ya,xz,xu]
  clear k2 k5 k6 k7 k8
  rintro e s' ⟨rfl,k2,k5,k7,k52⟩
  rw [runL_one] at hrun
  simp only [k2,k5,k7,k52,kB,kZ,kD,kE,xn,xi,xm,xe,xf,xg,xh,xl,xk,xj,reduceIte,reduceCtorEq,ya,xz,xu]
  refine condO_intro ?_ ?_<;>intro hc4
  · rw [if_neg (of_decide_eq_true hc4)] at hrun
    obtain ⟨S',e1,e4,e5⟩:=hzero hP.pre
    have hwi' : IntKind.wrap .i64 ((np : Int) + 1) = 1 + (np : Int):=by rw [wrap_small (by omega) (by omega)]; omega
    rw [hrun]
    simp only [k2,k5,k7,hlw,hwi',e1,e4,kB,kZ,kD,kE,xn,xi,xm,xe,xf,xg,xh,xl,xk,xj,reduceIte,reduceCtorEq,ya,xz,xu]
    exact ⟨_,rfl,e5,own_zero _ _⟩
  rw [if_pos (Decidable.not_not.1 (of_decide_eq_false hc4))] at hrun
  have hown:=hP.u.own
  obtain ⟨uv,hubx⟩:=hP.u.box
  have hu:=hown.unit
  have x6 : St.atN s' ub 0 6 = some [sz,iA U.params,iA U.regs,iA U.code,iA U.spill,bl]:=by
    rw [atN_box hubx (by decide) 0 6 (by simp)]
    rfl
  rw [hrun]
  simp only [k2,k5,k7,x6,kB,kZ,kD,kE,xn,xi,xm,xe,xf,xg,xh,xl,xk,xj,reduceIte,reduceCtorEq,ya,xz,xu]
  refine callO_same (j_r07_Check h.toOn hu) ?_
  by_cases hc0 : chkU U = 0
  · have hszc:=isCell_len hP.u.z.own.arr.len
    have hblc:=isCell_len hP.u.b.own.arr.len
    have hr2 : s'[rb]? = some ⟨[.sc (.slice none 0 0),iA 0,iA 0,iA 0,iA 0,.sc (.slice none 0 0)],0,0⟩:=by
      obtain ⟨k3,hk3⟩:=hP.pre
      rw [hk3,List.getElem?_append_left (List.getElem?_eq_some_iff.1 hr1).1]
      exact hr1
    obtain ⟨S2,e1,e2,e3⟩:=put_whole hr2 (cells:=[sz,iA U.params,iA U.regs,iA U.code,iA U.spill,bl]) rfl (show (sz.isCell && (true && (true && (true && (true && (bl.isCell && true)))))) = true by rw [hszc,hblc]; rfl)
    have e4 : St.atN S2 rb 0 6 = some [sz,iA U.params,iA U.regs,iA U.code,iA U.spill,bl]:=by
      rw [atN_box e2 (by decide) 0 6 (by simp)]
      rfl
    have d0 : decide ((0 : Int)≠0) = false:=rfl
    have hpre2 : ∃ m,s' = st++m:=by
      obtain ⟨k3,hk3⟩:=hP.pre
      obtain ⟨k4,hk4⟩:=hpB
      exact ⟨k4++k3,by rw [hk3,hk4,List.append_assoc]⟩
    have hrbB : rb < B.length:=(List.getElem?_eq_some_iff.1 hr1).1
    have hord:=hP.ord
    simp only [hc0,d0,if_true,k2,k5,k7,x6,e1,e4,kB,kZ,kD,kE,xn,xi,xm,xe,xf,xg,xh,xl,xk,xj,reduceIte,reduceCtorEq,ya,xz,xu]
    exact ⟨_,rfl,e3.ext hpre2 fun b hb e=>by omega,(hown.agree e3 fun b hb _ hx=>by omega).low (by omega)⟩
  · have d0 : decide (chkU U≠0) = true:=decide_eq_true hc0
    obtain ⟨S',e1,e4,e5⟩:=hzero hP.pre
    simp only [hc0,d0,if_false,k2,k5,k7,e1,e4,kB,kZ,kD,kE,xn,xi,xm,xe,xf,xg,xh,xl,xk,xj,reduceIte,reduceCtorEq,ya,xz,xu]
    exact ⟨_,rfl,e5,own_zero _ _⟩
end
end Go.VX.Seat
end
section
set_option maxRecDepth 4000
namespace Go.VX.Seat
open Go.Proofs Go.Lib
theorem zero_fits : Fits zeroU:=⟨by show ((0 : Nat) : Int) < _; omega,by show ((0 : Nat) : Int) < _; omega,fun b hb=>by cases hb⟩
theorem parse_fits (t : List UInt8) : Fits (parseT t).1:=by
  unfold parseT
  by_cases h : 2000000 < (t.length : Int)
  · rw [if_pos h]; exact zero_fits
  · rw [if_neg h]
    cases runT 0 1 zeroU t with
    | error k=>exact zero_fits
    | ok U =>
      dsimp only
      by_cases hc : chkU U = 0
      · rw [if_pos hc]
        have hw:=chk_wf hc
        exact ⟨by have:=hw.sizes; show (U.sizes.length : Int) < _; omega,by have:=hw.nb; show (U.blocks.length : Int) < _; omega,fun b hb=>by have:=(hw.blk b hb).ops; omega⟩
      · rw [if_neg hc]; exact zero_fits
section
variable {X : Cx} {st : St}
set_option maxHeartbeats 2000000 in
theorem w_CodeParsesL (h : OnH X) (hg : GB st) (l : List UInt8) : wpF X 4 [sA l] st fun r s=>r = .ret (bA true)∧∃ m,s = st++m:=by
  refine wpF_go (fn:=v_l07_CodeParses) (by rw [h.F]; rfl) ?_
  have q0:=k_len h.toOn l
  have hmin : min (l.length : Int) 2000001 = ((min l.length 2000001 : Nat) : Int):=by omega
  have q1:=k_sl0 h.toOn l (min l.length 2000001) (Nat.min_le_left _ _)
  simp only [v_l07_CodeParses,q0,hmin,q1,Option.map_none,kB,kZ,kD,kE,xn,xi,xm,xe,xf,xg,xh,xl,xk,xj,reduceIte,reduceCtorEq,ya,xz,xu]
  generalize l.take (min l.length 2000001) = t at *
  clear q0 q1 hmin
  rw [List.append_nil]
  have hf:=parse_fits t
  refine wpF.mono (w_code_Parse h hg t) ?_
  rintro r S ⟨wv,rfl,⟨m1,rfl⟩,hown⟩
  refine ⟨kept_app _ _ _ _,?_⟩
  obtain ⟨sz1,bl1,f1,hwv,hz1,hb1⟩:=hown.ex
  have hszc1:=isCell_len hz1.own.arr.len
  have hblc1:=isCell_len hb1.own.arr.len
  have u1:=hown.unit
  subst hwv
  simp only [hszc1,hblc1,kB,kZ,kD,kE,xn,xi,xm,xe,xf,xg,xh,xl,xk,xj,reduceIte,reduceCtorEq,ya,xz,xu]
  refine wpF.mono (w_r07_Parse h (hg.app _) t) ?_
  rintro r S ⟨wv,rfl,⟨m2,rfl⟩,hown2⟩
  refine ⟨kept_app _ _ _ _,?_⟩
  obtain ⟨sz2,bl2,f2,hwv,hz2,hb2⟩:=hown2.ex
  have hszc2:=isCell_len hz2.own.arr.len
  have hblc2:=isCell_len hb2.own.arr.len
  have u2:=hown2.unit
  subst hwv
  obtain ⟨U,hU⟩ : ∃ U,U = (parseT t).1:=⟨_,rfl⟩
  obtain ⟨k,hk⟩ : ∃ k,k = (parseT t).2.1:=⟨_,rfl⟩
  obtain ⟨e,he⟩ : ∃ e,e = (parseT t).2.2:=⟨_,rfl⟩
  simp only [←hU,← hk,← he] at u1 u2 hf ⊢
  have g1:=u1.mono (⟨[sz1,iA U.params,iA U.regs,iA U.code,iA U.spill,bl1],0,1⟩ :: (m2++[⟨[sz2,iA U.params,iA U.regs,iA U.code,iA U.spill,bl2],0,1⟩]))
  have g2:=u2.mono [⟨[sz2,iA U.params,iA U.regs,iA U.code,iA U.spill,bl2],0,1⟩]
  simp only [List.append_assoc,List.cons_append,List.nil_append] at g1 g2
  simp only [hszc2,hblc2,List.append_assoc,List.cons_append,List.nil_append,kB,kZ,kD,kE,xn,xi,xm,xe,xf,xg,xh,xl,xk,xj,reduceIte,reduceCtorEq,ya,xz,xu]
  refine callO_same (j_r07_Same h.toOn g1 g2 hf) ?_
  simp only [decide_true,kB,kZ,kD,kE,xn,xi,xm,xe,xf,xg,xh,xl,xk,xj,reduceIte,reduceCtorEq,ya,xz,xu]
  refine callO_same (.hook (h.alive _ (hg.app _))) ?_
  simp only [kB,kZ,kD,kE,xn,xi,xm,xe,xf,xg,xh,xl,xk,xj,reduceIte,reduceCtorEq,ya,xz,xu]
  exact ⟨_,rfl⟩
theorem w_CodeParses (h : OnH X) (hg : GB st) (s : ByteArray) : wpF X 4 [.sc (.string s)] st fun r s=>r = .ret (bA true)∧∃ m,s = st++m:=by
  have e : (.sc (.string s) : AV) = sA s.data.toList:=rfl
  rw [e]
  exact w_CodeParsesL h hg _
end
end Go.VX.Seat
end
