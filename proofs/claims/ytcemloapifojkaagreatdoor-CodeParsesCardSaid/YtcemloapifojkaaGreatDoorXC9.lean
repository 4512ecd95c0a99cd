/- A part of the proofs of the statements of one layer: S9, S10, S11, S12, S13, S14, S15, S16, S17, S18, S19, S20, S21, S22, S24, S23, E1. No condition is added here. -/
import Derived.Test.YtcemloapifojkaaGreatDoorXC8
set_option linter.unusedVariables false
set_option linter.unusedSimpArgs false
open Go.VX.AV renaming cell? → xc, toV → xd
open Int renaming reduceAdd → xe, reduceLE → xf, reduceLT → xg, reduceNeg → xh, reduceToNat → xi
open Nat renaming reduceAdd → xj, reduceEqDiff → xk, reduceLeDiff → xl, reduceMul → xm, reduceSub → xn
open Go.VX.VOpd renaming ev → xp
open Go.VX renaming asInt? → xq, asNat? → xr, cellVal → xu, cellsV → xv, fillA → xw, partsEv → xy, resOf → xz, splice → ya, tupOf → yb, zeroes → yc
section
set_option maxRecDepth 4000
namespace Go.VX.Seat
open Go.Proofs
def opErrU (U : UnitV) (o : OpV) : Int:=opErr U.sizes.length U.blocks.length U.regs U.spill o.k o.d o.a o.b o.c o.n o.g
def endErrU (U : UnitV) (e : EndV) : Int:=endErr U.blocks.length U.regs e.k e.a e.t e.e
def opsFind (U : UnitV) (i : Nat) : Nat→List OpV→Option (Int × Int × Int)
  | _,[]=>none
  | k,o :: r=>if decide (opErrU U o≠0) then some (opErrU U o,i,k) else opsFind U i (k + 1) r
def blkFind (U : UnitV) : Nat→List BlkV→Option (Int × Int × Int)
  | _,[]=>none
  | i,b :: r =>
    if decide (b.catch_ < -1) || decide ((U.blocks.length : Int)≤b.catch_) then some (2,i,b.ops.length) else
    if decide (400 < (b.ops.length : Int)) then some (3,i,b.ops.length) else
    match opsFind U i 0 b.ops with
    | some x=>some x
    | none=>if decide (endErrU U b.e≠0) then some (endErrU U b.e,i,b.ops.length) else blkFind U (i + 1) r
def total (l : List BlkV) : Nat:=(l.map (·.ops.length)).sum
def badSize (n : Int) : Bool:=decide (n < 1) || decide (65536 < n)
def limitsU (U : UnitV) : Bool:=decide (16 < (U.sizes.length : Int)) || decide (2000 < (U.blocks.length : Int)) || decide ((U.blocks.length : Int) = 0) || decide (4096 < U.regs) || decide (4096 < U.spill)
def headU (U : UnitV) : Bool:=decide (U.regs < 1) || decide (U.spill < 0) || decide (U.params < 0) || decide (8 < U.params) || decide (U.regs < U.params) || !regOkA U.regs U.code
def findU (U : UnitV) : Int × Int × Int :=
  if limitsU U then (3,0,0) else
  if U.sizes.any badSize then (2,0,0) else
  if headU U then (2,0,0) else
  match blkFind U 0 U.blocks with
  | some x=>x
  | none=>if decide (20000 < (total U.blocks : Int)) then (3,0,0) else (0,0,0)
abbrev triA (x : Int × Int × Int) : AV:=.tup [iA x.1,iA x.2.1,iA x.2.2]
section
variable {X : Cx} {st : St}
theorem j_r07_Find (h : On X) {lo hi : Nat} {v : AV} {U : UnitV} (hv : UnitAt st lo hi v U) :
    J X.P X.F X.H (.call 17 [v] st (.ret (triA (findU U))) st):=by
  refine pure_intro (by rw [h.F]; rfl) rfl ?_
  obtain ⟨s,bl,rfl,hs,hb⟩:=hv
  have l1:=hs.len
  have l2 : lenA bl = some U.blocks.length:=by
    obtain ⟨f,hb,_⟩:=hb
    have:=hb.len
    simpa using this
  simp only [List.length_map] at l1
  have hbox:=BoxAt.last st [s,iA U.params,iA U.regs,iA U.code,iA U.spill,bl] 0
  have hs0:=hs.mono [⟨[s,iA U.params,iA U.regs,iA U.code,iA U.spill,bl],0,0⟩]
  have hb0:=hb.mono [⟨[s,iA U.params,iA U.regs,iA U.code,iA U.spill,bl],0,0⟩]
  simp only [v_r07_Find,l1,l2,kB,kC,cellsOf,kE,xn,xi,xm,xe,xf,xg,xh,xl,xk,xj,reduceIte,reduceCtorEq,ya,xz,xu]
  refine cutG (mS m0) [1] (fun _=>limitsU U = false) ?_ ?_
  · unfold findU limitsU
    repeat' first | (refine gO_t ?_ ?_<;>(intro hc; simp only [*,kB,kC,cellsOf,kE,xn,xi,xm,xe,xf,xg,xh,xl,xk,xj,reduceIte,reduceCtorEq,ya,xz,xu])) | (refine gO_f ?_ ?_<;>(intro hc; simp only [*,kB,kC,cellsOf,kE,xn,xi,xm,xe,xf,xg,xh,xl,xk,xj,reduceIte,reduceCtorEq,ya,xz,xu])) | (refine condO_intro ?_ ?_<;>(intro hc; simp only [*,kB,kC,cellsOf,kE,xn,xi,xm,xe,xf,xg,xh,xl,xk,xj,reduceIte,reduceCtorEq,ya,xz,xu]))
    all_goals first | exact ⟨_,rfl⟩ | exact ⟨rfl,_,rfl⟩ | exact ⟨trivial,_,rfl⟩ | exact ⟨[],(List.append_nil _).symm⟩
  · intro e1 hL hlim
    simp only [kB,kC,cellsOf,kE,xn,xi,xm,xe,xf,xg,xh,xl,xk,xj,reduceIte,reduceCtorEq,ya,xz,xu] at hL ⊢
    refine cutLoop (mB m0) [1] (fun _=>U.sizes.any badSize = false) ?_ ?_
    · refine loop_live [1] (fun m e=>∃ i : Nat,i + m = U.sizes.length∧e 5 = iA i∧∀ j (h1 : j < U.sizes.length),j < i→badSize U.sizes[j] = false) U.sizes.length ?_ ?_
      · exact ⟨0,by omega,by simp only [kB,kC,cellsOf,kE,xn,xi,xm,xe,xf,xg,xh,xl,xk,xj,reduceIte,reduceCtorEq,ya,xz,xu],fun j _ hj=>absurd hj (by omega)⟩
      · intro m e hL2 ⟨i,him,h5,hpre⟩
        simp only [kB,kC,cellsOf,kE,xn,xi,xm,xe,xf,xg,xh,xl,xk,xj,reduceIte,reduceCtorEq,ya,xz,xu] at hL2
        simp only [hL] at hL2
        simp only [hL2,h5,l1,l2,kB,kC,cellsOf,kE,xn,xi,xm,xe,xf,xg,xh,xl,xk,xj,reduceIte,reduceCtorEq,ya,xz,xu]
        refine condO_intro ?_ ?_<;>intro hc<;>simp only [kB,kC,cellsOf,kE,xn,xi,xm,xe,xf,xg,xh,xl,xk,xj,reduceIte,reduceCtorEq,ya,xz,xu]
        · have hi : i < U.sizes.length:=by have:=of_decide_eq_true hc; omega
          obtain ⟨b1,o1,he1,hn1,ha1,hm1⟩:=hs.get i (by simpa using hi)
          have p1:=fun L=>ha1 L 0 (by omega)
          simp only [List.getElem_map,Nat.add_zero,kB,kC,cellsOf,kE,xn,xi,xm,xe,xf,xg,xh,xl,xk,xj,reduceIte,reduceCtorEq,ya,xz,xu] at p1
          simp only [hL2,h5,l1,l2,he1,p1,kB,kC,cellsOf,kE,xn,xi,xm,xe,xf,xg,xh,xl,xk,xj,reduceIte,reduceCtorEq,ya,xz,xu]
          have hsm : (U.sizes.length : Int)≤16:=by
            unfold limitsU at hlim
            simp at hlim
            omega
          refine cutG (mS (mB m0)) [1,5] (fun _=>badSize U.sizes[i] = false) ?_ ?_
          · have hbad : badSize U.sizes[i] = true→findU U = (2,0,0):=fun hb=>by
              have : U.sizes.any badSize = true:=List.any_eq_true.2 ⟨_,List.getElem_mem hi,hb⟩
              unfold findU
              simp only [hlim,this,Bool.false_eq_true,if_false,if_true]
            unfold badSize at hbad ⊢
            repeat' first | (refine gO_t ?_ ?_<;>(intro hc; simp only [*,kB,kC,cellsOf,kE,xn,xi,xm,xe,xf,xg,xh,xl,xk,xj,reduceIte,reduceCtorEq,ya,xz,xu])) | (refine gO_f ?_ ?_<;>(intro hc; simp only [*,kB,kC,cellsOf,kE,xn,xi,xm,xe,xf,xg,xh,xl,xk,xj,reduceIte,reduceCtorEq,ya,xz,xu])) | (refine condO_intro ?_ ?_<;>(intro hc; simp only [*,kB,kC,cellsOf,kE,xn,xi,xm,xe,xf,xg,xh,xl,xk,xj,reduceIte,reduceCtorEq,ya,xz,xu]))
            all_goals first
              | first | exact ⟨_,rfl⟩ | exact ⟨rfl,_,rfl⟩ | exact ⟨trivial,_,rfl⟩ | exact ⟨[],(List.append_nil _).symm⟩
              | fail
          · intro e hL3 hok
            simp only [kB,kC,cellsOf,kE,xn,xi,xm,xe,xf,xg,xh,xl,xk,xj,reduceIte,reduceCtorEq,ya,xz,xu] at hL3 ⊢
            simp only [hL2,h5] at hL3
            obtain ⟨g1,g5⟩:=hL3
            simp only [hL,g1,g5,kB,kC,cellsOf,kE,xn,xi,xm,xe,xf,xg,xh,xl,xk,xj,reduceIte,reduceCtorEq,ya,xz,xu]
            rw [wrap_small (by omega) (by omega)]
            refine ⟨m - 1,by omega,i + 1,by omega,by simp,fun j h1 hj=>?_⟩
            by_cases hji : j = i
            · subst hji; exact hok
            · exact hpre j (by omega) (by omega)
        · have hi : i = U.sizes.length:=by have:=of_decide_eq_false hc; omega
          simp only [hL2,hL,kB,kC,cellsOf,kE,xn,xi,xm,xe,xf,xg,xh,xl,xk,xj,reduceIte,reduceCtorEq,ya,xz,xu]
          rw [List.any_eq_false]
          intro x hx
          obtain ⟨j,hj,rfl⟩:=List.getElem_of_mem hx
          rw [hpre j hj (by omega)]
          decide
    · intro e hL2 hsz
      simp only [kB,kC,cellsOf,kE,xn,xi,xm,xe,xf,xg,xh,xl,xk,xj,reduceIte,reduceCtorEq,ya,xz,xu] at hL2 ⊢
      simp only [hL] at hL2
      simp only [hL2,kB,kC,cellsOf,kE,xn,xi,xm,xe,xf,xg,xh,xl,xk,xj,reduceIte,reduceCtorEq,ya,xz,xu]
      refine cutG (mS m0) [1] (fun _=>headU U = false) ?_ ?_
      · have hbad : headU U = true→findU U = (2,0,0):=fun hb=>by
          unfold findU
          simp only [hlim,hsz,hb,Bool.false_eq_true,if_false,if_true]
        unfold headU at hbad ⊢
        repeat' first | (refine callO_same (j_r07_EndA h _) ?_; simp only [*,kB,kC,cellsOf,kE,xn,xi,xm,xe,xf,xg,xh,xl,xk,xj,reduceIte,reduceCtorEq,ya,xz,xu]) | (refine callO_same (j_r07_EndTo h _) ?_; simp only [*,kB,kC,cellsOf,kE,xn,xi,xm,xe,xf,xg,xh,xl,xk,xj,reduceIte,reduceCtorEq,ya,xz,xu]) | (refine callO_same (j_r07_EndElse h _) ?_; simp only [*,kB,kC,cellsOf,kE,xn,xi,xm,xe,xf,xg,xh,xl,xk,xj,reduceIte,reduceCtorEq,ya,xz,xu]) | (refine callO_same (j_r07_there h _ _ _ _ _ _ _ _ hb) ?_; simp only [*,kB,kC,cellsOf,kE,xn,xi,xm,xe,xf,xg,xh,xl,xk,xj,reduceIte,reduceCtorEq,ya,xz,xu]) | (refine callO_same (j_r07_register h _ _ _ _ _ _ _) ?_; simp only [*,kB,kC,cellsOf,kE,xn,xi,xm,xe,xf,xg,xh,xl,xk,xj,reduceIte,reduceCtorEq,ya,xz,xu]) | (refine callO_same (j_r07_Array h _) ?_; simp only [*,kB,kC,cellsOf,kE,xn,xi,xm,xe,xf,xg,xh,xl,xk,xj,reduceIte,reduceCtorEq,ya,xz,xu]) | (refine callO_same (j_r07_Cell h _) ?_; simp only [*,kB,kC,cellsOf,kE,xn,xi,xm,xe,xf,xg,xh,xl,xk,xj,reduceIte,reduceCtorEq,ya,xz,xu]) | (refine callO_same (j_r07_HasN h _) ?_; simp only [*,kB,kC,cellsOf,kE,xn,xi,xm,xe,xf,xg,xh,xl,xk,xj,reduceIte,reduceCtorEq,ya,xz,xu]) | first | (refine gO_t ?_ ?_<;>(intro hc; simp only [*,kB,kC,cellsOf,kE,xn,xi,xm,xe,xf,xg,xh,xl,xk,xj,reduceIte,reduceCtorEq,ya,xz,xu])) | (refine gO_f ?_ ?_<;>(intro hc; simp only [*,kB,kC,cellsOf,kE,xn,xi,xm,xe,xf,xg,xh,xl,xk,xj,reduceIte,reduceCtorEq,ya,xz,xu])) | (refine condO_intro ?_ ?_<;>(intro hc; simp only [*,kB,kC,cellsOf,kE,xn,xi,xm,xe,xf,xg,xh,xl,xk,xj,reduceIte,reduceCtorEq,ya,xz,xu]))
        all_goals first
          | first | exact ⟨_,rfl⟩ | exact ⟨rfl,_,rfl⟩ | exact ⟨trivial,_,rfl⟩ | exact ⟨[],(List.append_nil _).symm⟩
          | fail
      · intro e hL3 hhd
        simp only [kB,kC,cellsOf,kE,xn,xi,xm,xe,xf,xg,xh,xl,xk,xj,reduceIte,reduceCtorEq,ya,xz,xu] at hL3 ⊢
        simp only [hL2] at hL3
        have hval : findU U = match blkFind U 0 U.blocks with
            | some x=>x
            | none=>if decide (20000 < (total U.blocks : Int)) then (3,0,0) else (0,0,0):=by
          unfold findU
          simp only [hlim,hsz,hhd,Bool.false_eq_true,if_false]
        have hnb : (U.blocks.length : Int)≤2000:=by
          unfold limitsU at hlim
          simp at hlim
          omega
        refine growLoop (mB m0) [1] (fun e=>blkFind U 0 U.blocks = none∧e 6 = iA (total U.blocks)) ?_ ?_
        · refine loop_grow [1] (fun m e=>∃ i : Nat,i + m = U.blocks.length∧e 7 = iA i∧e 6 = iA (total (U.blocks.take i))∧total (U.blocks.take i)≤400 * i∧blkFind U i (U.blocks.drop i) = blkFind U 0 U.blocks) U.blocks.length ?_ ?_
          · exact ⟨0,by omega,by simp only [kB,kC,cellsOf,kE,xn,xi,xm,xe,xf,xg,xh,xl,xk,xj,reduceIte,reduceCtorEq,ya,xz,xu],by simp only [kB,kC,cellsOf,kE,xn,xi,xm,xe,xf,xg,xh,xl,xk,xj,reduceIte,reduceCtorEq,ya,xz,xu]; rfl,by simp [total],rfl⟩
          · intro m e s1 hE hL4 ⟨i,him,h7,h6,htot,hfind⟩
            simp only [kB,kC,cellsOf,kE,xn,xi,xm,xe,xf,xg,xh,xl,xk,xj,reduceIte,reduceCtorEq,ya,xz,xu] at hL4
            simp only [hL3] at hL4
            have hbox1:=hbox.ext hE
            obtain ⟨f,hb1,hbo⟩:=hb0.ext hE
            have x1:=hbox1.at1
            have xN:=hbox1.atN
            simp only [hL4,h7,x1,l2,kB,kC,cellsOf,kE,xn,xi,xm,xe,xf,xg,xh,xl,xk,xj,reduceIte,reduceCtorEq,ya,xz,xu]
            refine condO_intro ?_ ?_<;>intro hc<;>simp only [kB,kC,cellsOf,kE,xn,xi,xm,xe,xf,xg,xh,xl,xk,xj,reduceIte,reduceCtorEq,ya,xz,xu]
            · have hi : i < U.blocks.length:=by have:=of_decide_eq_true hc; omega
              obtain ⟨b1,o1,he1,hn1,_,_⟩:=hb1.get i (by simpa using hi)
              simp only [List.getElem_mapIdx,BlkV.row] at hn1
              have hcell:=isCell_len (hbo i hi).len
              have l3:=(hbo i hi).len
              simp only [List.length_map] at l3
              rw [List.drop_eq_getElem_cons hi] at hfind
              simp only [blkFind] at hfind
              simp only [hL4,h7,x1,l2,he1,hn1,hcell,l3,kB,kC,cellsOf,kE,xn,xi,xm,xe,xf,xg,xh,xl,xk,xj,reduceIte,reduceCtorEq,ya,xz,xu]
              have hgo : ∀ L : St,∃ m,s1++L = st++m:=fun L=>((Ext.of st _).trans hE).app L
              have hbad : (decide (U.blocks[i].catch_ < -1) || decide ((U.blocks.length : Int)≤U.blocks[i].catch_)) = true→findU U = (2,(i : Int),(U.blocks[i].ops.length : Int)):=fun hb=>by
                rw [hval,← hfind]
                simp only [hb,if_true]
              refine cutG (mS m0) [1,6,7,8] (fun _=>(decide (U.blocks[i].catch_ < -1) || decide ((U.blocks.length : Int)≤U.blocks[i].catch_)) = false) ?_ ?_
              · clear hfind hval
                repeat' first | (refine gO_t ?_ ?_<;>(intro hc; simp only [*,kB,kC,cellsOf,kE,xn,xi,xm,xe,xf,xg,xh,xl,xk,xj,reduceIte,reduceCtorEq,ya,xz,xu])) | (refine gO_f ?_ ?_<;>(intro hc; simp only [*,kB,kC,cellsOf,kE,xn,xi,xm,xe,xf,xg,xh,xl,xk,xj,reduceIte,reduceCtorEq,ya,xz,xu])) | (refine condO_intro ?_ ?_<;>(intro hc; simp only [*,kB,kC,cellsOf,kE,xn,xi,xm,xe,xf,xg,xh,xl,xk,xj,reduceIte,reduceCtorEq,ya,xz,xu]))
                all_goals first
                  | exact hgo _
                  | exact ⟨rfl,hgo _⟩
                  | fail
              · intro e5 hL5 hcat
                simp only [hcat,Bool.false_eq_true,if_false] at hfind
                clear hbad
                simp only [kB,kC,cellsOf,kE,xn,xi,xm,xe,xf,xg,xh,xl,xk,xj,reduceIte,reduceCtorEq,ya,xz,xu] at hL5 ⊢
                simp only [hL4,h6,h7] at hL5
                obtain ⟨g1,g6,g7,g8⟩:=hL5
                simp only [g1,g6,g7,g8,l3,kB,kC,cellsOf,kE,xn,xi,xm,xe,xf,xg,xh,xl,xk,xj,reduceIte,reduceCtorEq,ya,xz,xu]
                refine condO_intro ?_ ?_<;>intro hc4
                · have : findU U = (3,(i : Int),(U.blocks[i].ops.length : Int)):=by
                    rw [hval,← hfind]
                    simp only [hc4,if_true]
                  simp only [g1,g6,g7,g8,l3,this,kB,kC,cellsOf,kE,xn,xi,xm,xe,xf,xg,xh,xl,xk,xj,reduceIte,reduceCtorEq,ya,xz,xu]
                  exact hgo _
                · simp only [hc4,Bool.false_eq_true,if_false] at hfind
                  have hle : U.blocks[i].ops.length≤400:=by have:=of_decide_eq_false hc4; omega
                  simp only [g1,g6,g7,g8,l3,kB,kC,cellsOf,kE,xn,xi,xm,xe,xf,xg,xh,xl,xk,xj,reduceIte,reduceCtorEq,ya,xz,xu]
                  rw [wrap_small (by omega) (by omega)]
                  refine cutLoop (mB m0) [1,6,7,8] (fun _=>opsFind U i 0 U.blocks[i].ops = none) ?_ ?_
                  · refine loop_live [1,6,7,8] (fun m e=>∃ k : Nat,k + m = U.blocks[i].ops.length∧e 9 = iA k∧opsFind U i k (U.blocks[i].ops.drop k) = opsFind U i 0 U.blocks[i].ops) U.blocks[i].ops.length ?_ ?_
                    · exact ⟨0,by omega,by simp only [kB,kC,cellsOf,kE,xn,xi,xm,xe,xf,xg,xh,xl,xk,xj,reduceIte,reduceCtorEq,ya,xz,xu],rfl⟩
                    · intro m e hL6 ⟨k,hk,h9,hof⟩
                      simp only [kB,kC,cellsOf,kE,xn,xi,xm,xe,xf,xg,xh,xl,xk,xj,reduceIte,reduceCtorEq,ya,xz,xu] at hL6
                      simp only [g1,g7,g8] at hL6
                      obtain ⟨q1,q6,q7,q8⟩:=hL6
                      simp only [q1,q6,q7,q8,h9,l3,kB,kC,cellsOf,kE,xn,xi,xm,xe,xf,xg,xh,xl,xk,xj,reduceIte,reduceCtorEq,ya,xz,xu]
                      refine condO_intro ?_ ?_<;>intro hc6<;>simp only [kB,kC,cellsOf,kE,xn,xi,xm,xe,xf,xg,xh,xl,xk,xj,reduceIte,reduceCtorEq,ya,xz,xu]
                      · have hk2 : k < U.blocks[i].ops.length:=by have:=of_decide_eq_true hc6; omega
                        obtain ⟨b2,o2,he2,hn2,_,_⟩:=(hbo i hi).get k (by simpa using hk2)
                        simp only [List.getElem_map,OpV.row] at hn2
                        rw [List.drop_eq_getElem_cons hk2] at hof
                        simp only [opsFind] at hof
                        simp only [q1,q6,q7,q8,h9,l3,x1,xN,he2,hn2,kB,kC,cellsOf,kE,xn,xi,xm,xe,xf,xg,xh,xl,xk,xj,reduceIte,reduceCtorEq,ya,xz,xu]
                        refine callO_same (j_r07_op h s _ _ bl _ _ l1 l2 _ _ _ _ _ _ _ _ _) ?_
                        simp only [q1,q6,q7,q8,h9,l3,kB,kC,cellsOf,kE,xn,xi,xm,xe,xf,xg,xh,xl,xk,xj,reduceIte,reduceCtorEq,ya,xz,xu]
                        refine condO_intro ?_ ?_<;>intro hc7
                        · have hx : opsFind U i 0 U.blocks[i].ops = some (opErrU U (U.blocks[i].ops)[k],(i : Int),(k : Int)):=by
                            rw [←hof]
                            exact if_pos hc7
                          rw [hx] at hfind
                          simp only at hfind
                          have : findU U = (opErrU U (U.blocks[i].ops)[k],(i : Int),(k : Int)):=by rw [hval,← hfind]
                          simp only [q1,q6,q7,q8,h9,this,kB,kC,cellsOf,kE,xn,xi,xm,xe,xf,xg,xh,xl,xk,xj,reduceIte,reduceCtorEq,ya,xz,xu]
                          first
                            | exact hgo _
                            | exact ⟨rfl,hgo _⟩
                        · have hx : opsFind U i (k + 1) ((U.blocks[i].ops).drop (k + 1)) = opsFind U i 0 U.blocks[i].ops:=by
                            rw [←hof]
                            refine (if_neg ?_).symm
                            show ¬ (decide (opErrU U (U.blocks[i].ops)[k]≠0) = true)
                            intro hd
                            rw [show decide (opErrU U (U.blocks[i].ops)[k]≠0) = false from hc7] at hd
                            cases hd
                          simp only [q1,q6,q7,q8,g1,g7,g8,h9,kB,kC,cellsOf,kE,xn,xi,xm,xe,xf,xg,xh,xl,xk,xj,reduceIte,reduceCtorEq,ya,xz,xu]
                          rw [wrap_small (by omega) (by omega)]
                          exact ⟨m - 1,by omega,k + 1,by omega,by simp,hx⟩
                      · have hk2 : k = U.blocks[i].ops.length:=by have:=of_decide_eq_false hc6; omega
                        simp only [q1,q6,q7,q8,g1,g7,g8,kB,kC,cellsOf,kE,xn,xi,xm,xe,xf,xg,xh,xl,xk,xj,reduceIte,reduceCtorEq,ya,xz,xu]
                        rw [←hof,List.drop_eq_nil_of_le (by omega)]
                        rfl
                  · intro e6 hL6 hnone
                    simp only [kB,kC,cellsOf,kE,xn,xi,xm,xe,xf,xg,xh,xl,xk,xj,reduceIte,reduceCtorEq,ya,xz,xu] at hL6 ⊢
                    simp only [g1,g7,g8] at hL6
                    obtain ⟨q1,q6,q7,q8⟩:=hL6
                    rw [hnone] at hfind
                    simp only at hfind
                    simp only [q1,q6,q7,q8,x1,xN,kB,kC,cellsOf,kE,xn,xi,xm,xe,xf,xg,xh,xl,xk,xj,reduceIte,reduceCtorEq,ya,xz,xu]
                    refine callO_same (j_r07_end h s _ _ _ bl _ l2 _ _ _ _ _) ?_
                    simp only [q1,q6,q7,q8,l3,kB,kC,cellsOf,kE,xn,xi,xm,xe,xf,xg,xh,xl,xk,xj,reduceIte,reduceCtorEq,ya,xz,xu]
                    refine condO_intro ?_ ?_<;>intro hc7
                    · have hd : decide (endErrU U U.blocks[i].e≠0) = true:=hc7
                      have : findU U = (endErrU U U.blocks[i].e,(i : Int),(U.blocks[i].ops.length : Int)):=by
                        rw [hval,← hfind]
                        simp only [hd,if_true]
                      simp only [q1,q6,q7,q8,l3,this,kB,kC,cellsOf,kE,xn,xi,xm,xe,xf,xg,xh,xl,xk,xj,reduceIte,reduceCtorEq,ya,xz,xu]
                      first
                        | exact hgo _
                        | exact ⟨rfl,hgo _⟩
                    · have hd : decide (endErrU U U.blocks[i].e≠0) = false:=hc7
                      simp only [hd,Bool.false_eq_true,if_false] at hfind
                      simp only [q1,q6,q7,q8,hL3,kB,kC,cellsOf,kE,xn,xi,xm,xe,xf,xg,xh,xl,xk,xj,reduceIte,reduceCtorEq,ya,xz,xu]
                      rw [wrap_small (by omega) (by omega)]
                      have htk : total (U.blocks.take (i + 1)) = total (U.blocks.take i) + U.blocks[i].ops.length:=by
                        unfold total
                        rw [List.take_succ_eq_append_getElem hi]
                        simp only [List.map_append,List.map_cons,List.map_nil,List.sum_append,List.sum_cons,List.sum_nil,Nat.add_zero]
                      exact ⟨m - 1,by omega,hE.app _,i + 1,by omega,by simp,by rw [htk]; simp,by omega,hfind⟩
            · have hi : i = U.blocks.length:=by have:=of_decide_eq_false hc; omega
              have h1 : U.blocks.take i = U.blocks:=List.take_of_length_le (by omega)
              have h2 : U.blocks.drop i = []:=List.drop_eq_nil_of_le (by omega)
              rw [h1] at h6
              rw [h2] at hfind
              simp only [hL4,hL3,h6,kB,kC,cellsOf,kE,xn,xi,xm,xe,xf,xg,xh,xl,xk,xj,reduceIte,reduceCtorEq,ya,xz,xu]
              exact ⟨hE.app _,hfind.symm⟩
        · intro e s1 hE hL4 ⟨hnone,h6⟩
          rw [hnone] at hval
          simp only at hval
          have hgo : ∀ L : St,∃ m,s1++L = st++m:=fun L=>((Ext.of st _).trans hE).app L
          simp only [h6,kB,kC,cellsOf,kE,xn,xi,xm,xe,xf,xg,xh,xl,xk,xj,reduceIte,reduceCtorEq,ya,xz,xu]
          refine condO_intro ?_ ?_<;>intro hc
          · simp only [hval,hc,if_true,kB,kC,cellsOf,kE,xn,xi,xm,xe,xf,xg,xh,xl,xk,xj,reduceIte,reduceCtorEq,ya,xz,xu]
            first
              | exact hgo _
              | exact ⟨rfl,hgo _⟩
          · simp only [hval,hc,Bool.false_eq_true,if_false,kB,kC,cellsOf,kE,xn,xi,xm,xe,xf,xg,xh,xl,xk,xj,reduceIte,reduceCtorEq,ya,xz,xu]
            first
              | exact hgo _
              | exact ⟨rfl,hgo _⟩
end
end Go.VX.Seat
end
section
set_option maxRecDepth 4000
namespace Go.VX.Seat
open Go.Proofs
section
variable {X : Cx} {st : St}
def chkU (U : UnitV) : Int:=(findU U).1
theorem j_r07_Check (h : On X) {lo hi : Nat} {v : AV} {U : UnitV} (hv : UnitAt st lo hi v U) :
    J X.P X.F X.H (.call 11 [v] st (.ret (iA (chkU U))) st):=by
  refine pure_intro (by rw [h.F]; rfl) rfl ?_
  have hm:=fun L=>hv.mono L
  obtain ⟨s,bl,rfl,hs,hb⟩:=hv
  simp only [v_r07_Check,kB,kC,cellsOf,kE,Nat.reduceSub,Int.reduceToNat,Nat.reduceMul,Int.reduceAdd,Int.reduceLE,Int.reduceLT,Int.reduceNeg,Nat.reduceLeDiff,Nat.reduceEqDiff,Nat.reduceAdd,reduceIte,reduceCtorEq,splice,resOf,cellVal]
  refine callO_same (j_r07_Find h (hm _)) ?_
  simp only [kB,kC,cellsOf,kE,Nat.reduceSub,Int.reduceToNat,Nat.reduceMul,Int.reduceAdd,Int.reduceLE,Int.reduceLT,Int.reduceNeg,Nat.reduceLeDiff,Nat.reduceEqDiff,Nat.reduceAdd,reduceIte,reduceCtorEq,splice,resOf,cellVal]
  exact ⟨rfl,_,rfl⟩
end
end Go.VX.Seat
end
section
set_option maxRecDepth 4000
namespace Go.VX.Seat
open Go.Proofs
def outC (blk at_ e : Int) : CRes:=if decide (e≠0) then .pan (.iface 103 (.agg [iA blk,iA at_,iA e])) else .ret (.tup [])
theorem outC_flat (blk at_ e : Int) : (outC blk at_ e).flat = true:=by
  unfold outC
  split<;>rfl
theorem outC_zero (blk at_ : Int) : outC blk at_ 0 = .ret (.tup []):=rfl
theorem outC_ne {blk at_ e : Int} (h : e≠0) : outC blk at_ e = .pan (.iface 103 (.agg [iA blk,iA at_,iA e])):=by
  unfold outC
  simp [h]
theorem out_intro {X : Cx} {st : St} {f : FuncId} {fn : VFun} {args : List AV} {r : CRes} (hF : X.F f = some fn) (hr : r.flat = true) (h : xC X fn.body (envOf args) (st++[]) (bodK fn.res fun r' s=>r' = r∧∃ m,s = st++m)) : J X.P X.F X.H (.call f args st r st):=by
  rw [List.append_nil] at h
  obtain ⟨r',s,j,rfl,m,rfl⟩:=wpF_intro hF h
  exact .forget j hr
theorem callO_out {X : Cx} {env : Env} {st : St} {Q : Post3} {K : Env→St→Post3→Prop} {f : FuncId} {args : List AV} {blk at_ e : Int} {dst : Option Nat} {keep : List VOpd} (h : J X.P X.F X.H (.call f args st (outC blk at_ e) st)) (h1 : e = 0→K (env.put dst (.tup [])) st Q) (h2 : e≠0→Q (.pan (.iface 103 (.agg [iA blk,iA at_,iA e]))) env st) : callO X f args dst keep K env st Q:=by
  by_cases he : e = 0
  · subst he
    exact callO_same h (h1 rfl)
  · rw [outC_ne he] at h
    exact callO_pan h (h2 he)
section
variable {X : Cx} {st : St}
theorem j_code_within (h : On X) (n size : Int) : J X.P X.F X.H (.call 67 [iA n,iA size] st (.ret (bA (regOkA size n))) st):=by
  refine pure_intro (by rw [h.F]; rfl) rfl ?_
  unfold regOkA
  simp only [v_code_within,kB,kC,cellsOf,kE,xn,xi,xm,xe,xf,xg,xh,xl,xk,xj,reduceIte,reduceCtorEq,ya,xz,xu]
  repeat' first | (refine gO_t ?_ ?_<;>(intro hc; simp only [*,kB,kC,cellsOf,kE,xn,xi,xm,xe,xf,xg,xh,xl,xk,xj,reduceIte,reduceCtorEq,ya,xz,xu])) | (refine gO_f ?_ ?_<;>(intro hc; simp only [*,kB,kC,cellsOf,kE,xn,xi,xm,xe,xf,xg,xh,xl,xk,xj,reduceIte,reduceCtorEq,ya,xz,xu])) | (refine condO_intro ?_ ?_<;>(intro hc; simp only [*,kB,kC,cellsOf,kE,xn,xi,xm,xe,xf,xg,xh,xl,xk,xj,reduceIte,reduceCtorEq,ya,xz,xu]))
  all_goals first | exact ⟨_,rfl⟩ | exact ⟨rfl,_,rfl⟩ | exact ⟨trivial,_,rfl⟩ | exact ⟨[],(List.append_nil _).symm⟩
theorem j_code_must (h : On X) {cb : Nat} {s bl : AV} {p r cd sp blk at_ : Int} (hc : BoxAt st cb [s,iA p,iA r,iA cd,iA sp,bl,iA blk,iA at_]) (ok : Bool) (e : Int) (he : e≠0) :
    J X.P X.F X.H (.call 108 [.ptr cb 0,bA ok,iA e] st (outC blk at_ (if ok then 0 else e)) st):=by
  refine out_intro (by rw [h.F]; rfl) (outC_flat _ _ _) ?_
  have x1:=hc.at1
  simp only [v_code_checker_must,kB,kC,cellsOf,kE,xn,xi,xm,xe,xf,xg,xh,xl,xk,xj,reduceIte,reduceCtorEq,ya,xz,xu]
  refine condO_intro ?_ ?_<;>intro hq
  · have hok : ok = false:=by simpa using hq
    subst hok
    simp only [x1,outC_ne he,kB,kC,cellsOf,kE,xn,xi,xm,xe,xf,xg,xh,xl,xk,xj,reduceIte,reduceCtorEq,ya,xz,xu]
    first | exact ⟨_,rfl⟩ | exact ⟨rfl,_,rfl⟩ | exact ⟨trivial,_,rfl⟩ | exact ⟨[],(List.append_nil _).symm⟩
  · have hok : ok = true:=by simpa using hq
    subst hok
    simp only [outC_zero,kB,kC,cellsOf,kE,xn,xi,xm,xe,xf,xg,xh,xl,xk,xj,reduceIte,reduceCtorEq,ya,xz,xu]
    first | exact ⟨_,rfl⟩ | exact ⟨rfl,_,rfl⟩ | exact ⟨trivial,_,rfl⟩ | exact ⟨[],(List.append_nil _).symm⟩
theorem j_code_reg (h : On X) {cb : Nat} {s bl : AV} {p rg cd sp blk at_ : Int} (hc : BoxAt st cb [s,iA p,iA rg,iA cd,iA sp,bl,iA blk,iA at_]) (r : Int) (used : Bool) :
    J X.P X.F X.H (.call 128 [.ptr cb 0,iA r,bA used] st (outC blk at_ (if used && !regOkA rg r then 2 else 0)) st):=by
  refine out_intro (by rw [h.F]; rfl) (outC_flat _ _ _) ?_
  have x1:=hc.at1
  simp only [v_code_checker_reg,kB,kC,cellsOf,kE,xn,xi,xm,xe,xf,xg,xh,xl,xk,xj,reduceIte,reduceCtorEq,ya,xz,xu]
  refine gO_f ?_ ?_<;>intro hq
  · have hu : used = false:=by simpa using hq
    subst hu
    simp only [x1,kB,kC,cellsOf,kE,xn,xi,xm,xe,xf,xg,xh,xl,xk,xj,reduceIte,reduceCtorEq,ya,xz,xu]
    refine callO_out (j_code_must h (hc.ext (Ext.of _ _)) true 2 (by decide)) ?_ ?_<;>intro he
    · simp only [outC_zero,kB,kC,cellsOf,kE,xn,xi,xm,xe,xf,xg,xh,xl,xk,xj,reduceIte,reduceCtorEq,ya,xz,xu]
      first | exact ⟨_,rfl⟩ | exact ⟨rfl,_,rfl⟩ | exact ⟨trivial,_,rfl⟩ | exact ⟨[],(List.append_nil _).symm⟩
    · exact absurd rfl he
  · have hu : used = true:=by simpa using hq
    subst hu
    simp only [x1,kB,kC,cellsOf,kE,xn,xi,xm,xe,xf,xg,xh,xl,xk,xj,reduceIte,reduceCtorEq,ya,xz,xu]
    refine callO_same (j_code_within h _ _) ?_
    simp only [x1,kB,kC,cellsOf,kE,xn,xi,xm,xe,xf,xg,xh,xl,xk,xj,reduceIte,reduceCtorEq,ya,xz,xu]
    refine callO_out (j_code_must h (hc.ext (Ext.of _ _)) (regOkA rg r) 2 (by decide)) ?_ ?_<;>intro he
    · have hk : regOkA rg r = true:=by
        by_cases hk : regOkA rg r = true
        · exact hk
        · simp [hk] at he
      simp only [hk,outC_zero,kB,kC,cellsOf,kE,xn,xi,xm,xe,xf,xg,xh,xl,xk,xj,reduceIte,reduceCtorEq,ya,xz,xu]
      first | exact ⟨_,rfl⟩ | exact ⟨rfl,_,rfl⟩ | exact ⟨trivial,_,rfl⟩ | exact ⟨[],(List.append_nil _).symm⟩
    · have hk : regOkA rg r = false:=by
        by_cases hk : regOkA rg r = true
        · simp [hk] at he
        · simpa using hk
      simp only [hk,outC_ne (e:=2) (by decide),kB,kC,cellsOf,kE,xn,xi,xm,xe,xf,xg,xh,xl,xk,xj,reduceIte,reduceCtorEq,ya,xz,xu]
      first | exact ⟨_,rfl⟩ | exact ⟨rfl,_,rfl⟩ | exact ⟨trivial,_,rfl⟩ | exact ⟨[],(List.append_nil _).symm⟩
end
end Go.VX.Seat
end
section
set_option maxRecDepth 4000
namespace Go.VX.Seat
open Go.Proofs
def usesL : List Int:=[17,3,7,7,7,7,7,7,7,7,7,15,7,7,7,35,38,65,66,2,130,2,7,7,35]
def classL : List Int:=[0,0,0,0,0,0,0,0,0,0,0,0,1,1,1,2,2,2,2,3,3,3,1,1,2]
def nameL : List ByteArray:=[⟨#[99,111,110,115,116]⟩,⟨#[109,111,118,101]⟩,⟨#[97,100,100]⟩,⟨#[115,117,98]⟩,⟨#[97,110,100]⟩,⟨#[111,114]⟩,⟨#[120,111,114]⟩,⟨#[115,104,108]⟩,⟨#[115,104,114]⟩,⟨#[108,101,115,115]⟩,⟨#[101,113,117,97,108]⟩,⟨#[112,105,99,107]⟩,⟨#[109,117,108]⟩,⟨#[100,105,118]⟩,⟨#[114,101,109]⟩,⟨#[108,111,97,100]⟩,⟨#[115,116,111,114,101]⟩,⟨#[102,101,116,99,104]⟩,⟨#[107,101,101,112]⟩,⟨#[112,114,105,110,116]⟩,⟨#[101,120,105,116]⟩,⟨#[99,104,101,99,107]⟩,⟨#[100,105,118,115]⟩,⟨#[114,101,109,115]⟩,⟨#[108,111,97,100,115]⟩]
def formCells : List AV:=[iA 17,iA 0,.sc (.string ⟨#[99,111,110,115,116]⟩),iA 3,iA 0,.sc (.string ⟨#[109,111,118,101]⟩),iA 7,iA 0,.sc (.string ⟨#[97,100,100]⟩),iA 7,iA 0,.sc (.string ⟨#[115,117,98]⟩),iA 7,iA 0,.sc (.string ⟨#[97,110,100]⟩),iA 7,iA 0,.sc (.string ⟨#[111,114]⟩),iA 7,iA 0,.sc (.string ⟨#[120,111,114]⟩),iA 7,iA 0,.sc (.string ⟨#[115,104,108]⟩),iA 7,iA 0,.sc (.string ⟨#[115,104,114]⟩),iA 7,iA 0,.sc (.string ⟨#[108,101,115,115]⟩),iA 7,iA 0,.sc (.string ⟨#[101,113,117,97,108]⟩),iA 15,iA 0,.sc (.string ⟨#[112,105,99,107]⟩),iA 7,iA 1,.sc (.string ⟨#[109,117,108]⟩),iA 7,iA 1,.sc (.string ⟨#[100,105,118]⟩),iA 7,iA 1,.sc (.string ⟨#[114,101,109]⟩),iA 35,iA 2,.sc (.string ⟨#[108,111,97,100]⟩),iA 38,iA 2,.sc (.string ⟨#[115,116,111,114,101]⟩),iA 65,iA 2,.sc (.string ⟨#[102,101,116,99,104]⟩),iA 66,iA 2,.sc (.string ⟨#[107,101,101,112]⟩),iA 2,iA 3,.sc (.string ⟨#[112,114,105,110,116]⟩),iA 130,iA 3,.sc (.string ⟨#[101,120,105,116]⟩),iA 2,iA 3,.sc (.string ⟨#[99,104,101,99,107]⟩),iA 7,iA 1,.sc (.string ⟨#[100,105,118,115]⟩),iA 7,iA 1,.sc (.string ⟨#[114,101,109,115]⟩),iA 35,iA 2,.sc (.string ⟨#[108,111,97,100,115]⟩)]
theorem form_row : ∀ j : Nat,j < 25→(formCells.drop (0 + j * 3)).take 3 = [iA (usesL.getD j 0),iA (classL.getD j 0),.sc (.string (nameL.getD j ⟨#[]⟩))]
  | 0,_=>rfl
  | 1,_=>rfl
  | 2,_=>rfl
  | 3,_=>rfl
  | 4,_=>rfl
  | 5,_=>rfl
  | 6,_=>rfl
  | 7,_=>rfl
  | 8,_=>rfl
  | 9,_=>rfl
  | 10,_=>rfl
  | 11,_=>rfl
  | 12,_=>rfl
  | 13,_=>rfl
  | 14,_=>rfl
  | 15,_=>rfl
  | 16,_=>rfl
  | 17,_=>rfl
  | 18,_=>rfl
  | 19,_=>rfl
  | 20,_=>rfl
  | 21,_=>rfl
  | 22,_=>rfl
  | 23,_=>rfl
  | 24,_=>rfl
  | j + 25,h=>absurd h (by omega)
def usesK (k : Int) : Int:=if oneK k then usesL.getD (k - 1).toNat 0 else 0
def classK (k : Int) : Int:=if oneK k then classL.getD (k - 1).toNat 0 else 0
def nameK (k : Int) : ByteArray:=if oneK k then nameL.getD (k - 1).toNat ⟨#[]⟩ else ⟨#[]⟩
def GlobAt (st : St) : Prop:=BoxAt st 0 formCells
section
variable {X : Cx} {st : St}
theorem j_code_of (h : On X) (hg : GlobAt st) (k : Int) : J X.P X.F X.H (.call 55 [iA k] st (.ret (.tup [.agg [iA (usesK k),iA (classK k),.sc (.string (nameK k))],bA (oneK k)])) st):=by
  refine pure_intro (by rw [h.F]; rfl) rfl ?_
  simp only [v_code_of,kB,kC,cellsOf,kE,xn,xi,xm,xe,xf,xg,xh,xl,xk,xj,reduceIte,reduceCtorEq,ya,xz,xu]
  refine cutG (mS m0) [0,2] (fun _=>oneK k = true) ?_ ?_
  · have hk : (decide (k < 1) || decide (25 < k)) = !oneK k:=by
      unfold oneK
      by_cases h1 : k < 1<;>by_cases h2 : 25 < k<;>simp [h1,h2]<;>omega
    by_cases ho : oneK k = true
    · have hk2 : decide (k < 1) = false∧decide (25 < k) = false:=by
        rw [ho] at hk
        simpa using hk
      simp only [hk2.1,hk2.2,ho,kB,kC,cellsOf,kE,xn,xi,xm,xe,xf,xg,xh,xl,xk,xj,reduceIte,reduceCtorEq,ya,xz,xu]
    · have ho : oneK k = false:=by simpa using ho
      unfold usesK classK nameK
      rw [ho] at hk
      simp only [ho]
      refine gO_f ?_ ?_<;>intro hq<;>simp only [hq,kB,kC,cellsOf,kE,xn,xi,xm,xe,xf,xg,xh,xl,xk,xj,reduceIte,reduceCtorEq,ya,xz,xu]
      · first | exact ⟨_,rfl⟩ | exact ⟨rfl,_,rfl⟩ | exact ⟨trivial,_,rfl⟩ | exact ⟨[],(List.append_nil _).symm⟩
      · have h2 : decide (25 < k) = true:=by
          rw [hq] at hk
          simpa using hk
        simp only [h2,kB,kC,cellsOf,kE,xn,xi,xm,xe,xf,xg,xh,xl,xk,xj,reduceIte,reduceCtorEq,ya,xz,xu]
        first | exact ⟨_,rfl⟩ | exact ⟨rfl,_,rfl⟩ | exact ⟨trivial,_,rfl⟩ | exact ⟨[],(List.append_nil _).symm⟩
  · intro e hL ho
    simp only [kB,kC,cellsOf,kE,xn,xi,xm,xe,xf,xg,xh,xl,xk,xj,reduceIte,reduceCtorEq,ya,xz,xu] at hL ⊢
    obtain ⟨h0,h2⟩:=hL
    have hk : 1≤k∧k≤25:=by
      unfold oneK at ho
      simp at ho
      exact ho
    have hr:=form_row (k - 1).toNat (by omega)
    have hlen : formCells.length = 75:=rfl
    have xN:=fun L=>hg.atN L (0 + (k - 1).toNat * 3) 3 (by rw [hlen]; omega)
    rw [hr] at xN
    simp only [Nat.zero_add] at xN
    have hi1 : 0≤k - 1:=by omega
    have hi2 : k - 1 < 25:=by omega
    unfold usesK classK nameK
    simp only [h0,h2,kB,kC,cellsOf,kE,xn,xi,xm,xe,xf,xg,xh,xl,xk,xj,reduceIte,reduceCtorEq,ya,xz,xu]
    rw [wrap_small (by omega) (by omega)]
    simp only [hi1,hi2,xN,h0,h2,ho,kB,kC,cellsOf,kE,xn,xi,xm,xe,xf,xg,xh,xl,xk,xj,reduceIte,reduceCtorEq,ya,xz,xu]
    first | exact ⟨_,rfl⟩ | exact ⟨rfl,_,rfl⟩ | exact ⟨trivial,_,rfl⟩ | exact ⟨[],(List.append_nil _).symm⟩
end
end Go.VX.Seat
end
section
set_option maxRecDepth 4000
namespace Go.VX.Seat
open Go.Proofs
def andI (a b : Int) : Int:=IntKind.i64.wrap ((BitVec.ofInt 64 a &&& BitVec.ofInt 64 b).toNat : Int)
theorem c_and (P : Program) (t : TypeId) (a b : Int) (ox oy : Operand) : closed P (do eqGuard .and t ox oy (.int .i64 a) (.int .i64 b); binOp .and t (.int .i64 a) (.int .i64 b)) = some (.int .i64 (andI a b)):=rfl
def bitsOk (k : Int) : Bool :=
  (decide (andI (usesK k) 1≠0) == hasDst k) && (decide (andI (usesK k) 2≠0) == hasA k) && (decide (andI (usesK k) 4≠0) == hasB k) && (decide (andI (usesK k) 8≠0) == hasC k) &&
  (decide (andI (usesK k) 32≠0) == arrK k) && (decide (andI (usesK k) 64≠0) == cellK k) && (decide (andI (usesK k) 128≠0) == decide (k = 21)) && (decide (andI (usesK k) 16≠0) == decide (k = 1))
theorem bits_all : ∀ j : Fin 25,bitsOk ((j.val : Int) + 1) = true:=by decide +kernel
theorem bits {k : Int} (h : oneK k = true) : decide (andI (usesK k) 1≠0) = hasDst k∧decide (andI (usesK k) 2≠0) = hasA k∧decide (andI (usesK k) 4≠0) = hasB k∧decide (andI (usesK k) 8≠0) = hasC k ∧
    decide (andI (usesK k) 32≠0) = arrK k∧decide (andI (usesK k) 64≠0) = cellK k∧decide (andI (usesK k) 128≠0) = decide (k = 21)∧decide (andI (usesK k) 16≠0) = decide (k = 1):=by
  have hk : 1≤k∧k≤25:=by
    unfold oneK at h
    simp at h
    exact h
  have:=bits_all ⟨(k - 1).toNat,by omega⟩
  simp only at this
  rw [show (((k - 1).toNat : Nat) : Int) + 1 = k by omega] at this
  unfold bitsOk at this
  simp only [Bool.and_eq_true,beq_iff_eq] at this
  obtain ⟨⟨⟨⟨⟨⟨⟨a1,a2⟩,a3⟩,a4⟩,a5⟩,a6⟩,a7⟩,a8⟩:=this
  exact ⟨a1,a2,a3,a4,a5,a6,a7,a8⟩
theorem dec_eq_zero (x : Int) : decide (x = 0) = !decide (x≠0):=by by_cases h : x = 0<;>simp [h]
theorem if_ne {b : Bool} {e : Int} (h : (if b = true then e else 0)≠0) : b = true:=by cases b<;>simp_all
theorem if_eq {b : Bool} {e : Int} (he : e≠0) (h : (if b = true then e else 0) = 0) : b = false:=by cases b<;>simp_all
section
variable {X : Cx} {st : St}
set_option maxHeartbeats 4000000 in
theorem j_code_op (h : On X) (hg : GlobAt st) {cb : Nat} {s bl : AV} {ns nb : Nat} (l1 : lenA s = some ns) (l2 : lenA bl = some nb) {p rg cd sp blk at_ : Int} (hsp : 0≤sp) (hc : BoxAt st cb [s,iA p,iA rg,iA cd,iA sp,bl,iA blk,iA at_]) (k d a b c n g : Int) :
    J X.P X.F X.H (.call 111 [.ptr cb 0,.agg [iA k,iA d,iA a,iA b,iA c,iA n,iA g]] st (outC blk at_ (opErr ns nb rg sp k d a b c n g)) st):=by
  refine out_intro (by rw [h.F]; rfl) (outC_flat _ _ _) ?_
  have x1:=hc.at1
  simp only [v_code_checker_op,kB,kC,cellsOf,kE,xn,xi,xm,xe,xf,xg,xh,xl,xk,xj,reduceIte,reduceCtorEq,ya,xz,xu]
  refine callO_same (j_code_of h (hg.ext (Ext.of _ _)) k) ?_
  simp only [kB,kC,cellsOf,kE,xn,xi,xm,xe,xf,xg,xh,xl,xk,xj,reduceIte,reduceCtorEq,ya,xz,xu]
  refine callO_out (j_code_must h (hc.ext (Ext.of _ _)) (oneK k) 4 (by decide)) ?_ ?_<;>intro he
  case refine_2 =>
    have ho : oneK k = false:=by
      cases hk : oneK k
      · rfl
      · simp [hk] at he
    have : opErr ns nb rg sp k d a b c n g = 4:=by unfold opErr; simp [ho]
    simp only [this,ho,outC_ne (e:=4) (by decide),kB,kC,cellsOf,kE,xn,xi,xm,xe,xf,xg,xh,xl,xk,xj,reduceIte,reduceCtorEq,ya,xz,xu]
    first | exact ⟨_,rfl⟩ | exact ⟨rfl,_,rfl⟩ | exact ⟨trivial,_,rfl⟩ | exact ⟨[],(List.append_nil _).symm⟩
  have ho : oneK k = true:=by
    cases hk : oneK k
    · simp [hk] at he
    · rfl
  obtain ⟨t1,t2,t3,t4,t5,t6,t7,t8⟩:=bits ho
  simp only [c_and,t1,ho,kB,kC,cellsOf,kE,xn,xi,xm,xe,xf,xg,xh,xl,xk,xj,reduceIte,reduceCtorEq,ya,xz,xu]
  refine callO_out (j_code_reg h (hc.ext (Ext.of _ _)) d (hasDst k)) ?_ ?_<;>intro he
  case refine_2 =>
    have hq : (hasDst k && !regOkA rg d) = true:=if_ne he
    have : opErr ns nb rg sp k d a b c n g = 2:=by
      unfold opErr
      simp only [ho,hq,Bool.true_eq_false,if_false,Bool.true_or,Bool.or_true,Bool.false_or,Bool.or_false,Bool.false_eq_true,if_true,ite_self]
    simp only [hq,if_true,this,outC_ne (e:=2) (by decide),kB,kC,cellsOf,kE,xn,xi,xm,xe,xf,xg,xh,xl,xk,xj,reduceIte,reduceCtorEq,ya,xz,xu]
    first | exact ⟨_,rfl⟩ | exact ⟨rfl,_,rfl⟩ | exact ⟨trivial,_,rfl⟩ | exact ⟨[],(List.append_nil _).symm⟩
  have fd : (hasDst k && !regOkA rg d) = false:=if_eq (by decide) he
  simp only [c_and,t2,ho,kB,kC,cellsOf,kE,xn,xi,xm,xe,xf,xg,xh,xl,xk,xj,reduceIte,reduceCtorEq,ya,xz,xu]
  refine callO_out (j_code_reg h (hc.ext (Ext.of _ _)) a (hasA k)) ?_ ?_<;>intro he
  case refine_2 =>
    have hq : (hasA k && !regOkA rg a) = true:=if_ne he
    have : opErr ns nb rg sp k d a b c n g = 2:=by
      unfold opErr
      simp only [ho,hq,fd,Bool.true_eq_false,if_false,Bool.true_or,Bool.or_true,Bool.false_or,Bool.or_false,Bool.false_eq_true,if_true,ite_self]
    simp only [hq,if_true,this,outC_ne (e:=2) (by decide),kB,kC,cellsOf,kE,xn,xi,xm,xe,xf,xg,xh,xl,xk,xj,reduceIte,reduceCtorEq,ya,xz,xu]
    first | exact ⟨_,rfl⟩ | exact ⟨rfl,_,rfl⟩ | exact ⟨trivial,_,rfl⟩ | exact ⟨[],(List.append_nil _).symm⟩
  have fa : (hasA k && !regOkA rg a) = false:=if_eq (by decide) he
  simp only [c_and,t3,ho,kB,kC,cellsOf,kE,xn,xi,xm,xe,xf,xg,xh,xl,xk,xj,reduceIte,reduceCtorEq,ya,xz,xu]
  refine callO_out (j_code_reg h (hc.ext (Ext.of _ _)) b (hasB k)) ?_ ?_<;>intro he
  case refine_2 =>
    have hq : (hasB k && !regOkA rg b) = true:=if_ne he
    have : opErr ns nb rg sp k d a b c n g = 2:=by
      unfold opErr
      simp only [ho,hq,fd,fa,Bool.true_eq_false,if_false,Bool.true_or,Bool.or_true,Bool.false_or,Bool.or_false,Bool.false_eq_true,if_true,ite_self]
    simp only [hq,if_true,this,outC_ne (e:=2) (by decide),kB,kC,cellsOf,kE,xn,xi,xm,xe,xf,xg,xh,xl,xk,xj,reduceIte,reduceCtorEq,ya,xz,xu]
    first | exact ⟨_,rfl⟩ | exact ⟨rfl,_,rfl⟩ | exact ⟨trivial,_,rfl⟩ | exact ⟨[],(List.append_nil _).symm⟩
  have fb : (hasB k && !regOkA rg b) = false:=if_eq (by decide) he
  simp only [c_and,t4,ho,kB,kC,cellsOf,kE,xn,xi,xm,xe,xf,xg,xh,xl,xk,xj,reduceIte,reduceCtorEq,ya,xz,xu]
  refine callO_out (j_code_reg h (hc.ext (Ext.of _ _)) c (hasC k)) ?_ ?_<;>intro he
  case refine_2 =>
    have hq : (hasC k && !regOkA rg c) = true:=if_ne he
    have : opErr ns nb rg sp k d a b c n g = 2:=by
      unfold opErr
      simp only [ho,hq,fd,fa,fb,Bool.true_eq_false,if_false,Bool.true_or,Bool.or_true,Bool.false_or,Bool.or_false,Bool.false_eq_true,if_true,ite_self]
    simp only [hq,if_true,this,outC_ne (e:=2) (by decide),kB,kC,cellsOf,kE,xn,xi,xm,xe,xf,xg,xh,xl,xk,xj,reduceIte,reduceCtorEq,ya,xz,xu]
    first | exact ⟨_,rfl⟩ | exact ⟨rfl,_,rfl⟩ | exact ⟨trivial,_,rfl⟩ | exact ⟨[],(List.append_nil _).symm⟩
  have fc : (hasC k && !regOkA rg c) = false:=if_eq (by decide) he
  simp only [c_and,ho,kB,kC,cellsOf,kE,xn,xi,xm,xe,xf,xg,xh,xl,xk,xj,reduceIte,reduceCtorEq,ya,xz,xu]
  refine callO_out (j_code_reg h (hc.ext (Ext.of _ _)) g (decide (g≠-1))) ?_ ?_<;>intro he
  case refine_2 =>
    have hq : (decide (g≠-1) && !regOkA rg g) = true:=if_ne he
    have : opErr ns nb rg sp k d a b c n g = 2:=by
      unfold opErr
      simp only [ho,hq,fd,fa,fb,fc,Bool.true_eq_false,if_false,Bool.true_or,Bool.or_true,Bool.false_or,Bool.or_false,Bool.false_eq_true,if_true,ite_self]
    simp only [hq,if_true,this,outC_ne (e:=2) (by decide),kB,kC,cellsOf,kE,xn,xi,xm,xe,xf,xg,xh,xl,xk,xj,reduceIte,reduceCtorEq,ya,xz,xu]
    first | exact ⟨_,rfl⟩ | exact ⟨rfl,_,rfl⟩ | exact ⟨trivial,_,rfl⟩ | exact ⟨[],(List.append_nil _).symm⟩
  have fg : (decide (g≠-1) && !regOkA rg g) = false:=if_eq (by decide) he
  simp only [c_and,ho,kB,kC,cellsOf,kE,xn,xi,xm,xe,xf,xg,xh,xl,xk,xj,reduceIte,reduceCtorEq,ya,xz,xu]
  refine cutCond (mB m0) [0,3,4] (fun e=>e 6 = iA (manyOf ns nb sp k)) ?_ ?_
  · unfold manyOf
    simp only [t5]
    repeat' first
      | first | (refine gO_t ?_ ?_<;>(intro hc; simp only [*,kB,kC,cellsOf,kE,xn,xi,xm,xe,xf,xg,xh,xl,xk,xj,reduceIte,reduceCtorEq,ya,xz,xu])) | (refine gO_f ?_ ?_<;>(intro hc; simp only [*,kB,kC,cellsOf,kE,xn,xi,xm,xe,xf,xg,xh,xl,xk,xj,reduceIte,reduceCtorEq,ya,xz,xu])) | (refine condO_intro ?_ ?_<;>(intro hc; simp only [*,kB,kC,cellsOf,kE,xn,xi,xm,xe,xf,xg,xh,xl,xk,xj,reduceIte,reduceCtorEq,ya,xz,xu]))
      | simp only [c_and,t6,t7, *,kB,kC,cellsOf,kE,xn,xi,xm,xe,xf,xg,xh,xl,xk,xj,reduceIte,reduceCtorEq,ya,xz,xu]
  · intro e hL h6
    simp only [kB,kC,cellsOf,kE,xn,xi,xm,xe,xf,xg,xh,xl,xk,xj,reduceIte,reduceCtorEq,ya,xz,xu] at hL
    obtain ⟨h0,h3,h4⟩:=hL
    generalize hmm : manyOf ns nb sp k = mm at *
    have h5 : (decide (0≤mm) && (decide (n < 0) || decide (mm≤n))) = true→opErr ns nb rg sp k d a b c n g = 5:=fun hq=>by
      unfold opErr
      simp only [ho,fd,fa,fb,fc,fg,hmm,hq,Bool.or_self,Bool.true_eq_false,Bool.false_eq_true,if_false,if_true]
    simp only [h0,h3,h4,h6,kB,kC,cellsOf,kE,xn,xi,xm,xe,xf,xg,xh,xl,xk,xj,reduceIte,reduceCtorEq,ya,xz,xu]
    refine cutG m0 [0,3,4,6] (fun _=>(decide (0≤mm) && (decide (n < 0) || decide (mm≤n))) = false) ?_ ?_
    · refine gO_f ?_ ?_<;>intro hq1
      · have hq : ¬ (0≤mm):=by have:=of_decide_eq_true hq1; omega
        simp only [h0,h3,h4,h6,hq1,kB,kC,cellsOf,kE,xn,xi,xm,xe,xf,xg,xh,xl,xk,xj,reduceIte,reduceCtorEq,ya,xz,xu]
        refine callO_out (j_code_must h (hc.ext (Ext.of _ _)) _ 5 (by decide)) ?_ ?_<;>intro he
        · simp only [h0,h3,h4,h6,hq,kB,kC,cellsOf,kE,xn,xi,xm,xe,xf,xg,xh,xl,xk,xj,reduceIte,reduceCtorEq,ya,xz,xu]
        · exact absurd rfl he
      · have hq : 0≤mm:=by have:=of_decide_eq_false hq1; omega
        simp only [h0,h3,h4,h6,hq1,kB,kC,cellsOf,kE,xn,xi,xm,xe,xf,xg,xh,xl,xk,xj,reduceIte,reduceCtorEq,ya,xz,xu]
        refine gO_t ?_ ?_<;>intro hq2
        · have hq3 : ¬ (n < 0):=by have:=of_decide_eq_true hq2; omega
          simp only [h0,h3,h4,h6,hq1,hq2,kB,kC,cellsOf,kE,xn,xi,xm,xe,xf,xg,xh,xl,xk,xj,reduceIte,reduceCtorEq,ya,xz,xu]
          refine callO_out (j_code_must h (hc.ext (Ext.of _ _)) _ 5 (by decide)) ?_ ?_<;>intro he
          · have hq4 : ¬ (mm≤n):=by
              by_cases hq4 : n < mm
              · omega
              · simp [hq4] at he
            simp only [h0,h3,h4,h6,hq,hq3,hq4,kB,kC,cellsOf,kE,xn,xi,xm,xe,xf,xg,xh,xl,xk,xj,reduceIte,reduceCtorEq,ya,xz,xu]
          · have hq4 : mm≤n:=by
              by_cases hq4 : n < mm
              · simp [hq4] at he
              · omega
            have hq5 : ¬ (n < mm):=by omega
            rw [h5 (by simp [hq,hq4])]
            simp only [hq5,outC_ne (e:=5) (by decide),kB,kC,cellsOf,kE,xn,xi,xm,xe,xf,xg,xh,xl,xk,xj,reduceIte,reduceCtorEq,ya,xz,xu]
            first | exact ⟨_,rfl⟩ | exact ⟨rfl,_,rfl⟩ | exact ⟨trivial,_,rfl⟩ | exact ⟨[],(List.append_nil _).symm⟩
        · have hq3 : n < 0:=by have:=of_decide_eq_false hq2; omega
          simp only [h0,h3,h4,h6,hq1,hq2,kB,kC,cellsOf,kE,xn,xi,xm,xe,xf,xg,xh,xl,xk,xj,reduceIte,reduceCtorEq,ya,xz,xu]
          refine callO_out (j_code_must h (hc.ext (Ext.of _ _)) _ 5 (by decide)) ?_ ?_<;>intro he
          · simp at he
          · rw [h5 (by simp [hq,hq3])]
            simp only [outC_ne (e:=5) (by decide),kB,kC,cellsOf,kE,xn,xi,xm,xe,xf,xg,xh,xl,xk,xj,reduceIte,reduceCtorEq,ya,xz,xu]
            first | exact ⟨_,rfl⟩ | exact ⟨rfl,_,rfl⟩ | exact ⟨trivial,_,rfl⟩ | exact ⟨[],(List.append_nil _).symm⟩
    · intro e2 hL hf5
      simp only [kB,kC,cellsOf,kE,xn,xi,xm,xe,xf,xg,xh,xl,xk,xj,reduceIte,reduceCtorEq,ya,xz,xu] at hL
      simp only [h0,h3,h4,h6] at hL
      obtain ⟨g0,g3,g4,g6⟩:=hL
      have hN : (decide (mm < 0) && !decide (k = 1)) = !hasN k:=by
        rw [←hmm]
        unfold manyOf hasN
        cases ha : arrK k
        · cases hce : cellK k
          · cases hk21 : decide (k = 21)
            · simp
            · have : ¬ ((nb : Int) < 0):=by omega
              simp [this]
          · have : ¬ (sp < 0):=by omega
            simp [this]
        · have : ¬ ((ns : Int) < 0):=by omega
          simp [this]
      have hop : opErr ns nb rg sp k d a b c n g = if ((!hasDst k && decide (d≠0)) || (!hasA k && decide (a≠0)) || (!hasB k && decide (b≠0)) || (!hasC k && decide (c≠0)) || (decide (mm < 0) && !decide (k = 1) && decide (n≠0))) = true then 4 else 0:=by
        rw [hN]
        unfold opErr
        simp only [ho,fd,fa,fb,fc,fg,hmm,hf5,Bool.or_self,Bool.true_eq_false,Bool.false_eq_true,if_false]
        cases ((!hasDst k && decide (d≠0)) || (!hasA k && decide (a≠0)) || (!hasB k && decide (b≠0)) || (!hasC k && decide (c≠0)))<;>simp
      rw [hop]
      clear hop hN hf5 h5 h0 h3 h4 h6 fd fa fb fc fg t5 t6 t7 hmm
      simp only [g0,g3,g4,g6,c_and,dec_eq_zero,t1,t2,t3,t4,t8,kB,kC,cellsOf,kE,xn,xi,xm,xe,xf,xg,xh,xl,xk,xj,reduceIte,reduceCtorEq,ya,xz,xu]
      generalize hasDst k = B1 at *
      generalize hasA k = B2 at *
      generalize hasB k = B3 at *
      generalize hasC k = B4 at *
      have hbox:=hc
      clear hc he
      repeat' first
        | (refine gO_t ?_ ?_<;>(intro hc; simp only [*,c_and,dec_eq_zero,kB,kC,cellsOf,kE,xn,xi,xm,xe,xf,xg,xh,xl,xk,xj,reduceIte,reduceCtorEq,ya,xz,xu]))
        | (refine gO_f ?_ ?_<;>(intro hc; simp only [*,c_and,dec_eq_zero,kB,kC,cellsOf,kE,xn,xi,xm,xe,xf,xg,xh,xl,xk,xj,reduceIte,reduceCtorEq,ya,xz,xu]))
      all_goals (refine callO_out (j_code_must h (hbox.ext (Ext.of _ _)) _ 4 (by decide)) ?_ ?_<;>intro he)
      all_goals first
        | exact absurd rfl he
        | (simp at he; done)
        | (simp only [outC_zero,kB,kC,cellsOf,kE,xn,xi,xm,xe,xf,xg,xh,xl,xk,xj,reduceIte,reduceCtorEq,ya,xz,xu]; first | exact ⟨_,rfl⟩ | exact ⟨rfl,_,rfl⟩ | exact ⟨trivial,_,rfl⟩ | exact ⟨[],(List.append_nil _).symm⟩)
        | (simp only [outC_ne (e:=4) (by decide),kB,kC,cellsOf,kE,xn,xi,xm,xe,xf,xg,xh,xl,xk,xj,reduceIte,reduceCtorEq,ya,xz,xu]; first | exact ⟨_,rfl⟩ | exact ⟨rfl,_,rfl⟩ | exact ⟨trivial,_,rfl⟩ | exact ⟨[],(List.append_nil _).symm⟩)
        | (generalize decide (n≠0) = B5 at he ⊢
           cases B5
           · first
               | (exact absurd rfl he)
               | (simp only [outC_zero,Bool.false_eq_true,if_false,kB,kC,cellsOf,kE,xn,xi,xm,xe,xf,xg,xh,xl,xk,xj,reduceIte,reduceCtorEq,ya,xz,xu]; first | exact ⟨_,rfl⟩ | exact ⟨rfl,_,rfl⟩ | exact ⟨trivial,_,rfl⟩ | exact ⟨[],(List.append_nil _).symm⟩)
           · first
               | (simp at he; done)
               | (simp only [outC_ne (e:=4) (by decide),Bool.not_true,Bool.false_eq_true,if_false,if_true,kB,kC,cellsOf,kE,xn,xi,xm,xe,xf,xg,xh,xl,xk,xj,reduceIte,reduceCtorEq,ya,xz,xu]; first | exact ⟨_,rfl⟩ | exact ⟨rfl,_,rfl⟩ | exact ⟨trivial,_,rfl⟩ | exact ⟨[],(List.append_nil _).symm⟩))
end
end Go.VX.Seat
end
section
set_option maxRecDepth 4000
namespace Go.VX.Seat
open Go.Proofs
section
variable {X : Cx} {st : St}
theorem if_ne' {b : Bool} {e : Int} (h : (if b = true then 0 else e)≠0) : b = false:=by cases b<;>simp_all
theorem if_eq' {b : Bool} {e : Int} (he : e≠0) (h : (if b = true then 0 else e) = 0) : b = true:=by cases b<;>simp_all
theorem callO_must {env : Env} {Q : Post3} {K : Env→St→Post3→Prop} {dst : Option Nat} {keep : List VOpd} (h : On X) {cb : Nat} {s bl : AV} {p r cd sp blk at_ : Int} (hc : BoxAt st cb [s,iA p,iA r,iA cd,iA sp,bl,iA blk,iA at_]) {ok : Bool} {e : Int} (he : e≠0)
    (h1 : ok = true→K (env.put dst (.tup [])) st Q) (h2 : ok = false→Q (.pan (.iface 103 (.agg [iA blk,iA at_,iA e]))) env st) : callO X 108 [.ptr cb 0,bA ok,iA e] dst keep K env st Q :=
  callO_out (j_code_must h hc ok e he) (fun hq=>h1 (if_eq' he hq)) fun hq=>by
    have:=if_ne' hq
    subst this
    exact h2 rfl
theorem callO_reg {env : Env} {Q : Post3} {K : Env→St→Post3→Prop} {dst : Option Nat} {keep : List VOpd} (h : On X) {cb : Nat} {s bl : AV} {p rg cd sp blk at_ : Int} (hc : BoxAt st cb [s,iA p,iA rg,iA cd,iA sp,bl,iA blk,iA at_]) {r : Int} {used : Bool}
    (h1 : (used && !regOkA rg r) = false→K (env.put dst (.tup [])) st Q) (h2 : (used && !regOkA rg r) = true→Q (.pan (.iface 103 (.agg [iA blk,iA at_,iA 2]))) env st) : callO X 128 [.ptr cb 0,iA r,bA used] dst keep K env st Q:=by
  refine callO_out (j_code_reg h hc r used) (fun hq=>h1 ?_) fun hq=>?_
  · cases hb : (used && !regOkA rg r)
    · rfl
    · simp [hb] at hq
  · have : (used && !regOkA rg r) = true:=by
      cases hb : (used && !regOkA rg r)
      · simp [hb] at hq
      · rfl
    rw [this]
    exact h2 this
set_option maxHeartbeats 1000000 in
theorem j_code_end (h : On X) {cb : Nat} {s bl : AV} {nb : Nat} (l2 : lenA bl = some nb) {p rg cd sp blk at_ : Int} (hbox : BoxAt st cb [s,iA p,iA rg,iA cd,iA sp,bl,iA blk,iA at_]) (k a t e : Int) :
    J X.P X.F X.H (.call 112 [.ptr cb 0,.agg [iA k,iA a,iA t,iA e]] st (outC blk at_ (endErr nb rg k a t e)) st):=by
  refine out_intro (by rw [h.F]; rfl) (outC_flat _ _ _) ?_
  have x1:=hbox.at1
  by_cases hk : 1≤k∧k≤4
  case neg =>
    have he4 : endErr nb rg k a t e = 4:=by
      unfold endErr
      rw [if_pos]
      simp
      omega
    simp only [v_code_checker_end,kB,kC,cellsOf,kE,xn,xi,xm,xe,xf,xg,xh,xl,xk,xj,reduceIte,reduceCtorEq,ya,xz,xu]
    refine gO_t ?_ ?_<;>intro hc<;>simp only [x1,hc,kB,kC,cellsOf,kE,xn,xi,xm,xe,xf,xg,xh,xl,xk,xj,reduceIte,reduceCtorEq,ya,xz,xu]
    · have h2 : ¬ (k≤4):=by have:=of_decide_eq_true hc; omega
      simp only [h2,kB,kC,cellsOf,kE,xn,xi,xm,xe,xf,xg,xh,xl,xk,xj,reduceIte,reduceCtorEq,ya,xz,xu]
      refine callO_out (j_code_must h (hbox.ext (Ext.of _ _)) false 4 (by decide)) ?_ ?_<;>intro he
      · cases he
      · simp only [he4,outC_ne (e:=4) (by decide),Bool.false_eq_true,if_false,kB,kC,cellsOf,kE,xn,xi,xm,xe,xf,xg,xh,xl,xk,xj,reduceIte,reduceCtorEq,ya,xz,xu]
        first | exact ⟨_,rfl⟩ | exact ⟨rfl,_,rfl⟩ | exact ⟨trivial,_,rfl⟩ | exact ⟨[],(List.append_nil _).symm⟩
    · refine callO_out (j_code_must h (hbox.ext (Ext.of _ _)) false 4 (by decide)) ?_ ?_<;>intro he
      · cases he
      · simp only [he4,outC_ne (e:=4) (by decide),Bool.false_eq_true,if_false,kB,kC,cellsOf,kE,xn,xi,xm,xe,xf,xg,xh,xl,xk,xj,reduceIte,reduceCtorEq,ya,xz,xu]
        first | exact ⟨_,rfl⟩ | exact ⟨rfl,_,rfl⟩ | exact ⟨trivial,_,rfl⟩ | exact ⟨[],(List.append_nil _).symm⟩
  have hk4 : k = 1∨k = 2∨k = 3∨k = 4:=by omega
  rcases hk4 with rfl | rfl | rfl | rfl
  all_goals
    unfold endErr endA endTo endElse
    simp only [v_code_checker_end,x1,Int.reduceEq,Int.reduceNe,kB,kC,cellsOf,kE,xn,xi,xm,xe,xf,xg,xh,xl,xk,xj,reduceIte,reduceCtorEq,ya,xz,xu]
    repeat' first
      | (refine callO_must h (hbox.ext (Ext.of _ _)) (by decide) ?_ ?_<;>(intro hc; simp only [*,Int.reduceEq,Int.reduceNe,kB,kC,cellsOf,kE,xn,xi,xm,xe,xf,xg,xh,xl,xk,xj,reduceIte,reduceCtorEq,ya,xz,xu]))
      | (refine callO_reg h (hbox.ext (Ext.of _ _)) ?_ ?_<;>(intro hc; simp only [*,Int.reduceEq,Int.reduceNe,kB,kC,cellsOf,kE,xn,xi,xm,xe,xf,xg,xh,xl,xk,xj,reduceIte,reduceCtorEq,ya,xz,xu]))
      | (refine callO_same (j_code_within h _ _) ?_; simp only [*,Int.reduceEq,Int.reduceNe,kB,kC,cellsOf,kE,xn,xi,xm,xe,xf,xg,xh,xl,xk,xj,reduceIte,reduceCtorEq,ya,xz,xu])
      | first | (refine gO_t ?_ ?_<;>(intro hc; simp only [*,kB,kC,cellsOf,kE,xn,xi,xm,xe,xf,xg,xh,xl,xk,xj,reduceIte,reduceCtorEq,ya,xz,xu])) | (refine gO_f ?_ ?_<;>(intro hc; simp only [*,kB,kC,cellsOf,kE,xn,xi,xm,xe,xf,xg,xh,xl,xk,xj,reduceIte,reduceCtorEq,ya,xz,xu])) | (refine condO_intro ?_ ?_<;>(intro hc; simp only [*,kB,kC,cellsOf,kE,xn,xi,xm,xe,xf,xg,xh,xl,xk,xj,reduceIte,reduceCtorEq,ya,xz,xu]))
    all_goals first
      | (cases hc; done)
      | first | exact ⟨_,rfl⟩ | exact ⟨rfl,_,rfl⟩ | exact ⟨trivial,_,rfl⟩ | exact ⟨[],(List.append_nil _).symm⟩
      | (simp only [outC_zero,outC_ne (e:=2) (by decide),outC_ne (e:=4) (by decide),outC_ne (e:=5) (by decide),Int.reduceEq,Int.reduceNe,kB,kC,cellsOf,kE,xn,xi,xm,xe,xf,xg,xh,xl,xk,xj,reduceIte,reduceCtorEq,ya,xz,xu]; first | exact ⟨_,rfl⟩ | exact ⟨rfl,_,rfl⟩ | exact ⟨trivial,_,rfl⟩ | exact ⟨[],(List.append_nil _).symm⟩)
      | (refine ⟨?_,_,rfl⟩; clear x1 hbox l2 h; simp_all [outC])
      | fail
end
end Go.VX.Seat
end
section
set_option maxRecDepth 4000
namespace Go.VX.Seat
open Go.Proofs
def idxF (xs : List Int) : Int:=if xs.any badSize then (xs.findIdx badSize : Int) else -1
section
variable {X : Cx} {st : St}
theorem j_code_unit_c1 (h : On X) (n : Int) : J X.P X.F X.H (.call 110 [iA n] st (.ret (bA (badSize n))) st):=by
  refine pure_intro (by rw [h.F]; rfl) rfl ?_
  unfold badSize
  simp only [v_code_checker_unit_c1,kB,kC,cellsOf,kE,xn,xi,xm,xe,xf,xg,xh,xl,xk,xj,reduceIte,reduceCtorEq,ya,xz,xu]
  repeat' first | (refine gO_t ?_ ?_<;>(intro hc; simp only [*,kB,kC,cellsOf,kE,xn,xi,xm,xe,xf,xg,xh,xl,xk,xj,reduceIte,reduceCtorEq,ya,xz,xu])) | (refine gO_f ?_ ?_<;>(intro hc; simp only [*,kB,kC,cellsOf,kE,xn,xi,xm,xe,xf,xg,xh,xl,xk,xj,reduceIte,reduceCtorEq,ya,xz,xu])) | (refine condO_intro ?_ ?_<;>(intro hc; simp only [*,kB,kC,cellsOf,kE,xn,xi,xm,xe,xf,xg,xh,xl,xk,xj,reduceIte,reduceCtorEq,ya,xz,xu]))
  all_goals first | exact ⟨_,rfl⟩ | exact ⟨rfl,_,rfl⟩ | exact ⟨trivial,_,rfl⟩ | exact ⟨[],(List.append_nil _).symm⟩
theorem j_IndexFunc (h : On X) {lo hi : Nat} {v : AV} {xs : List Int} (hv : IntsAt st lo hi v xs) (hlen : (xs.length : Int) < 4611686018427387904) :
    J X.P X.F X.H (.call 127 [v,.fn 110 [] []] st (.ret (iA (idxF xs))) st):=by
  refine pure_intro (by rw [h.F]; rfl) rfl ?_
  have l1:=hv.len
  simp only [List.length_map] at l1
  simp only [v_slices_IndexFunc_int,l1,kB,kC,cellsOf,kE,xn,xi,xm,xe,xf,xg,xh,xl,xk,xj,reduceIte,reduceCtorEq,ya,xz,xu]
  refine loop_live [0,1,7] (fun m e=>∃ i : Nat,i + m = xs.length∧e 8 = iA i∧∀ j (h1 : j < xs.length),j < i→badSize xs[j] = false) xs.length ?_ ?_
  · exact ⟨0,by omega,by simp only [kB,kC,cellsOf,kE,xn,xi,xm,xe,xf,xg,xh,xl,xk,xj,reduceIte,reduceCtorEq,ya,xz,xu],fun j _ hj=>absurd hj (by omega)⟩
  · intro m e hL ⟨i,him,h8,hpre⟩
    simp only [kB,kC,cellsOf,kE,xn,xi,xm,xe,xf,xg,xh,xl,xk,xj,reduceIte,reduceCtorEq,ya,xz,xu] at hL
    obtain ⟨h0,h1,h7⟩:=hL
    simp only [h0,h1,h7,h8,kB,kC,cellsOf,kE,xn,xi,xm,xe,xf,xg,xh,xl,xk,xj,reduceIte,reduceCtorEq,ya,xz,xu]
    refine condO_intro ?_ ?_<;>intro hc<;>simp only [kB,kC,cellsOf,kE,xn,xi,xm,xe,xf,xg,xh,xl,xk,xj,reduceIte,reduceCtorEq,ya,xz,xu]
    · have hi : i < xs.length:=by have:=of_decide_eq_true hc; omega
      obtain ⟨b1,o1,he1,hn1,ha1,hm1⟩:=hv.get i (by simpa using hi)
      have p1:=fun L=>ha1 L 0 (by omega)
      simp only [List.getElem_map,Nat.add_zero,kB,kC,cellsOf,kE,xn,xi,xm,xe,xf,xg,xh,xl,xk,xj,reduceIte,reduceCtorEq,ya,xz,xu] at p1
      simp only [h0,h1,h7,h8,l1,he1,p1,kB,kC,cellsOf,kE,xn,xi,xm,xe,xf,xg,xh,xl,xk,xj,reduceIte,reduceCtorEq,ya,xz,xu]
      refine callO_same (j_code_unit_c1 h _) ?_
      simp only [h0,h1,h7,h8,kB,kC,cellsOf,kE,xn,xi,xm,xe,xf,xg,xh,xl,xk,xj,reduceIte,reduceCtorEq,ya,xz,xu]
      refine condO_intro ?_ ?_<;>intro hq<;>simp only [h0,h1,h7,h8,kB,kC,cellsOf,kE,xn,xi,xm,xe,xf,xg,xh,xl,xk,xj,reduceIte,reduceCtorEq,ya,xz,xu]
      · have hany : xs.any badSize = true:=List.any_eq_true.2 ⟨_,List.getElem_mem hi,hq⟩
        have hfi : xs.findIdx badSize = i:=(List.findIdx_eq hi).2 ⟨hq,fun j hj=>hpre j (by omega) hj⟩
        unfold idxF
        rw [hany,hfi]
        first
          | first | exact ⟨_,rfl⟩ | exact ⟨rfl,_,rfl⟩ | exact ⟨trivial,_,rfl⟩ | exact ⟨[],(List.append_nil _).symm⟩
          | exact ⟨rfl,_,rfl⟩
      · rw [wrap_small (by omega) (by omega)]
        refine ⟨m - 1,by omega,i + 1,by omega,by simp,fun j h1 hj=>?_⟩
        by_cases hji : j = i
        · subst hji; exact hq
        · exact hpre j (by omega) (by omega)
    · have hi : i = xs.length:=by have:=of_decide_eq_false hc; omega
      have hany : xs.any badSize = false:=by
        rw [List.any_eq_false]
        intro x hx
        obtain ⟨j,hj,rfl⟩:=List.getElem_of_mem hx
        rw [hpre j hj (by omega)]
        decide
      unfold idxF
      rw [hany]
      simp only [Bool.false_eq_true,if_false]
      first | exact ⟨_,rfl⟩ | exact ⟨rfl,_,rfl⟩ | exact ⟨trivial,_,rfl⟩ | exact ⟨[],(List.append_nil _).symm⟩
theorem j_ContainsFunc (h : On X) {lo hi : Nat} {v : AV} {xs : List Int} (hv : IntsAt st lo hi v xs) (hlen : (xs.length : Int) < 4611686018427387904) :
    J X.P X.F X.H (.call 109 [v,.fn 110 [] []] st (.ret (bA (xs.any badSize))) st):=by
  refine pure_intro (by rw [h.F]; rfl) rfl ?_
  simp only [v_slices_ContainsFunc_int,kB,kC,cellsOf,kE,xn,xi,xm,xe,xf,xg,xh,xl,xk,xj,reduceIte,reduceCtorEq,ya,xz,xu]
  refine callO_same (j_IndexFunc h (hv.mono _) hlen) ?_
  have : decide (0≤idxF xs) = xs.any badSize:=by
    unfold idxF
    cases xs.any badSize<;>simp
  simp only [this,kB,kC,cellsOf,kE,xn,xi,xm,xe,xf,xg,xh,xl,xk,xj,reduceIte,reduceCtorEq,ya,xz,xu]
  first | exact ⟨_,rfl⟩ | exact ⟨rfl,_,rfl⟩ | exact ⟨trivial,_,rfl⟩ | exact ⟨[],(List.append_nil _).symm⟩
end
end Go.VX.Seat
end
section
set_option maxRecDepth 4000
namespace Go.VX.Seat
open Go.Proofs
def outF (x : Int × Int × Int) : CRes:=outC x.2.1 x.2.2 x.1
theorem BoxAt.head (st : St) (cs : List AV) (v : Nat) (L : St) : BoxAt (st++(⟨cs,0,v⟩ :: L)) (st.length + 0) cs:=BoxAt.of (m:=0) (v:=v) (by simp) (by decide)
theorem BoxAt.first (cs : List AV) (v : Nat) (L : St) : BoxAt (⟨cs,0,v⟩ :: L) 0 cs:=BoxAt.of (m:=0) (v:=v) (by simp) (by decide)
theorem kept_loc {env : Env} {st M : St} {C C' : Box} {j o : Nat} {x : VOpd} (h : x.ev env = .ptr (st.length + (j + 1)) o) : keptA env (st++(C :: M)) (st++(C' :: M)) [x] = true:=by
  unfold keptA
  simp only [List.all_cons,List.all_nil,Bool.and_true,h,adrBox]
  rw [List.getElem?_append_right (by omega),List.getElem?_append_right (by omega),Nat.add_sub_cancel_left,List.getElem?_cons_succ,List.getElem?_cons_succ]
  cases M[j]? with
  | none=>rfl
  | some b=>simp
section
variable {X : Cx}
set_option maxHeartbeats 4000000 in
theorem w_code_unit (h : On X) {st : St} (hg : GlobAt st) {lo hi : Nat} {s bl : AV} {U : UnitV} (hs : IntsAt st lo hi s U.sizes) (hb : BlksAt st lo hi bl U.blocks) :
    wpF X 91 [.ptr (st.length + 0) 0] (st++[⟨[s,iA U.params,iA U.regs,iA U.code,iA U.spill,bl,iA 0,iA 0],0,0⟩]) fun r s=>r = outF (findU U)∧∃ m,s = st++m:=by
  refine wpF_intro (fn:=v_code_checker_unit) (by rw [h.F]; rfl) ?_
  have l1:=hs.len
  have l2 : lenA bl = some U.blocks.length:=by
    obtain ⟨f,hb,_⟩:=hb
    have:=hb.len
    simpa using this
  have hcs:=isCell_len l1
  have hcb:=isCell_len l2
  simp only [List.length_map] at l1
  simp only [v_code_checker_unit,l1,l2,hcs,hcb,kB,kC,cellsOf,kE,xn,xi,xm,xe,xf,xg,xh,xl,xk,xj,reduceIte,reduceCtorEq,ya,xz,xu]
  have hex : ∀ {r : CRes} {s' : St},(∃ L,s' = st++L)→r = outF (findU U)→(r = outF (findU U)∧∃ m,s' = st++m):=fun h1 h2=>⟨h2,h1⟩
  refine cutG m0 [0,2] (fun _=>limitsU U = false) ?_ ?_
  · have hval : limitsU U = true→outF (findU U) = outC 0 0 3:=fun hq=>by
      unfold findU
      rw [hq]
      rfl
    unfold limitsU at hval ⊢
    simp only [Bool.or_eq_true,Bool.or_eq_false_iff,decide_eq_true_eq,decide_eq_false_iff_not] at hval ⊢
    repeat' first
      | (refine gO_t ?_ ?_<;>(intro hc; simp only [hc,l1,l2,kB,kC,cellsOf,kE,xn,xi,xm,xe,xf,xg,xh,xl,xk,xj,reduceIte,reduceCtorEq,ya,xz,xu]))
      | (refine callO_must h (BoxAt.head _ _ _ _) (by decide) ?_ ?_<;>(intro hc; simp only [kB,kC,cellsOf,kE,xn,xi,xm,xe,xf,xg,xh,xl,xk,xj,reduceIte,reduceCtorEq,ya,xz,xu]))
    all_goals first
      | (cases hc; done)
      | (simp only [decide_eq_true_eq,decide_eq_false_iff_not] at *
         omega)
      | (rw [hval (by simp only [decide_eq_true_eq,decide_eq_false_iff_not] at *; omega),outC_ne (by decide)]
         first | exact ⟨_,rfl⟩ | exact ⟨rfl,_,rfl⟩ | exact ⟨trivial,_,rfl⟩ | exact ⟨[],(List.append_nil _).symm⟩)
      | fail
  · intro e1 hL hlim
    simp only [kB,kC,cellsOf,kE,xn,xi,xm,xe,xf,xg,xh,xl,xk,xj,reduceIte,reduceCtorEq,ya,xz,xu] at hL
    obtain ⟨h0,h2⟩:=hL
    have hnb : (U.blocks.length : Int)≤2000∧1≤U.blocks.length:=by
      simp only [limitsU,Bool.or_eq_false_iff,decide_eq_false_iff_not] at hlim
      omega
    have hns : (U.sizes.length : Int)≤16:=by
      simp only [limitsU,Bool.or_eq_false_iff,decide_eq_false_iff_not] at hlim
      omega
    simp only [h0,h2,l1,l2,kB,kC,cellsOf,kE,xn,xi,xm,xe,xf,xg,xh,xl,xk,xj,reduceIte,reduceCtorEq,ya,xz,xu]
    refine callO_same (j_ContainsFunc h (hs.mono _) (by omega)) ?_
    simp only [h0,h2,l1,l2,kB,kC,cellsOf,kE,xn,xi,xm,xe,xf,xg,xh,xl,xk,xj,reduceIte,reduceCtorEq,ya,xz,xu]
    refine callO_must h (BoxAt.head _ _ _ _) (by decide) ?_ ?_<;>intro hsz
    case refine_2 =>
      have : outF (findU U) = outC 0 0 2:=by
        have hsz : U.sizes.any badSize = true:=by simpa using hsz
        unfold findU
        rw [hlim,hsz]
        rfl
      simp only [this,outC_ne (e:=2) (by decide),kB,kC,cellsOf,kE,xn,xi,xm,xe,xf,xg,xh,xl,xk,xj,reduceIte,reduceCtorEq,ya,xz,xu]
      first | exact ⟨_,rfl⟩ | exact ⟨rfl,_,rfl⟩ | exact ⟨trivial,_,rfl⟩ | exact ⟨[],(List.append_nil _).symm⟩
    have hsz : U.sizes.any badSize = false:=by simpa using hsz
    simp only [h0,h2,l1,l2,kB,kC,cellsOf,kE,xn,xi,xm,xe,xf,xg,xh,xl,xk,xj,reduceIte,reduceCtorEq,ya,xz,xu]
    refine cutG m0 [0,2] (fun _=>headU U = false) ?_ ?_
    · have hval : headU U = true→outF (findU U) = outC 0 0 2:=fun hq=>by
        unfold findU
        rw [hlim,hsz,hq]
        rfl
      unfold headU at hval ⊢
      simp only [Bool.or_eq_true,Bool.or_eq_false_iff,decide_eq_true_eq,decide_eq_false_iff_not,Bool.not_eq_eq_eq_not,Bool.not_true,Bool.not_false] at hval ⊢
      repeat' first
        | (refine gO_t ?_ ?_<;>(intro hc; simp only [hc,h0,h2,l1,l2,kB,kC,cellsOf,kE,xn,xi,xm,xe,xf,xg,xh,xl,xk,xj,reduceIte,reduceCtorEq,ya,xz,xu]))
        | (refine callO_same (j_code_within h _ _) ?_; simp only [h0,h2,kB,kC,cellsOf,kE,xn,xi,xm,xe,xf,xg,xh,xl,xk,xj,reduceIte,reduceCtorEq,ya,xz,xu])
        | (refine callO_must h (BoxAt.head _ _ _ _) (by decide) ?_ ?_<;>(intro hc; simp only [h0,h2,kB,kC,cellsOf,kE,xn,xi,xm,xe,xf,xg,xh,xl,xk,xj,reduceIte,reduceCtorEq,ya,xz,xu]))
      all_goals first
        | (cases hc; done)
        | (refine ⟨?_,hc⟩
           simp only [decide_eq_true_eq,decide_eq_false_iff_not] at *
           omega)
        | (rw [hval (Or.inr hc),outC_ne (by decide)]
           first | exact ⟨_,rfl⟩ | exact ⟨rfl,_,rfl⟩ | exact ⟨trivial,_,rfl⟩ | exact ⟨[],(List.append_nil _).symm⟩)
        | (rw [hval (Or.inl (by simp only [decide_eq_true_eq,decide_eq_false_iff_not] at *; omega)),outC_ne (by decide)]
           first | exact ⟨_,rfl⟩ | exact ⟨rfl,_,rfl⟩ | exact ⟨trivial,_,rfl⟩ | exact ⟨[],(List.append_nil _).symm⟩)
        | fail
    · intro e2 hL hhd
      simp only [kB,kC,cellsOf,kE,xn,xi,xm,xe,xf,xg,xh,xl,xk,xj,reduceIte,reduceCtorEq,ya,xz,xu] at hL
      simp only [h0,h2] at hL
      obtain ⟨g0,g2⟩:=hL
      simp only [g0,g2,l1,l2,kB,kC,cellsOf,kE,xn,xi,xm,xe,xf,xg,xh,xl,xk,xj,reduceIte,reduceCtorEq,ya,xz,xu]
      have hsp : 0≤U.spill:=by
        simp only [headU,Bool.or_eq_false_iff,decide_eq_false_iff_not] at hhd
        omega
      have hval : findU U = match blkFind U 0 U.blocks with
          | some x=>x
          | none=>if decide (20000 < (total U.blocks : Int)) then (3,0,0) else (0,0,0):=by
        unfold findU
        simp only [hlim,hsz,hhd,Bool.false_eq_true,if_false]
        try rfl
      refine loop_inv (fun n e s'=>∃ (L : St) (ver : Nat) (blk at_ : Int),s' = st++(⟨[s,iA U.params,iA U.regs,iA U.code,iA U.spill,bl,iA blk,iA at_],0,ver⟩ :: L)∧BoxAt L 0 [s,iA U.params,iA U.regs,iA U.code,iA U.spill,bl]∧e 0 = .ptr (st.length + 0) 0∧e 2 = .ptr (st.length + 1) 0∧e 81 = bl∧e 82 = iA U.blocks.length ∧
        ∃ i : Nat,i + n = U.blocks.length∧e 83 = iA i∧e 3 = iA (total (U.blocks.take i))∧total (U.blocks.take i)≤400 * i∧blkFind U i (U.blocks.drop i) = blkFind U 0 U.blocks) ?_ U.blocks.length ?_
      case refine_2 =>
        exact ⟨[⟨[s,iA U.params,iA U.regs,iA U.code,iA U.spill,bl],0,1⟩],0,0,0,rfl,BoxAt.first _ _ _,by simp only [g0,kB,kC,cellsOf,kE,xn,xi,xm,xe,xf,xg,xh,xl,xk,xj,reduceIte,reduceCtorEq,ya,xz,xu],by simp only [g2,kB,kC,cellsOf,kE,xn,xi,xm,xe,xf,xg,xh,xl,xk,xj,reduceIte,reduceCtorEq,ya,xz,xu],by simp only [kB,kC,cellsOf,kE,xn,xi,xm,xe,xf,xg,xh,xl,xk,xj,reduceIte,reduceCtorEq,ya,xz,xu],by simp only [kB,kC,cellsOf,kE,xn,xi,xm,xe,xf,xg,xh,xl,xk,xj,reduceIte,reduceCtorEq,ya,xz,xu],0,by omega,by simp only [kB,kC,cellsOf,kE,xn,xi,xm,xe,xf,xg,xh,xl,xk,xj,reduceIte,reduceCtorEq,ya,xz,xu],by simp only [kB,kC,cellsOf,kE,xn,xi,xm,xe,xf,xg,xh,xl,xk,xj,reduceIte,reduceCtorEq,ya,xz,xu]; rfl,by simp [total],rfl⟩
      intro n e s' ⟨L,ver,blk,at_,hs',hB2,k0,k2,k81,k82,i,hin,k83,k3,htot,hfind⟩
      rw [show s' = st++(⟨[s,iA U.params,iA U.regs,iA U.code,iA U.spill,bl,iA blk,iA at_],0,ver⟩ :: (L++[])) by rw [hs',List.append_nil]]
      clear hs' s' g0 g2 h0 h2 e1 e2
      have y1:=hB2.at1
      have yN:=hB2.atN
      obtain ⟨f,hb1,hbo⟩:=hb
      simp only [k0,k2,k81,k82,k83,k3,kB,kC,cellsOf,kE,xn,xi,xm,xe,xf,xg,xh,xl,xk,xj,reduceIte,reduceCtorEq,ya,xz,xu]
      refine condO_intro ?_ ?_<;>intro hc<;>simp only [kB,kC,cellsOf,kE,xn,xi,xm,xe,xf,xg,xh,xl,xk,xj,reduceIte,reduceCtorEq,ya,xz,xu]
      · have hi : i < U.blocks.length:=by have:=of_decide_eq_true hc; omega
        obtain ⟨b1,o1,he1,hn1,_,_⟩:=hb1.get i (by simpa using hi)
        simp only [List.getElem_mapIdx,BlkV.row] at hn1
        have hcell:=isCell_len (hbo i hi).len
        have l3:=(hbo i hi).len
        simp only [List.length_map] at l3
        rw [List.drop_eq_getElem_cons hi] at hfind
        simp only [blkFind] at hfind
        simp only [k0,k2,k81,k82,k83,k3,y1,l2,he1,hn1,hcell,l3,kZ,kB,kC,cellsOf,kE,xn,xi,xm,xe,xf,xg,xh,xl,xk,xj,reduceIte,reduceCtorEq,ya,xz,xu]
        have hbad : (decide (U.blocks[i].catch_ < -1) || decide ((U.blocks.length : Int)≤U.blocks[i].catch_)) = true→outF (findU U) = outC i U.blocks[i].ops.length 2:=fun hb=>by
          rw [hval,← hfind]
          simp only [hb,if_true]
          rfl
        have hcat : (decide (U.blocks[i].catch_ = -1) || regOkA U.blocks.length U.blocks[i].catch_) = !(decide (U.blocks[i].catch_ < -1) || decide ((U.blocks.length : Int)≤U.blocks[i].catch_)):=by
          unfold regOkA
          by_cases q1 : U.blocks[i].catch_ = -1
          · have q2 : ¬ (U.blocks[i].catch_ < -1):=by omega
            have q3 : ¬ ((U.blocks.length : Int)≤U.blocks[i].catch_):=by omega
            simp [q1]
            omega
          · by_cases q2 : U.blocks[i].catch_ < -1
            · have q3 : ¬ (0≤U.blocks[i].catch_):=by omega
              simp [q1,q2,q3]
            · have q3 : 0≤U.blocks[i].catch_:=by omega
              by_cases q4 : (U.blocks.length : Int)≤U.blocks[i].catch_
              · have q5 : ¬ (U.blocks[i].catch_ < U.blocks.length):=by omega
                simp [q1,q2,q3,q4,q5]
              · have q5 : U.blocks[i].catch_ < U.blocks.length:=by omega
                simp [q1,q2,q3,q4,q5]
        refine ⟨kept_loc (j:=L.length + 0) (o:=0) (by simp only [kZ,kB,kC,cellsOf,kE,xn,xi,xm,xe,xf,xg,xh,xl,xk,xj,reduceIte,reduceCtorEq,ya,xz,xu]),?_⟩
        try simp only [k0,k2,k81,k82,k83,k3,y1,l2,he1,hn1,hcell,l3,kZ,kB,kC,cellsOf,kE,xn,xi,xm,xe,xf,xg,xh,xl,xk,xj,reduceIte,reduceCtorEq,ya,xz,xu]
        have hB2a : BoxAt (L++[⟨[f i,iA U.blocks[i].e.k,iA U.blocks[i].e.a,iA U.blocks[i].e.t,iA U.blocks[i].e.e,iA U.blocks[i].catch_],0,1⟩]) 0 [s,iA U.params,iA U.regs,iA U.code,iA U.spill,bl]:=hB2.ext (Ext.of _ _)
        have hB5a : BoxAt (L++[⟨[f i,iA U.blocks[i].e.k,iA U.blocks[i].e.a,iA U.blocks[i].e.t,iA U.blocks[i].e.e,iA U.blocks[i].catch_],0,1⟩]) (L.length + 0) [f i,iA U.blocks[i].e.k,iA U.blocks[i].e.a,iA U.blocks[i].e.t,iA U.blocks[i].e.e,iA U.blocks[i].catch_]:=BoxAt.last _ _ _
        refine cutG m0 [0,2,3,4,5,81,82,83] (fun _=>(decide (U.blocks[i].catch_ < -1) || decide ((U.blocks.length : Int)≤U.blocks[i].catch_)) = false) ?_ ?_
        · refine gO_f ?_ ?_<;>intro hq<;>simp only [k0,k2,k81,k82,k83,k3,y1,l2,hq,kZ,kB,kC,cellsOf,kE,xn,xi,xm,xe,xf,xg,xh,xl,xk,xj,reduceIte,reduceCtorEq,ya,xz,xu]
          · refine callO_must h (BoxAt.head _ _ _ _) (by decide) ?_ ?_<;>intro hq2
            · rw [hq,Bool.true_or] at hcat
              have:=congrArg (! ·) hcat
              simp only [Bool.not_not,Bool.not_true] at this
              simp only [←this,kZ,kB,kC,cellsOf,kE,xn,xi,xm,xe,xf,xg,xh,xl,xk,xj,reduceIte,reduceCtorEq,ya,xz,xu]
            · cases hq2
          · refine callO_same (j_code_within h _ _) ?_
            simp only [k0,k2,k81,k82,k83,k3,kZ,kB,kC,cellsOf,kE,xn,xi,xm,xe,xf,xg,xh,xl,xk,xj,reduceIte,reduceCtorEq,ya,xz,xu]
            refine callO_must h (BoxAt.head _ _ _ _) (by decide) ?_ ?_<;>intro hq2
            · rw [hq2,Bool.or_true] at hcat
              have:=congrArg (! ·) hcat
              simp only [Bool.not_not,Bool.not_true] at this
              simp only [←this,kZ,kB,kC,cellsOf,kE,xn,xi,xm,xe,xf,xg,xh,xl,xk,xj,reduceIte,reduceCtorEq,ya,xz,xu]
            · rw [hq,hq2,Bool.or_self] at hcat
              have:=congrArg (! ·) hcat
              simp only [Bool.not_not,Bool.not_false] at this
              simp only [hbad this.symm,outC_ne (e:=2) (by decide),kZ,kB,kC,cellsOf,kE,xn,xi,xm,xe,xf,xg,xh,xl,xk,xj,reduceIte,reduceCtorEq,ya,xz,xu]
              first | exact ⟨_,rfl⟩ | exact ⟨rfl,_,rfl⟩ | exact ⟨trivial,_,rfl⟩ | exact ⟨[],(List.append_nil _).symm⟩
        · intro e5 hL5 hcatok
          simp only [hcatok,Bool.false_eq_true,if_false] at hfind
          clear hbad hcat
          simp only [k0,k2,k81,k82,k83,k3,kZ,kB,kC,cellsOf,kE,xn,xi,xm,xe,xf,xg,xh,xl,xk,xj,reduceIte,reduceCtorEq,ya,xz,xu] at hL5
          obtain ⟨m0',m2,m3,m4,m5,m81,m82,m83⟩:=hL5
          clear k0 k2 k81 k82 k83 k3
          have z1:=hB2a.at1
          have z5:=hB5a.at1
          have z5N:=hB5a.atN
          generalize hL2 : L++[⟨[f i,iA U.blocks[i].e.k,iA U.blocks[i].e.a,iA U.blocks[i].e.t,iA U.blocks[i].e.e,iA U.blocks[i].catch_],0,1⟩] = L2 at *
          simp only [Nat.add_zero] at z5 z5N
          rw [show L2 = L2++[] by simp]
          simp only [m0',m2,m3,m4,m5,m81,m82,m83,z1,z5,l3,kB,kC,cellsOf,kE,xn,xi,xm,xe,xf,xg,xh,xl,xk,xj,reduceIte,reduceCtorEq,ya,xz,xu]
          refine callO_must h (BoxAt.head _ _ _ _) (by decide) ?_ ?_<;>intro hq4
          case refine_2 =>
            have h400 : decide (400 < (U.blocks[i].ops.length : Int)) = true:=by
              have:=of_decide_eq_false hq4
              exact decide_eq_true (by omega)
            have : outF (findU U) = outC i U.blocks[i].ops.length 3:=by
              rw [hval,← hfind]
              simp only [h400,if_true]
              rfl
            simp only [this,outC_ne (e:=3) (by decide),kB,kC,cellsOf,kE,xn,xi,xm,xe,xf,xg,xh,xl,xk,xj,reduceIte,reduceCtorEq,ya,xz,xu]
            first | exact ⟨_,rfl⟩ | exact ⟨rfl,_,rfl⟩ | exact ⟨trivial,_,rfl⟩ | exact ⟨[],(List.append_nil _).symm⟩
          have hle : U.blocks[i].ops.length≤400:=by have:=of_decide_eq_true hq4; omega
          have h400 : decide (400 < (U.blocks[i].ops.length : Int)) = false:=decide_eq_false (by omega)
          simp only [h400,Bool.false_eq_true,if_false] at hfind
          simp only [m0',m2,m3,m4,m5,m81,m82,m83,z1,z5,l3,kB,kC,cellsOf,kE,xn,xi,xm,xe,xf,xg,xh,xl,xk,xj,reduceIte,reduceCtorEq,ya,xz,xu]
          refine loop_inv (fun n e s'=>∃ (L3 : St) (ver : Nat) (at_ : Int),s' = st++(⟨[s,iA U.params,iA U.regs,iA U.code,iA U.spill,bl,iA i,iA at_],0,ver⟩ :: L3)∧BoxAt L3 0 [s,iA U.params,iA U.regs,iA U.code,iA U.spill,bl]∧BoxAt L3 L.length [f i,iA U.blocks[i].e.k,iA U.blocks[i].e.a,iA U.blocks[i].e.t,iA U.blocks[i].e.e,iA U.blocks[i].catch_] ∧
            e 0 = .ptr (st.length + 0) 0∧e 2 = .ptr (st.length + 1) 0∧e 3 = iA (total (U.blocks.take i))∧e 5 = .ptr (st.length + (L.length + 0 + 1)) 0∧e 81 = bl∧e 82 = iA U.blocks.length∧e 83 = iA i∧e 118 = f i∧e 119 = iA U.blocks[i].ops.length ∧
            ∃ k : Nat,k + n = U.blocks[i].ops.length∧e 120 = iA k∧opsFind U i k (U.blocks[i].ops.drop k) = opsFind U i 0 U.blocks[i].ops) ?_ U.blocks[i].ops.length ?_
          case refine_2 =>
            refine ⟨L2,_,_,by rw [List.append_nil],hB2a,by simpa using hB5a,?_,?_,?_,?_,?_,?_,?_,?_,?_,0,by omega,?_,rfl⟩
            all_goals simp only [m0',m2,m3,m4,m5,m81,m82,m83,kB,kC,cellsOf,kE,xn,xi,xm,xe,xf,xg,xh,xl,xk,xj,reduceIte,reduceCtorEq,ya,xz,xu]
            all_goals rfl
          clear z1 z5 z5N m0' m2 m3 m4 m5 m81 m82 m83 e5 hB2a hB5a y1 yN hL2
          intro n2 e6 s6 ⟨L3,ver3,at3,hs6,c2,c5,k0,k2,k3,k5,k81,k82,k83,k118,k119,k,hk,k120,hof⟩
          rw [show s6 = st++(⟨[s,iA U.params,iA U.regs,iA U.code,iA U.spill,bl,iA i,iA at3],0,ver3⟩ :: (L3++[])) by rw [hs6,List.append_nil]]
          clear hs6 s6
          have z1:=c2.at1
          have z5:=c5.at1
          have z5N:=c5.atN
          simp only [k0,k2,k3,k5,k81,k82,k83,k118,k119,k120,kB,kC,cellsOf,kE,xn,xi,xm,xe,xf,xg,xh,xl,xk,xj,reduceIte,reduceCtorEq,ya,xz,xu]
          refine condO_intro ?_ ?_<;>intro hc6<;>simp only [kB,kC,cellsOf,kE,xn,xi,xm,xe,xf,xg,xh,xl,xk,xj,reduceIte,reduceCtorEq,ya,xz,xu]
          · have hk2 : k < U.blocks[i].ops.length:=by have:=of_decide_eq_true hc6; omega
            obtain ⟨b2,o2,he2,hn2,_,_⟩:=(hbo i hi).get k (by simpa using hk2)
            simp only [List.getElem_map,OpV.row] at hn2
            rw [List.drop_eq_getElem_cons hk2] at hof
            simp only [opsFind] at hof
            simp only [k0,k2,k3,k5,k81,k82,k83,k118,k119,k120,l3,he2,hn2,kZ,kB,kC,cellsOf,kE,xn,xi,xm,xe,xf,xg,xh,xl,xk,xj,reduceIte,reduceCtorEq,ya,xz,xu]
            refine callO_out (j_code_op h (hg.ext (Ext.of _ _)) l1 l2 hsp (BoxAt.head _ _ _ _) _ _ _ _ _ _ _) ?_ ?_<;>intro hq7
            · have hx : opsFind U i (k + 1) ((U.blocks[i].ops).drop (k + 1)) = opsFind U i 0 U.blocks[i].ops:=by
                rw [←hof]
                refine (if_neg ?_).symm
                intro hd
                exact (of_decide_eq_true hd) hq7
              simp only [k0,k2,k3,k5,k81,k82,k83,k118,k119,k120,kZ,kB,kC,cellsOf,kE,xn,xi,xm,xe,xf,xg,xh,xl,xk,xj,reduceIte,reduceCtorEq,ya,xz,xu]
              rw [wrap_small (by omega) (by omega)]
              exact ⟨n2 - 1,by omega,_,_,_,rfl,c2.ext (Ext.of _ _),c5.ext (Ext.of _ _),k + 1,by omega,by simp,hx⟩
            · have hx : opsFind U i 0 U.blocks[i].ops = some (opErrU U (U.blocks[i].ops)[k],(i : Int),(k : Int)):=by
                rw [←hof]
                exact if_pos (decide_eq_true hq7)
              rw [hx] at hfind
              simp only at hfind
              have : outF (findU U) = outC i k (opErrU U (U.blocks[i].ops)[k]):=by
                rw [hval,← hfind]
                rfl
              have hq8 : opErrU U (U.blocks[i].ops)[k]≠0:=hq7
              simp only [this,outC_ne hq8,kZ,kB,kC,cellsOf,kE,xn,xi,xm,xe,xf,xg,xh,xl,xk,xj,reduceIte,reduceCtorEq,ya,xz,xu]
              first
                | first | exact ⟨_,rfl⟩ | exact ⟨rfl,_,rfl⟩ | exact ⟨trivial,_,rfl⟩ | exact ⟨[],(List.append_nil _).symm⟩
                | fail
          · have hk2 : k = U.blocks[i].ops.length:=by have:=of_decide_eq_false hc6; omega
            rw [←hof,List.drop_eq_nil_of_le (by omega)] at hfind
            simp only [opsFind] at hfind
            simp only [k0,k2,k3,k5,k81,k82,k83,k118,k119,k120,z1,z5,z5N,l3,kZ,kB,kC,cellsOf,kE,xn,xi,xm,xe,xf,xg,xh,xl,xk,xj,reduceIte,reduceCtorEq,ya,xz,xu]
            refine callO_out (j_code_end h l2 (BoxAt.head _ _ _ _) _ _ _ _) ?_ ?_<;>intro hq7
            · have hd : decide (endErrU U U.blocks[i].e≠0) = false:=decide_eq_false (fun hn=>hn hq7)
              simp only [hd,Bool.false_eq_true,if_false] at hfind
              have htk : total (U.blocks.take (i + 1)) = total (U.blocks.take i) + U.blocks[i].ops.length:=by
                unfold total
                rw [List.take_succ_eq_append_getElem hi]
                simp only [List.map_append,List.map_cons,List.map_nil,List.sum_append,List.sum_cons,List.sum_nil,Nat.add_zero]
              simp only [k0,k2,k3,k5,k81,k82,k83,k118,k119,k120,z1,z5,z5N,l3,kZ,kB,kC,cellsOf,kE,xn,xi,xm,xe,xf,xg,xh,xl,xk,xj,reduceIte,reduceCtorEq,ya,xz,xu]
              rw [wrap_small (by omega) (by omega)]
              try rw [wrap_small (by omega) (by omega)]
              refine ⟨n - 1,by omega,_,_,_,_,rfl,c2.ext (Ext.of _ _),i + 1,by omega,by simp,by rw [htk]; simp,by omega,hfind⟩
            · have hd : decide (endErrU U U.blocks[i].e≠0) = true:=decide_eq_true hq7
              have : outF (findU U) = outC i U.blocks[i].ops.length (endErrU U U.blocks[i].e):=by
                rw [hval,← hfind]
                simp only [hd,if_true]
                rfl
              have hq8 : endErrU U U.blocks[i].e≠0:=hq7
              simp only [this,outC_ne hq8,kZ,kB,kC,cellsOf,kE,xn,xi,xm,xe,xf,xg,xh,xl,xk,xj,reduceIte,reduceCtorEq,ya,xz,xu]
              first
                | first | exact ⟨_,rfl⟩ | exact ⟨rfl,_,rfl⟩ | exact ⟨trivial,_,rfl⟩ | exact ⟨[],(List.append_nil _).symm⟩
                | fail
      · have hi : i = U.blocks.length:=by have:=of_decide_eq_false hc; omega
        have t1 : U.blocks.take i = U.blocks:=List.take_of_length_le (by omega)
        have t2 : U.blocks.drop i = []:=List.drop_eq_nil_of_le (by omega)
        rw [t1] at k3
        rw [t2] at hfind
        simp only [blkFind] at hfind
        rw [←hfind] at hval
        simp only at hval
        simp only [k0,k2,k3,kZ,kB,kC,cellsOf,kE,xn,xi,xm,xe,xf,xg,xh,xl,xk,xj,reduceIte,reduceCtorEq,ya,xz,xu]
        refine callO_must h (BoxAt.head _ _ _ _) (by decide) ?_ ?_<;>intro hq
        · have : outF (findU U) = .ret (.tup []):=by
            have h2 : decide (20000 < (total U.blocks : Int)) = false:=by
              have:=of_decide_eq_true hq
              exact decide_eq_false (by omega)
            rw [hval,h2]
            rfl
          simp only [this,kZ,kB,kC,cellsOf,kE,xn,xi,xm,xe,xf,xg,xh,xl,xk,xj,reduceIte,reduceCtorEq,ya,xz,xu]
          first | exact ⟨_,rfl⟩ | exact ⟨rfl,_,rfl⟩ | exact ⟨trivial,_,rfl⟩ | exact ⟨[],(List.append_nil _).symm⟩
        · have : outF (findU U) = outC 0 0 3:=by
            have h2 : decide (20000 < (total U.blocks : Int)) = true:=by
              have:=of_decide_eq_false hq
              exact decide_eq_true (by omega)
            rw [hval,h2]
            rfl
          simp only [this,outC_ne (e:=3) (by decide),kZ,kB,kC,cellsOf,kE,xn,xi,xm,xe,xf,xg,xh,xl,xk,xj,reduceIte,reduceCtorEq,ya,xz,xu]
          first | exact ⟨_,rfl⟩ | exact ⟨rfl,_,rfl⟩ | exact ⟨trivial,_,rfl⟩ | exact ⟨[],(List.append_nil _).symm⟩
end
end Go.VX.Seat
end
section
set_option maxRecDepth 4000
namespace Go.VX.Seat
open Go.Proofs
def AppOk (s : St) (w : AV) : Prop:=∀ b o n e full,w = .sl b o n e full→full = true∨((s[b]?).map (·.mode)) = some 0
structure OwnS (s : St) (lo : Nat) (w : AV) (esz : Nat) (rows : List (List AV)) : Prop where
  arr : ArrAt s lo s.length w esz rows
  bnd : ∀ b,boxOf w = some b→lo≤b∧b < s.length
  app : AppOk s w
def ExactBox (s : St) (w : AV) (esz : Nat) (rows : List (List AV)) : Prop:=rows≠[]→∃ b full ver,w = .sl b 0 rows.length esz full∧s[b]? = some ⟨rows.flatten,0,ver⟩
theorem nil_or_sl {v : AV} {n : Nat} (h : lenA v = some n) : (v = .sc (.slice none 0 0)∧n = 0)∨∃ b o e f,v = .sl b o n e f:=by
  unfold lenA at h
  split at h
  · cases h; exact .inr ⟨_,_,_,_,rfl⟩
  · cases h; exact .inl ⟨rfl,rfl⟩
  · cases h
theorem emptyArr (st : St) (lo hi esz : Nat) : ArrAt st lo hi (.sc (.slice none 0 0)) esz [] where
  len:=rfl
  size:=fun b o len e f h=>by cases h
  row:=fun i h=>absurd h (by simp)
theorem _root_.Go.VX.ArrAt.wide' {st : St} {lo hi lo' hi' : Nat} {v : AV} {esz : Nat} {rows : List (List AV)} (h : ArrAt st lo hi v esz rows) (h1 : lo'≤lo) (h2 : hi≤hi') : ArrAt st lo' hi' v esz rows where
  len:=h.len
  size:=h.size
  row:=fun i hi=>by
    obtain ⟨b,o,a1,a2,a3,a4⟩:=h.row i hi
    exact ⟨b,o,a1,by omega,by omega,a4⟩
theorem _root_.Go.VX.ArrAt.wide {st : St} {lo hi hi' : Nat} {v : AV} {esz : Nat} {rows : List (List AV)} (h : ArrAt st lo hi v esz rows) (h2 : hi≤hi') : ArrAt st lo hi' v esz rows:=h.wide' (Nat.le_refl _) h2
theorem own_nil (s : St) (lo esz : Nat) : OwnS s lo (.sc (.slice none 0 0)) esz []:=⟨emptyArr _ _ _ _,fun b h=>(by cases h),fun b o n e full h=>(by cases h)⟩
section
variable {X : Cx} {st : St}
end
end Go.VX.Seat
end
section
set_option maxRecDepth 4000
namespace Go.VX.Seat
open Go.Proofs
theorem OwnS.agree {X : Nat→Prop} {s s' : St} {lo esz : Nat} {w : AV} {rows : List (List AV)} (h : OwnS s lo w esz rows) (ha : Agree X s s') (hx : ∀ b,boxOf w = some b→¬ X b) : OwnS s' lo w esz rows where
  arr:=(h.arr.agree ha hx).wide ha.len
  bnd:=fun b hb=>⟨(h.bnd b hb).1,Nat.lt_of_lt_of_le (h.bnd b hb).2 ha.len⟩
  app:=fun b o n e full hw=>by
    have hb : boxOf w = some b:=by rw [hw]; rfl
    rcases h.app b o n e full hw with h1 | h1
    · exact .inl h1
    · exact .inr (by rw [ha.eq b (h.bnd b hb).2 (hx b hb)]; exact h1)
theorem OwnS.low {s : St} {lo lo' esz : Nat} {w : AV} {rows : List (List AV)} (h : OwnS s lo w esz rows) (hl : lo'≤lo) : OwnS s lo' w esz rows where
  arr:=h.arr.wide' hl (Nat.le_refl _)
  bnd:=fun b hb=>⟨Nat.le_trans hl (h.bnd b hb).1,(h.bnd b hb).2⟩
  app:=h.app
theorem ExactBox.agree {X : Nat→Prop} {s s' : St} {esz : Nat} {w : AV} {rows : List (List AV)} (h : ExactBox s w esz rows) (ha : Agree X s s') (hx : ∀ b,boxOf w = some b→¬ X b) : ExactBox s' w esz rows:=fun hne=>by
  obtain ⟨b,full,ver,rfl,hb⟩:=h hne
  exact ⟨b,full,ver,rfl,by rw [ha.eq b (List.getElem?_eq_some_iff.1 hb).1 (hx b rfl)]; exact hb⟩
def blkRows (l : List BlkV) (f : Nat→AV) : List (List AV):=l.mapIdx fun i b=>b.row (f i)
theorem blkRows_length (l : List BlkV) (f : Nat→AV) : (blkRows l f).length = l.length:=by simp [blkRows]
structure OwnB (s : St) (lo : Nat) (bl : AV) (f : Nat→AV) (l : List BlkV) : Prop where
  own : OwnS s lo bl 6 (blkRows l f)
  box : ExactBox s bl 6 (blkRows l f)
  ops : ∀ i (h : i < l.length),OwnS s lo (f i) 7 (l[i].ops.map OpV.row)
  sep1 : ∀ i,i < l.length→∀ b,boxOf bl = some b→boxOf (f i)≠some b
  sep2 : ∀ i j,i < l.length→j < l.length→i≠j→∀ b,boxOf (f i) = some b→boxOf (f j)≠some b
structure OwnZ (s : St) (lo : Nat) (sz bl : AV) (f : Nat→AV) (zs : List Int) (l : List BlkV) : Prop where
  own : OwnS s lo sz 1 (zs.map fun n=>[iA n])
  sep : ∀ b,boxOf sz = some b→boxOf bl≠some b∧∀ i,i < l.length→boxOf (f i)≠some b
structure OwnU (s : St) (lo : Nat) (v : AV) (U : UnitV) : Prop where
  ex : ∃ sz bl f,v = .agg [sz,iA U.params,iA U.regs,iA U.code,iA U.spill,bl]∧OwnZ s lo sz bl f U.sizes U.blocks∧OwnB s lo bl f U.blocks
theorem OwnB.agree {X : Nat→Prop} {s s' : St} {lo : Nat} {bl : AV} {f : Nat→AV} {l : List BlkV} (h : OwnB s lo bl f l) (ha : Agree X s s') (hx : ∀ b,lo≤b→b < s.length→¬ X b) : OwnB s' lo bl f l where
  own:=h.own.agree ha fun b hb=>hx b (h.own.bnd b hb).1 (h.own.bnd b hb).2
  box:=h.box.agree ha fun b hb=>hx b (h.own.bnd b hb).1 (h.own.bnd b hb).2
  ops:=fun i hi=>(h.ops i hi).agree ha fun b hb=>hx b ((h.ops i hi).bnd b hb).1 ((h.ops i hi).bnd b hb).2
  sep1:=h.sep1
  sep2:=h.sep2
theorem OwnZ.agree {X : Nat→Prop} {s s' : St} {lo : Nat} {sz bl : AV} {f : Nat→AV} {zs : List Int} {l : List BlkV} (h : OwnZ s lo sz bl f zs l) (ha : Agree X s s') (hx : ∀ b,lo≤b→b < s.length→¬ X b) : OwnZ s' lo sz bl f zs l where
  own:=h.own.agree ha fun b hb=>hx b (h.own.bnd b hb).1 (h.own.bnd b hb).2
  sep:=h.sep
theorem OwnU.agree {X : Nat→Prop} {s s' : St} {lo : Nat} {v : AV} {U : UnitV} (h : OwnU s lo v U) (ha : Agree X s s') (hx : ∀ b,lo≤b→b < s.length→¬ X b) : OwnU s' lo v U :=
  let ⟨sz,bl,f,e,hz,hb⟩:=h.ex
  ⟨sz,bl,f,e,hz.agree ha hx,hb.agree ha hx⟩
theorem OwnB.blks {s : St} {lo : Nat} {bl : AV} {f : Nat→AV} {l : List BlkV} (h : OwnB s lo bl f l) : BlksAt s lo s.length bl l:=⟨f,h.own.arr,fun i hi=>(h.ops i hi).arr⟩
theorem OwnU.unit {s : St} {lo : Nat} {v : AV} {U : UnitV} (h : OwnU s lo v U) : UnitAt s lo s.length v U :=
  let ⟨sz,bl,f,e,hz,hb⟩:=h.ex
  ⟨sz,bl,e,hz.own.arr,hb.blks⟩
theorem blkRows_snoc (l : List BlkV) (f : Nat→AV) (b : BlkV) (w : AV) : blkRows (l++[b]) (fun j=>if j = l.length then w else f j) = blkRows l f++[b.row w]:=by
  unfold blkRows
  apply List.ext_getElem
  · simp
  · intro i h1 h2
    simp only [List.getElem_mapIdx]
    by_cases hi : i < l.length
    · rw [List.getElem_append_left hi,List.getElem_append_left (by simpa using hi),List.getElem_mapIdx,if_neg (by omega)]
    · simp at h1
      have : i = l.length:=by omega
      subst this
      simp
theorem OwnB.snoc {X : Nat→Prop} {s s3 : St} {lo : Nat} {bl bl' w : AV} {f : Nat→AV} {l : List BlkV} {b : BlkV} (hB : OwnB s lo bl f l) (ha : Agree X s s3) (hX : ∀ n,n < s.length→X n→boxOf bl = some n) (hw : OwnS s3 lo w 7 (b.ops.map OpV.row)) (hwn : ∀ n,boxOf w = some n→s.length≤n)
    (hown : OwnS s3 lo bl' 6 (blkRows l f++[b.row w])) (hex : ExactBox s3 bl' 6 (blkRows l f++[b.row w])) (hbl : ∀ n,boxOf bl' = some n→s.length≤n∧boxOf w≠some n) : OwnB s3 lo bl' (fun j=>if j = l.length then w else f j) (l++[b]) where
  own:=by rw [blkRows_snoc]; exact hown
  box:=by rw [blkRows_snoc]; exact hex
  ops:=fun i hi=>by
    by_cases h : i < l.length
    · simp only [List.getElem_append_left h]
      rw [if_neg (by omega)]
      exact (hB.ops i h).agree ha fun n hn hx=>hB.sep1 i h n (hX n ((hB.ops i h).bnd n hn).2 hx) hn
    · simp at hi
      have : i = l.length:=by omega
      subst this
      simpa using hw
  sep1:=fun i hi n hn=>by
    have h1:=hbl n hn
    by_cases h : i < l.length
    · rw [if_neg (by omega)]
      intro h2
      have:=((hB.ops i h).bnd n h2).2
      omega
    · simp at hi
      rw [if_pos (by omega)]
      exact h1.2
  sep2:=fun i j hi hj hij n hn=>by
    simp at hi hj
    by_cases h : i < l.length<;>by_cases h' : j < l.length
    · rw [if_neg (by omega)] at hn ⊢
      exact hB.sep2 i j h h' hij n hn
    · rw [if_neg (by omega)] at hn
      rw [if_pos (by omega)]
      intro h2
      have:=((hB.ops i h).bnd n hn).2
      have:=hwn n h2
      omega
    · rw [if_pos (by omega)] at hn
      rw [if_neg (by omega)]
      intro h2
      have:=((hB.ops j h').bnd n h2).2
      have:=hwn n hn
      omega
    · omega
theorem OwnZ.snoc {X : Nat→Prop} {s s3 : St} {lo : Nat} {sz bl bl' w : AV} {f : Nat→AV} {zs : List Int} {l : List BlkV} {b : BlkV} (hZ : OwnZ s lo sz bl f zs l) (ha : Agree X s s3) (hX : ∀ n,n < s.length→X n→boxOf bl = some n) (hwn : ∀ n,boxOf w = some n→s.length≤n) (hbl : ∀ n,boxOf bl' = some n→s.length≤n) :
    OwnZ s3 lo sz bl' (fun j=>if j = l.length then w else f j) zs (l++[b]) where
  own:=hZ.own.agree ha fun n hn hx=>(hZ.sep n hn).1 (hX n (hZ.own.bnd n hn).2 hx)
  sep:=fun n hn=>by
    have h0:=(hZ.own.bnd n hn).2
    refine ⟨fun h=>by have:=hbl n h; omega,fun i hi h=>?_⟩
    simp at hi
    by_cases h' : i < l.length
    · rw [if_neg (by omega)] at h
      exact (hZ.sep n hn).2 i h' h
    · rw [if_pos (by omega)] at h
      have:=hwn n h
      omega
theorem OwnB.low {s : St} {lo lo' : Nat} {bl : AV} {f : Nat→AV} {l : List BlkV} (h : OwnB s lo bl f l) (hl : lo'≤lo) : OwnB s lo' bl f l :=
  ⟨h.own.low hl,h.box,fun i hi=>(h.ops i hi).low hl,h.sep1,h.sep2⟩
theorem OwnZ.low {s : St} {lo lo' : Nat} {sz bl : AV} {f : Nat→AV} {zs : List Int} {l : List BlkV} (h : OwnZ s lo sz bl f zs l) (hl : lo'≤lo) : OwnZ s lo' sz bl f zs l:=⟨h.own.low hl,h.sep⟩
theorem OwnU.low {s : St} {lo lo' : Nat} {v : AV} {U : UnitV} (h : OwnU s lo v U) (hl : lo'≤lo) : OwnU s lo' v U :=
  let ⟨sz,bl,f,e,hz,hb⟩:=h.ex
  ⟨sz,bl,f,e,hz.low hl,hb.low hl⟩
theorem srcCells_arr {s : St} {lo hi esz : Nat} {v : AV} {rows : List (List AV)} (h : ArrAt s lo hi v esz rows) : srcCells s esz rows.length v = some rows.flatten:=by
  by_cases hr : rows = []
  · subst hr
    have hl:=h.len
    rcases nil_or_sl hl with ⟨rfl,_⟩ | ⟨b,o,e,f,rfl⟩
    · rfl
    · obtain ⟨h1,h2⟩:=h.size _ _ _ _ _ rfl
      subst h1
      simp only [srcCells,List.length_nil,Nat.le_refl,true_and,if_true,Nat.zero_mul,h2,List.flatten_nil]
  · exact h.src hr
theorem append_own {P : Program} {env : Env} {s : St} {lo lo' hi' esz bytes : Nat} {x y : VOpd} {rows rows2 : List (List AV)} (hx : OwnS s lo (x.ev env) esz rows) (hlo : lo≤s.length) (hy : ArrAt s lo' hi' (y.ev env) esz rows2)
    (hsz : (rows.length + rows2.length) * (bytes + 1)≤1000000000) (hc : rows2.flatten.all AV.isCell = true) :
    ∃ w s',vop P (.append esz bytes x y) env s = some (.val w,s')∧Agree (fun b=>rows2≠[]∧boxOf (x.ev env) = some b) s s'∧OwnS s' lo w esz (rows++rows2) ∧
      ((rows2 = []∧w = x.ev env∧s' = s)∨(rows2≠[]∧boxOf w = some s.length∧ExactBox s' w esz (rows++rows2))):=by
  have l1:=hx.arr.len
  have l2:=hy.len
  have q1:=srcLen_len l1
  have q2:=srcLen_len l2
  have q3:=srcCells_arr hx.arr
  have q4:=srcCells_arr hy
  have hrl : ∀ r ∈ rows++rows2,r.length = esz:=fun r hr=>by
    rcases List.mem_append.1 hr with hr | hr
    · exact hx.arr.rowlen r hr
    · exact hy.rowlen r hr
  have key : ∀ (s1 : St) (X : Nat→Prop),s1.length = s.length→Agree X s s1→(∀ b,X b→boxOf (x.ev env) = some b)→rows2≠[]→vop P (.append esz bytes x y) env s = some (.val (.sl s.length 0 (rows.length + rows2.length) esz false),s1++[⟨rows.flatten++rows2.flatten,0,0⟩]) →
      ∃ w s',vop P (.append esz bytes x y) env s = some (.val w,s')∧Agree (fun b=>rows2≠[]∧boxOf (x.ev env) = some b) s s'∧OwnS s' lo w esz (rows++rows2) ∧
      ((rows2 = []∧w = x.ev env∧s' = s)∨(rows2≠[]∧boxOf w = some s.length∧ExactBox s' w esz (rows++rows2))):=by
    intro s1 X hl1 ha hX hne hv
    have hb : (s1++[⟨rows.flatten++rows2.flatten,0,0⟩])[s.length]? = some ⟨(rows++rows2).flatten,0,0⟩:=by
      rw [List.getElem?_append_right (by omega),hl1]; simp
    refine ⟨_,_,hv,?_,⟨(ArrAt.ofBox hb (by decide) hrl (by simp)).wide' hlo (by simp [hl1]),fun b h=>?_,fun b o n e full h=>?_⟩,.inr ⟨hne,rfl,fun _=>⟨_,_,_,by rw [List.length_append],hb⟩⟩⟩
    · have:=ha.trans (Agree.app (fun _=>False) s1 [⟨rows.flatten++rows2.flatten,0,0⟩])
      exact this.mono fun n _ h=>by
        rcases h with h | h
        · exact ⟨hne,hX n h⟩
        · exact h.elim
    · cases h
      simp [hl1]
      exact hlo
    · cases h
      exact .inr (by rw [hb]; rfl)
  rcases nil_or_sl l1 with ⟨he,h0⟩ | ⟨b,o,e,f,he⟩
  · have hr : rows = []:=List.length_eq_zero_iff.1 h0
    subst hr
    by_cases hne : rows2 = []
    · subst hne
      refine ⟨_,s,?_,Agree.refl _ _,by simpa using hx,.inl ⟨rfl,rfl,rfl⟩⟩
      simp only [List.length_nil] at q1 q2 q3 q4
      rw [he] at q1 q3 ⊢
      simp only [vop,he,q1,q2,q3,q4]
      rw [if_pos (by simp)]
      rfl
    · refine key s (fun _=>False) rfl (Agree.refl _ _) (fun _ h=>h.elim) hne ?_
      have hm : rows2.length≠0:=fun h=>hne (List.length_eq_zero_iff.1 h)
      simp only [List.length_nil] at q1 q3 hsz
      rw [he] at q1 q3
      simp only [vop,he,q1,q2,q3,q4]
      rw [if_pos (by simpa using hsz)]
      simp only [hm,if_false,List.length_nil,List.flatten_nil,List.nil_append]
  · have h1:=(hx.arr.size _ _ _ _ _ he).1
    subst h1
    by_cases hne : rows2 = []
    · subst hne
      refine ⟨_,s,?_,Agree.refl _ _,by simpa using hx,.inl ⟨rfl,rfl,rfl⟩⟩
      simp only [List.length_nil] at q2 q4
      rw [he] at q1 q3 ⊢
      simp only [vop,he,q1,q2,q3,q4]
      rw [if_pos (by simpa using hsz)]
      rfl
    · have hm : rows2.length≠0:=fun h=>hne (List.length_eq_zero_iff.1 h)
      rw [he] at q1 q3
      cases f with
      | true =>
        refine key s (fun _=>False) rfl (Agree.refl _ _) (fun _ h=>h.elim) hne ?_
        simp only [vop,he,q1,q2,q3,q4]
        rw [if_pos hsz]
        simp only [hm,if_false,if_true]
      | false =>
        have hm0 : ((s[b]?).map (·.mode)) = some 0:=by
          rcases hx.app _ _ _ _ _ he with h | h
          · cases h
          · exact h
        refine key (s.kill b) (fun n=>n = b) ?_ (Agree.kill s b) (fun n hn=>by rw [he,hn]; rfl) hne ?_
        · unfold St.kill
          split<;>simp
        · simp only [vop,he,q1,q2,q3,q4]
          rw [if_pos hsz]
          simp only [hm,if_false,Bool.false_eq_true]
          rw [if_pos ⟨hm0,hc⟩]
theorem opR_append {X : Cx} {K : Env→St→Post3→Prop} {Q : Post3} {d : Option Nat} {k : List VOpd} {env : Env} {s : St} {lo lo' hi' esz bytes : Nat} {x y : VOpd} {rows rows2 : List (List AV)} {vx vy : AV} (ex : x.ev env = vx) (ey : y.ev env = vy) (hx : OwnS s lo vx esz rows) (hlo : lo≤s.length) (hy : ArrAt s lo' hi' vy esz rows2)
    (hsz : (rows.length + rows2.length) * (bytes + 1)≤1000000000) (hc : rows2.flatten.all AV.isCell = true)
    (h : ∀ w s',Agree (fun b=>rows2≠[]∧boxOf vx = some b) s s'→OwnS s' lo w esz (rows++rows2)→((rows2 = []∧w = vx∧s' = s)∨(rows2≠[]∧boxOf w = some s.length∧ExactBox s' w esz (rows++rows2))) →
      keptA env s s' k = true∧K (env.put d w) s' Q) : opR X K d k env s Q (vop X.P (.append esz bytes x y) env s):=by
  subst ex; subst ey
  obtain ⟨w,s',hv,h1,h2,h3⟩:=append_own (P:=X.P) hx hlo hy hsz hc
  rw [hv]
  exact h w s' h1 h2 h3
theorem opR_pre {X : Cx} {K : Env→St→Post3→Prop} {Q : Post3} {d : Option Nat} {k : List VOpd} {env : Env} {s : St} {lo hi esz n : Nat} {x y : VOpd} {rows : List (List AV)} {vx : AV} (ex : x.ev env = vx) (ey : asNat? (y.ev env) = some n) (hx : ArrAt s lo hi vx esz rows) (hn : n≤rows.length)
    (h : ∀ w,ArrAt s lo hi w esz (rows.take n)→keptA env s s k = true∧K (env.put d w) s Q) : opR X K d k env s Q (vop X.P (.slice none esz x none (some y) none) env s):=by
  subst ex
  obtain ⟨w,hw,ha⟩:=hx.pre n hn
  rw [v_slice_pre X.P env s esz x y n ey,hw]
  exact h w ha
theorem wpF_go {X : Cx} {st : St} {f : FuncId} {fn : VFun} {args : List AV} {R : CRes→St→Prop} (hF : X.F f = some fn) (h : xC X fn.body (envOf args) (st++[]) (bodK fn.res R)) : wpF X f args st R:=by
  rw [List.append_nil] at h
  exact wpF_intro hF h
end Go.VX.Seat
end
section
set_option maxRecDepth 4000
namespace Go.VX.Seat
open Go.Proofs
theorem kept_app (env : Env) (st m : St) (l : List VOpd) : keptA env st (st++m) l = true:=by
  unfold keptA
  rw [List.all_eq_true]
  intro x _
  split
  · rename_i b o hb
    split
    · rename_i p hp
      rw [List.getElem?_append_left (List.getElem?_eq_some_iff.1 hp).1,hp]
      simp
    · rfl
  · rfl
theorem own_setrow {s : St} {lo esz : Nat} {v : AV} {rows : List (List AV)} (hown : OwnS s lo v esz rows) (hex : ExactBox s v esz rows) (i : Nat) (hi : i < rows.length) (k : Nat) (vs : List AV) (hk : k + vs.length≤esz) (hc : vs.all AV.isCell = true) :
    ∃ bb s',boxOf v = some bb∧elemA v esz (i : Int) = some (.ptr bb (i * esz))∧s.put bb (i * esz + k) vs = some s'∧Agree (fun n=>n = bb) s s'∧OwnS s' lo v esz (rows.set i (splice rows[i] k vs))∧ExactBox s' v esz (rows.set i (splice rows[i] k vs)):=by
  have hrl:=hown.arr.rowlen
  obtain ⟨bb,full,ver,rfl,hb⟩:=hex (fun h=>by rw [h] at hi; simp at hi)
  have hf:=flatten_row hrl i hi
  have hput:=put_box (o:=i * esz + k) (vs:=vs) hb (by omega) hc
  rw [flatten_set hrl i k hi vs hk] at hput
  have hlt:=(List.getElem?_eq_some_iff.1 hb).1
  have hb2 : (s.set bb ⟨(rows.set i (splice rows[i] k vs)).flatten,0,ver + 1⟩)[bb]? = some ⟨(rows.set i (splice rows[i] k vs)).flatten,0,ver + 1⟩:=by
    rw [List.getElem?_set_self hlt]
  have hrl2 : ∀ r ∈ rows.set i (splice rows[i] k vs),r.length = esz:=fun r hr=>by
    rcases List.mem_or_eq_of_mem_set hr with h | h
    · exact hrl r h
    · rw [h,splice_length _ _ _ (by rw [hrl _ (List.getElem_mem hi)]; exact hk)]
      exact hrl _ (List.getElem_mem hi)
  refine ⟨bb,_,rfl,?_,hput,Agree.set _ _ _,⟨?_,fun b h=>?_,fun b o n e f h=>?_⟩,fun _=>⟨bb,full,ver + 1,by rw [List.length_set],hb2⟩⟩
  · simp only [elemA,Int.toNat_natCast]
    rw [if_pos ⟨by omega,by omega,trivial⟩,Nat.zero_add]
  · have h1:=hown.bnd bb rfl
    exact (ArrAt.ofBox hb2 (by decide) hrl2 (by rw [List.length_set])).wide' h1.1 (by simp; exact h1.2)
  · have:=hown.bnd b h
    simpa using this
  · cases h
    exact .inr (by rw [hb2]; rfl)
theorem blkRows_set (l : List BlkV) (g : Nat→AV) (i : Nat) (b : BlkV) (w : AV) : (blkRows l g).set i (b.row w) = blkRows (l.set i b) (fun j=>if j = i then w else g j):=by
  unfold blkRows
  apply List.ext_getElem
  · simp
  · intro j h1 h2
    simp only [List.getElem_mapIdx,List.getElem_set]
    by_cases hj : i = j
    · subst hj; simp
    · rw [if_neg hj,if_neg hj,if_neg (fun e=>hj e.symm)]
theorem blkRows_get (l : List BlkV) (g : Nat→AV) (i : Nat) (hi : i < l.length) : (blkRows l g)[i]'(by simpa [blkRows] using hi) = l[i].row (g i):=by simp [blkRows]
theorem blkRows_congr {l : List BlkV} {f g : Nat→AV} (h : ∀ j,j < l.length→f j = g j) : blkRows l f = blkRows l g:=by
  unfold blkRows
  apply List.ext_getElem
  · simp
  · intro j h1 h2
    simp only [List.getElem_mapIdx]
    rw [h j (by simpa using h1)]
theorem own_setops {s : St} {lo : Nat} {v w : AV} {l : List BlkV} {g : Nat→AV} (hown : OwnS s lo v 6 (blkRows l g)) (hex : ExactBox s v 6 (blkRows l g)) (i : Nat) (hi : i < l.length) (ops : List OpV) (hc : w.isCell = true) :
    ∃ bb s',boxOf v = some bb∧elemA v 6 (i : Int) = some (.ptr bb (i * 6))∧s.put bb (i * 6 + 0) [w] = some s'∧Agree (fun n=>n = bb) s s'∧OwnS s' lo v 6 (blkRows (l.set i { l[i] with ops:=ops }) (fun j=>if j = i then w else g j))∧ExactBox s' v 6 (blkRows (l.set i { l[i] with ops:=ops }) (fun j=>if j = i then w else g j)):=by
  have:=own_setrow hown hex i (by rw [blkRows_length]; exact hi) 0 [w] (by simp) (by simp [hc])
  rw [blkRows_get l g i hi] at this
  rw [←blkRows_set]
  exact this
theorem own_setend {s : St} {lo : Nat} {v : AV} {l : List BlkV} {g : Nat→AV} (hown : OwnS s lo v 6 (blkRows l g)) (hex : ExactBox s v 6 (blkRows l g)) (i : Nat) (hi : i < l.length) (e : EndV) :
    ∃ bb s',boxOf v = some bb∧elemA v 6 (i : Int) = some (.ptr bb (i * 6))∧s.put bb (i * 6 + 1) [iA e.k,iA e.a,iA e.t,iA e.e] = some s'∧Agree (fun n=>n = bb) s s'∧OwnS s' lo v 6 (blkRows (l.set i { l[i] with e:=e }) g)∧ExactBox s' v 6 (blkRows (l.set i { l[i] with e:=e }) g):=by
  have:=own_setrow hown hex i (by rw [blkRows_length]; exact hi) 1 [iA e.k,iA e.a,iA e.t,iA e.e] (by simp) rfl
  rw [blkRows_get l g i hi] at this
  have he : blkRows (l.set i { l[i] with e:=e }) g = (blkRows l g).set i (splice (l[i].row (g i)) 1 [iA e.k,iA e.a,iA e.t,iA e.e]):=by
    rw [show splice (l[i].row (g i)) 1 [iA e.k,iA e.a,iA e.t,iA e.e] = ({ l[i] with e:=e } : BlkV).row (g i) from rfl,blkRows_set]
    exact blkRows_congr fun j _=>by
      by_cases h : j = i
      · subst h; simp
      · simp [h]
  rw [he]
  exact this
section
variable {X : Cx} {st : St}
end
end Go.VX.Seat
end
section
namespace Go.VX
inductive Tr where
  | lf
  | nd (l : Tr) (v : AV) (r : Tr)
  deriving Inhabited
def Tr.get : Tr→Nat→AV
  | .lf,_=>undefA
  | .nd l v r,n=>bif Nat.beq n 0 then v else bif Nat.beq (n % 2) 1 then l.get (n / 2) else r.get (n / 2 - 1)
def Tr.put : Nat→Tr→Nat→AV→Tr
  | 0,t,_,_=>t
  | d + 1,.lf,n,v=>bif Nat.beq n 0 then .nd .lf v .lf else bif Nat.beq (n % 2) 1 then .nd (Tr.put d .lf (n / 2) v) undefA .lf else .nd .lf undefA (Tr.put d .lf (n / 2 - 1) v)
  | d + 1,.nd l x r,n,v=>bif Nat.beq n 0 then .nd l v r else bif Nat.beq (n % 2) 1 then .nd (l.put d (n / 2) v) x r else .nd l x (r.put d (n / 2 - 1) v)
theorem Tr.get_put : ∀ (d : Nat) (t : Tr) (n : Nat) (v : AV) (m : Nat),n + 1 < 2 ^ d→(Tr.put d t n v).get m = if m = n then v else t.get m
  | 0,t,n,v,m,h=>by simp at h
  | d + 1,.lf,n,v,m,h=>by
    have hp : 2 ^ (d + 1) = 2 * 2 ^ d:=by rw [Nat.pow_succ]; omega
    unfold Tr.put
    by_cases h0 : n = 0
    · subst h0
      have : Nat.beq 0 0 = true:=rfl
      simp only [this,cond_true,Tr.get]
      by_cases hm : m = 0
      · subst hm; simp
      · have : Nat.beq m 0 = false:=by cases hb : Nat.beq m 0 with | false=>rfl | true=>exact absurd (Nat.eq_of_beq_eq_true hb) hm
        simp [this,hm]
    · have hb0 : Nat.beq n 0 = false:=by cases hb : Nat.beq n 0 with | false=>rfl | true=>exact absurd (Nat.eq_of_beq_eq_true hb) h0
      simp only [hb0,cond_false]
      cases hb1 : Nat.beq (n % 2) 1 with
      | true =>
        have h1:=Nat.eq_of_beq_eq_true hb1
        simp only [cond_true,Tr.get]
        by_cases hm : m = 0
        · subst hm
          have : Nat.beq 0 0 = true:=rfl
          simp only [this,cond_true]
          rw [if_neg (by omega)]
        · have hm0 : Nat.beq m 0 = false:=by cases hb : Nat.beq m 0 with | false=>rfl | true=>exact absurd (Nat.eq_of_beq_eq_true hb) hm
          simp only [hm0,cond_false]
          cases hb2 : Nat.beq (m % 2) 1 with
          | true =>
            have h2:=Nat.eq_of_beq_eq_true hb2
            simp only [cond_true]
            rw [Tr.get_put d .lf (n / 2) v (m / 2) (by omega)]
            by_cases hmn : m = n
            · subst hmn; simp
            · rw [if_neg (by omega),if_neg hmn]; rfl
          | false =>
            have h2 : m % 2≠1:=fun e=>by rw [e] at hb2; cases hb2
            simp only [cond_false]
            rw [if_neg (by omega)]
      | false =>
        have h1 : n % 2≠1:=fun e=>by rw [e] at hb1; cases hb1
        simp only [cond_false,Tr.get]
        by_cases hm : m = 0
        · subst hm
          have : Nat.beq 0 0 = true:=rfl
          simp only [this,cond_true]
          rw [if_neg (by omega)]
        · have hm0 : Nat.beq m 0 = false:=by cases hb : Nat.beq m 0 with | false=>rfl | true=>exact absurd (Nat.eq_of_beq_eq_true hb) hm
          simp only [hm0,cond_false]
          cases hb2 : Nat.beq (m % 2) 1 with
          | true =>
            have h2:=Nat.eq_of_beq_eq_true hb2
            simp only [cond_true]
            rw [if_neg (by omega)]
          | false =>
            have h2 : m % 2≠1:=fun e=>by rw [e] at hb2; cases hb2
            simp only [cond_false]
            rw [Tr.get_put d .lf (n / 2 - 1) v (m / 2 - 1) (by omega)]
            by_cases hmn : m = n
            · subst hmn; simp
            · rw [if_neg (by omega),if_neg hmn]; rfl
  | d + 1,.nd l x r,n,v,m,h=>by
    have hp : 2 ^ (d + 1) = 2 * 2 ^ d:=by rw [Nat.pow_succ]; omega
    unfold Tr.put
    by_cases h0 : n = 0
    · subst h0
      have : Nat.beq 0 0 = true:=rfl
      simp only [this,cond_true,Tr.get]
      by_cases hm : m = 0
      · subst hm; simp
      · have : Nat.beq m 0 = false:=by cases hb : Nat.beq m 0 with | false=>rfl | true=>exact absurd (Nat.eq_of_beq_eq_true hb) hm
        simp [this,hm]
    · have hb0 : Nat.beq n 0 = false:=by cases hb : Nat.beq n 0 with | false=>rfl | true=>exact absurd (Nat.eq_of_beq_eq_true hb) h0
      simp only [hb0,cond_false]
      cases hb1 : Nat.beq (n % 2) 1 with
      | true =>
        have h1:=Nat.eq_of_beq_eq_true hb1
        simp only [cond_true,Tr.get]
        by_cases hm : m = 0
        · subst hm
          have : Nat.beq 0 0 = true:=rfl
          simp only [this,cond_true]
          rw [if_neg (by omega)]
        · have hm0 : Nat.beq m 0 = false:=by cases hb : Nat.beq m 0 with | false=>rfl | true=>exact absurd (Nat.eq_of_beq_eq_true hb) hm
          simp only [hm0,cond_false]
          cases hb2 : Nat.beq (m % 2) 1 with
          | true =>
            have h2:=Nat.eq_of_beq_eq_true hb2
            simp only [cond_true]
            rw [Tr.get_put d l (n / 2) v (m / 2) (by omega)]
            by_cases hmn : m = n
            · subst hmn; simp
            · rw [if_neg (by omega),if_neg hmn]
          | false =>
            have h2 : m % 2≠1:=fun e=>by rw [e] at hb2; cases hb2
            simp only [cond_false]
            rw [if_neg (by omega)]
      | false =>
        have h1 : n % 2≠1:=fun e=>by rw [e] at hb1; cases hb1
        simp only [cond_false,Tr.get]
        by_cases hm : m = 0
        · subst hm
          have : Nat.beq 0 0 = true:=rfl
          simp only [this,cond_true]
          rw [if_neg (by omega)]
        · have hm0 : Nat.beq m 0 = false:=by cases hb : Nat.beq m 0 with | false=>rfl | true=>exact absurd (Nat.eq_of_beq_eq_true hb) hm
          simp only [hm0,cond_false]
          cases hb2 : Nat.beq (m % 2) 1 with
          | true =>
            have h2:=Nat.eq_of_beq_eq_true hb2
            simp only [cond_true]
            rw [if_neg (by omega)]
          | false =>
            have h2 : m % 2≠1:=fun e=>by rw [e] at hb2; cases hb2
            simp only [cond_false]
            rw [Tr.get_put d r (n / 2 - 1) v (m / 2 - 1) (by omega)]
            by_cases hmn : m = n
            · subst hmn; simp
            · rw [if_neg (by omega),if_neg hmn]
def Tr.set (t : Tr) : Option Nat→AV→Option Tr
  | none,_=>some t
  | some d,v=>bif Nat.blt d 65535 then some (t.put 16 d v) else none
theorem Tr.set_ok {t t' : Tr} {d : Option Nat} {v : AV} (h : t.set d v = some t') : t'.get = Env.put t.get d v:=by
  cases d with
  | none=>simp [Tr.set] at h; subst h; rfl
  | some d =>
    cases hb : Nat.blt d 65535 with
    | false=>simp [Tr.set,hb] at h
    | true =>
      simp only [Tr.set,hb,cond_true,Option.some.injEq] at h
      subst h
      have : d < 65535:=Nat.lt_of_lt_of_le (Nat.lt_succ_self d) (Nat.le_of_ble_eq_true hb)
      funext m
      exact Tr.get_put 16 t d v m (by omega)
def trOf : Nat→Tr→List AV→Option Tr
  | _,t,[]=>some t
  | k,t,a :: r=>match t.set (some k) a with
    | some t'=>trOf (k + 1) t' r
    | none=>none
theorem trOf_ok : ∀ {l : List AV} {k : Nat} {t t' : Tr},trOf k t l = some t'→∀ m,t'.get m = if k≤m∧m < k + l.length then l.getD (m - k) undefA else t.get m
  | [],k,t,t',h,m=>by
    simp [trOf] at h; subst h
    rw [if_neg]
    rintro ⟨h1,h2⟩
    simp at h2
    omega
  | a :: r,k,t,t',h,m=>by
    unfold trOf at h
    split at h
    · rename_i t1 h1
      rw [trOf_ok h m,Tr.set_ok h1]
      simp only [List.length_cons,Env.put]
      by_cases hm : m = k
      · subst hm
        rw [if_neg (by omega),if_pos rfl,if_pos (by omega)]
        simp
      · by_cases h2 : k + 1≤m∧m < k + 1 + r.length
        · rw [if_pos h2,if_pos (by omega),show m - k = (m - (k + 1)) + 1 by omega]
          simp
        · rw [if_neg h2,if_neg hm,if_neg (by omega)]
    · cases h
theorem trOf_env {l : List AV} {t : Tr} (h : trOf 0 .lf l = some t) : t.get = envOf l:=by
  funext m
  rw [trOf_ok h m]
  unfold envOf
  by_cases hm : m < l.length
  · rw [if_pos (by omega)]; rfl
  · rw [if_neg (by omega),List.getD_eq_getElem?_getD,List.getElem?_eq_none (by omega)]; rfl
def keepsB : St→St→Bool
  | [],_=>true
  | _ :: _,[]=>false
  | x :: s,y :: s'=>Nat.beq x.ver y.ver && (Nat.beq x.mode y.mode && keepsB s s')
theorem keepsB_ok : ∀ {st st' : St},keepsB st st' = true→(∀ (b : Nat) (x : Box),st[b]? = some x→∃ y : Box,st'[b]? = some y∧(x.ver = y.ver→x.mode = y.mode→x = y))→st' = st++st'.drop st.length
  | [],st',_,_=>by simp
  | x :: s,[],h,_=>by cases h
  | x :: s,y :: s',h,he=>by
    simp only [keepsB,Bool.and_eq_true] at h
    obtain ⟨z,hz,hxy⟩:=he 0 x (by simp)
    simp at hz; subst hz
    have h1:=hxy (Nat.eq_of_beq_eq_true h.1) (Nat.eq_of_beq_eq_true h.2.1)
    have:=keepsB_ok h.2.2 (fun b z hb=>by simpa using he (b + 1) z (by simpa using hb))
    subst h1
    simp only [List.cons_append,List.length_cons,List.drop_succ_cons]
    rw [←this]
abbrev EvC:=VC→Tr→St→Option (VX × Tr × St)
abbrev EvF:=FuncId→List AV→St→Option (CRes × St)
def evO (P : Program) (call : EvF) : List VOper→Tr→St→Option (VX × Tr × St)
  | [],t,st=>some (.norm,t,st)
  | o :: l,t,st =>
    match wantedA t.get o.guard with
    | false=>match t.set o.dst undefA with
      | some t'=>evO P call l t' st
      | none=>none
    | true=>match vop P o.op t.get st with
      | some (.val v,st1)=>match keptA t.get st st1 o.keep with
        | true=>match t.set o.dst v with
          | some t'=>evO P call l t' st1
          | none=>none
        | false=>none
      | some (.skip,st1)=>match keptA t.get st st1 o.keep with
        | true=>match t.set o.dst undefA with
          | some t'=>evO P call l t' st1
          | none=>none
        | false=>none
      | some (.call f args,_)=>match call f args st with
        | some (.ret v,st1)=>match keptA t.get st st1 o.keep with
          | true=>match t.set o.dst v with
            | some t'=>evO P call l t' st1
            | none=>none
          | false=>none
        | some (.pan v,st1)=>some (.pan v,t,st1)
        | none=>none
      | some (.pan v,_)=>some (.pan v,t,st)
      | none=>none
def trim (r : CRes) (st st' : St) : CRes × St:=match r.flat && keepsB st st' with
  | true=>(r,st)
  | false=>(r,st')
def evF (F : FuncId→Option VFun) (rec : EvC) (f : FuncId) (args : List AV) (st : St) : Option (CRes × St) :=
  match F f with
  | some fn=>match trOf 0 .lf args with
    | some t=>match rec fn.body t st with
      | some (.norm,t',st')=>match resOf t'.get st' fn.res with
        | some vs=>some (trim (.ret (tupOf vs)) st st')
        | none=>none
      | some (.ret,t',st')=>match resOf t'.get st' fn.res with
        | some vs=>some (trim (.ret (tupOf vs)) st st')
        | none=>none
      | some (.pan v,_,st')=>some (.pan v,st')
      | _=>none
    | none=>none
  | none=>none
def evC (P : Program) (F : FuncId→Option VFun) (hk : EvF→EvF) : Nat→EvC
  | 0,_,_,_=>none
  | n + 1,.skip,t,st=>some (.norm,t,st)
  | n + 1,.reg l,t,st=>evO P (hk (evF F (evC P F hk n))) l t st
  | n + 1,.seq a b,t,st=>match evC P F hk n a t st with
    | some (.norm,t1,st1)=>evC P F hk n b t1 st1
    | r=>r
  | n + 1,.cond c a b,t,st=>match c.ev t.get with
    | .sc (.bool true)=>evC P F hk n a t st
    | .sc (.bool false)=>evC P F hk n b t st
    | _=>none
  | n + 1,.block id a,t,st=>match evC P F hk n a t st with
    | some (x,t1,st1)=>some (x.unblock id,t1,st1)
    | none=>none
  | n + 1,.loop a,t,st=>match evC P F hk n a t st with
    | some (.norm,t1,st1)=>evC P F hk n (.loop a) t1 st1
    | r=>r
  | n + 1,.exit id,t,st=>some (.exit id,t,st)
  | n + 1,.ret,t,st=>some (.ret,t,st)
section
variable {P : Program} {F : FuncId→Option VFun} {H : FuncId→List AV→St→CRes→St→Prop} {hk : EvF→EvF}
def CallOk (P : Program) (F : FuncId→Option VFun) (H : FuncId→List AV→St→CRes→St→Prop) (call : EvF) : Prop:=∀ f args st r st',call f args st = some (r,st')→J P F H (.call f args st r st')
def CodeOk (P : Program) (F : FuncId→Option VFun) (H : FuncId→List AV→St→CRes→St→Prop) (rec : EvC) : Prop:=∀ c t st x t' st',rec c t st = some (x,t',st')→J P F H (.code c t.get st x t'.get st')
theorem evO_ok {call : EvF} (hc : CallOk P F H call) : ∀ {l : List VOper} {t : Tr} {st : St} {x : VX} {t' : Tr} {st' : St},evO P call l t st = some (x,t',st')→J P F H (.ops l t.get st x t'.get st')
  | [],t,st,x,t',st',h=>by
    simp only [evO,Option.some.injEq,Prod.mk.injEq] at h
    obtain ⟨rfl,rfl,rfl⟩:=h
    exact .nil
  | o :: l,t,st,x,t',st',h=>by
    unfold evO at h
    split at h
    · rename_i hw
      split at h
      · rename_i t1 ht
        have:=evO_ok hc h
        rw [Tr.set_ok ht] at this
        exact .idle hw this
      · cases h
    · rename_i hw
      split at h
      · rename_i v st1 hv
        split at h
        · rename_i hk1
          split at h
          · rename_i t1 ht
            have:=evO_ok hc h
            rw [Tr.set_ok ht] at this
            exact .val hw hv hk1 this
          · cases h
        · cases h
      · rename_i st1 hv
        split at h
        · rename_i hk1
          split at h
          · rename_i t1 ht
            have:=evO_ok hc h
            rw [Tr.set_ok ht] at this
            exact .done hw hv hk1 this
          · cases h
        · cases h
      · rename_i f args st1 hv
        have e1:=vop_call_st hv
        subst e1
        split at h
        · rename_i v st2 hcall
          split at h
          · rename_i hk1
            split at h
            · rename_i t1 ht
              have:=evO_ok hc h
              rw [Tr.set_ok ht] at this
              exact .callR hw hv (hc _ _ _ _ _ hcall) hk1 this
            · cases h
          · cases h
        · rename_i v st2 hcall
          simp only [Option.some.injEq,Prod.mk.injEq] at h
          obtain ⟨rfl,rfl,rfl⟩:=h
          exact .callP hw hv (hc _ _ _ _ _ hcall)
        · cases h
      · rename_i v st1 hv
        have e1:=vop_pan_st hv
        subst e1
        simp only [Option.some.injEq,Prod.mk.injEq] at h
        obtain ⟨rfl,rfl,rfl⟩:=h
        exact .panic hw hv
      · cases h
theorem trim_ok (hE : ∀ f args st r st',H f args st r st'→Evo st st') {f : FuncId} {args : List AV} {st st' st2 : St} {r r' : CRes} (h : J P F H (.call f args st r st')) (ht : trim r st st' = (r',st2)) : J P F H (.call f args st r' st2):=by
  unfold trim at ht
  split at ht
  · rename_i hb
    simp only [Bool.and_eq_true] at hb
    cases ht
    have he:=J_evo hE h
    have:=keepsB_ok hb.2 (fun b x hx=>let ⟨y,h1,_,_,h4⟩:=he b x hx; ⟨y,h1,h4⟩)
    rw [this] at h
    exact .forget h hb.1
  · cases ht; exact h
theorem evF_ok (hE : ∀ f args st r st',H f args st r st'→Evo st st') {rec : EvC} (hr : CodeOk P F H rec) : CallOk P F H (evF F rec):=by
  intro f args st r st' h
  unfold evF at h
  split at h
  · rename_i fn hF
    split at h
    · rename_i t ht
      have he:=trOf_env ht
      split at h
      · rename_i t1 st1 hb
        split at h
        · rename_i vs hvs
          simp only [Option.some.injEq] at h
          have j:=hr _ _ _ _ _ _ hb
          rw [he] at j
          exact trim_ok hE (.call hF j (.inl rfl) hvs) h
        · cases h
      · rename_i t1 st1 hb
        split at h
        · rename_i vs hvs
          simp only [Option.some.injEq] at h
          have j:=hr _ _ _ _ _ _ hb
          rw [he] at j
          exact trim_ok hE (.call hF j (.inr rfl) hvs) h
        · cases h
      · rename_i v t1 st1 hb
        simp only [Option.some.injEq,Prod.mk.injEq] at h
        obtain ⟨rfl,rfl⟩:=h
        have j:=hr _ _ _ _ _ _ hb
        rw [he] at j
        exact .callX hF j
      · cases h
    · cases h
  · cases h
theorem evC_ok (hE : ∀ f args st r st',H f args st r st'→Evo st st') (hh : ∀ call,CallOk P F H call→CallOk P F H (hk call)) : ∀ n,CodeOk P F H (evC P F hk n)
  | 0=>fun c t st x t' st' h=>by simp [evC] at h
  | n + 1=>fun c t st x t' st' h=>by
    have ih:=evC_ok hE hh n
    cases c with
    | skip=>simp only [evC,Option.some.injEq,Prod.mk.injEq] at h; obtain ⟨rfl,rfl,rfl⟩:=h; exact .skip
    | reg l=>exact .reg (evO_ok (hh _ (evF_ok hE ih)) h)
    | seq a b =>
      simp only [evC] at h
      split at h
      · rename_i t1 st1 ha
        exact .seqN (ih _ _ _ _ _ _ ha) (ih _ _ _ _ _ _ h)
      · rename_i hno
        refine .seqX (ih _ _ _ _ _ _ h) ?_
        rintro rfl
        exact hno _ _ h
    | cond c a b =>
      simp only [evC] at h
      split at h
      · rename_i hc
        exact .cond (t:=true) hc (ih _ _ _ _ _ _ h)
      · rename_i hc
        exact .cond (t:=false) hc (ih _ _ _ _ _ _ h)
      · cases h
    | block id a =>
      simp only [evC] at h
      split at h
      · rename_i x1 t1 st1 ha
        simp only [Option.some.injEq,Prod.mk.injEq] at h
        obtain ⟨rfl,rfl,rfl⟩:=h
        exact .block (ih _ _ _ _ _ _ ha)
      · cases h
    | loop a =>
      simp only [evC] at h
      split at h
      · rename_i t1 st1 ha
        exact .loopN (ih _ _ _ _ _ _ ha) (ih _ _ _ _ _ _ h)
      · rename_i hno
        refine .loopX (ih _ _ _ _ _ _ h) ?_
        rintro rfl
        exact hno _ _ h
    | exit id=>simp only [evC,Option.some.injEq,Prod.mk.injEq] at h; obtain ⟨rfl,rfl,rfl⟩:=h; exact .exit
    | ret=>simp only [evC,Option.some.injEq,Prod.mk.injEq] at h; obtain ⟨rfl,rfl,rfl⟩:=h; exact .ret
end
end Go.VX
end
