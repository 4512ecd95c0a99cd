/- A part of the proofs of the statements of one layer: U41. No condition is added here. -/
import Derived.Test.YtmpndkhedbpmjaaGreatDoorXC13
set_option linter.unusedVariables false
set_option linter.unusedSimpArgs false
open Go.VX.AV renaming cell? → xc, toV → xd
open Int renaming reduceAdd → xe, reduceLE → xf, reduceLT → xh, reduceNeg → xi, reduceToNat → xj
open Nat renaming reduceAdd → xk, reduceEqDiff → xl, reduceLeDiff → xm, reduceMul → xn, reduceSub → xp
open Go.VX.VOpd renaming ev → xq
open Go.VX renaming asInt? → xr, asNat? → xu, cellVal → xv, cellsV → xy, fillA → xz, partsEv → ya, resOf → yc, splice → yd, tupOf → ye, zeroes → yf
section
set_option maxRecDepth 4000
namespace Go.VX.Seat
open Go.Proofs
section
variable {X : Cx} {S : St} {rb lo hi : Nat} {v : AV} {q : List Int} {e : Int}
theorem callIntX {K : Env→St→Post3→Prop} {Q : Post3} {dst : Option Nat} {keep : List VOpd} {env : Env} (h : On X) (hr : RdAt true S rb lo hi v q e) (hk : ∀ S',Only rb S S'→keptA env S S' keep = true)
    (hK : ∀ n v' q' e' S',RdAt true S' rb lo hi v' q' e'→Only rb S S'→Did rdN q e n q' e'→K (env.put dst (iA n)) S' Q) : callO X 56 [.ptr rb 0] dst keep K env S Q:=callNumX h hr hk fun n q e S=>hK n v q e S
theorem callCountY {K : Env→St→Post3→Prop} {Q : Post3} {dst : Option Nat} {env : Env} (h : On X) (hr : RdAt true S rb lo hi v q e) {m : Int} (hm : 0≤m)
    (hK : ∀ n v' q' e' S',RdAt true S' rb lo hi v' q' e'→Only rb S S'→Did (rdC m) q e n q' e'→0≤n→n≤m→K (env.put dst (iA n)) S' Q) : callO X 55 [.ptr rb 0,iA m] dst [] K env S Q:=callCountX h hr hm fun n q e S=>hK n v q e S
theorem callOpY {K : Env→St→Post3→Prop} {Q : Post3} {dst : Option Nat} {keep : List VOpd} {env : Env} (h : On X) (hr : RdAt true S rb lo hi v q e) (hk : ∀ S',Only rb S S'→keptA env S S' keep = true)
    (hK : ∀ o v' q' e' S',RdAt true S' rb lo hi v' q' e'→Only rb S S'→Did rdOp q e o q' e'→K (env.put dst (.agg o.row)) S' Q) : callO X 57 [.ptr rb 0] dst keep K env S Q:=callOpX h hr hk fun o q e S=>hK o v q e S
end
section
variable {X : Cx} {st : St}
set_option maxHeartbeats 8000000 in
theorem w_LoadX (h : On X) {lo hi : Nat} {v : AV} {q0 : List Int} (hv : ArrAt st lo hi v 1 (rowsB q0)) (hq : q0.length≤1000000000) (hr : ∀ b ∈ q0,0≤b∧b < 256) :
    wpF X 22 [v] st fun r s=>(∃ m,s = st++m)∧LdR st s (loadD q0) r:=by
  refine wpF_go (fn:=v_r26_Load) (by rw [h.F]; rfl) ?_
  simp only [v_r26_Load,kB,kZ,kD,kE,xp,xj,xn,xe,xf,xh,xi,xm,xl,xk,reduceIte,reduceCtorEq,yd,yc,xv]
  refine wpF.mono (w_OpenX h (hv.mono _) hq hr) ?_
  rintro r S1 ⟨v1,q1,e1,rfl,⟨m1,rfl⟩,r1,s1⟩
  refine ⟨keptA_nil _ _ _,?_⟩
  have hL0 : LdB true st ((st++[⟨Z6,0,0⟩]++m1)++[⟨Z6,0,0⟩]) (st++[⟨Z6,0,0⟩] : St).length (st++[⟨Z6,0,0⟩]++m1 : St).length lo hi v1 q1 e1 Z6:={
    rd:=r1.grow _
    res:=⟨0,by simp⟩
    box:=⟨0,by simp⟩
    pre:=⟨_,by rw [List.append_assoc,List.append_assoc]⟩
    lt:=by simp
    lt2:=by have:=r1.lt; omega }
  obtain ⟨rb,hrb⟩ : ∃ rb,(st++[⟨Z6,0,0⟩] : St).length = rb:=⟨_,rfl⟩
  obtain ⟨T1,hT1⟩ : ∃ T1,(st++[⟨Z6,0,0⟩]++m1 : St) = T1:=⟨_,rfl⟩
  rw [hrb,hT1] at hL0
  change xO _ _ _ (st++[⟨Z6,0,0⟩]++m1) _
  rw [hT1]
  change xO _ _ (Env.put _ _ (.ptr (st++[⟨Z6,0,0⟩] : St).length 0)) _ _
  rw [hrb]
  clear r1 hT1
  clear hrb
  simp only [kB,kZ,kD,kE,xp,xj,xn,xe,xf,xh,xi,xm,xl,xk,reduceIte,reduceCtorEq,yd,yc,xv]
  generalize (T1++[⟨Z6,0,0⟩] : St) = T at *
  generalize T1.length = cb at *
  refine callCountY h hL0.rd (by decide) ?_
  intro N v2 q2 e2 S2 r2 o2 d2 hN0 hN16
  replace s1:=s1.step d2
  have hL2:=hL0.move o2 (fun _ _ y=>y) r2
  clear hL0 r2 o2 d2
  obtain ⟨N,rfl⟩ : ∃ k : Nat,N = k:=⟨N.toNat,by omega⟩
  simp only [kB,kZ,kD,kE,xp,xj,xn,xe,xf,xh,xi,xm,xl,xk,reduceIte,reduceCtorEq,yd,yc,xv]
  refine anyLoop (mB m0) (fun e' s=>∃ v q e sz zs,e' 2 = .ptr (st.length + 0) 0∧e' 4 = .ptr rb 0∧e' 5 = .ptr cb 0∧LdB true st s rb cb lo hi v q e [sz,iA 0,iA 0,iA 0,iA 0,.sc (.slice none 0 0)]∧OwnS s (cb + 1) sz 1 (zs.map fun n=>[iA n])∧Sp (loadD q0) e q (fourD zs)) ?_ ?_
  · refine loop_inv (fun n e' s=>∃ (i : Nat) (v : AV) (q : List Int) (e : Int) (sz : AV) (zs : List Int),i + n = N∧zs.length = i∧e' 2 = .ptr (st.length + 0) 0∧e' 4 = .ptr rb 0∧e' 5 = .ptr cb 0∧e' 6 = iA N∧e' 7 = iA i∧LdB true st s rb cb lo hi v q e [sz,iA 0,iA 0,iA 0,iA 0,.sc (.slice none 0 0)]∧OwnS s (cb + 1) sz 1 (zs.map fun n=>[iA n])∧Sp (loadD q0) e q (fun q=>(rdRep rdN n q).bind fun l=>fourD (zs++l.1) l.2)) ?_ N ?_
    case refine_2=>exact ⟨0,v2,q2,e2,_,[],by omega,rfl,rfl,rfl,rfl,rfl,rfl,hL2,own_nil _ _ _,s1.cast rfl⟩
    clear s1 hL2
    rintro n e' s ⟨i,v,q,e,sz,zs,hin,hzl,k2,k4,k5,k6,k7,hL,hown,hs⟩
    have x0:=hL.x 0
    simp only [List.getElem?_cons_zero] at x0
    have y2:=hL.rd.y2
    cases hc : decide ((i : Int) < (N : Int))
    case true =>
      have hil : i < N:=by have:=of_decide_eq_true hc; omega
      obtain ⟨n,rfl⟩ : ∃ k,n = k + 1:=⟨n - 1,by omega⟩
      cases he : decide (e = 0)
      case false =>
        simp only [k2,k4,k5,k6,k7,hc,y2,he,kB,kZ,kD,kE,xp,xj,xn,xe,xf,xh,xi,xm,xl,xk,reduceIte,reduceCtorEq,yd,yc,xv]
        exact ⟨v,q,e,sz,zs,hL,hown,hs.stay (of_decide_eq_false he)⟩
      simp only [k2,k4,k5,k6,k7,hc,y2,he,x0,kB,kZ,kD,kE,xp,xj,xn,xe,xf,xh,xi,xm,xl,xk,reduceIte,reduceCtorEq,yd,yc,xv]
      refine callIntX h hL.rd (fun S' a=>kept_at (b:=cb) (o:=0) (by simp only [kB,kZ,kD,kE,xp,xj,xn,xe,xf,xh,xi,xm,xl,xk,reduceIte,reduceCtorEq,yd,yc,xv]) (a.eq cb hL.len (by have:=hL.lt2; omega))) ?_
      intro n6 v6 q6 e6 S6 r6 o6 d6
      have hL6:=hL.move o6 (fun _ _ y=>y) r6
      have hlt2:=hL.lt2
      have hown6:=hown.agree o6 (fun b hb y=>by have:=(hown.bnd b hb).1; omega)
      have hs6:=(hs.cast (rep_step rdN n zs fourD q)).step d6
      have hrow:=one_row S6 [iA n6]
      have hlen:=hL6.len
      simp only [k2,k4,k5,k6,k7,kB,kZ,kD,kE,xp,xj,xn,xe,xf,xh,xi,xm,xl,xk,reduceIte,reduceCtorEq,yd,yc,xv]
      refine opR_append (vx:=sz) (vy:=.sl S6.length 0 1 1 true) (rows2:=[[iA n6]]) (by simp only [kB,kZ,kD,kE,xp,xj,xn,xe,xf,xh,xi,xm,xl,xk,reduceIte,reduceCtorEq,yd,yc,xv]) (by simp only [kB,kZ,kD,kE,xp,xj,xn,xe,xf,xh,xi,xm,xl,xk,reduceIte,reduceCtorEq,yd,yc,xv]) (own_frame hown6 _) (by simp; omega) hrow (by simp; omega) (by rfl) ?_
      intro w s' hag hown' hcase
      refine ⟨keptA_nil _ _ _,?_⟩
      have hL7:=(hL6.grow [⟨[iA n6],0,0⟩]).far hag (fun b hb y=>by have:=(hown6.bnd b y.2).1; omega)
      have hcc:=isCell_len hown'.arr.len
      have hcl:=cellsOf_len hown'.arr.len
      obtain ⟨s8,hp8,hL8,hag8⟩:=hL7.put (k:=0) (vs:=[w]) (cs':=[w,iA 0,iA 0,iA 0,iA 0,.sc (.slice none 0 0)]) (by simp) (by simp [hcc]) rfl
      have hwr : IntKind.wrap .i64 ((i : Int) + 1) = ((i + 1 : Nat) : Int):=by rw [wrap_small (by omega) (by omega)]; omega
      simp only [k2,k4,k5,k6,k7,hcl,hp8,hwr,kB,kZ,kD,kE,xp,xj,xn,xe,xf,xh,xi,xm,xl,xk,reduceIte,reduceCtorEq,yd,yc,xv]
      refine ⟨n,by omega,i + 1,v6,q6,e6,w,zs++[n6],by omega,by simp [hzl],rfl,hL8,?_,hs6⟩
      rw [List.map_append]
      exact hown'.agree hag8 fun b hb y=>by have:=(hown'.bnd b hb).1; omega
    case false =>
      have hi2 : i = N:=by have:=of_decide_eq_false hc; omega
      have hn : n = 0:=by omega
      subst hn
      simp only [k2,k4,k5,k6,k7,hc,kB,kZ,kD,kE,xp,xj,xn,xe,xf,xh,xi,xm,xl,xk,reduceIte,reduceCtorEq,yd,yc,xv]
      exact ⟨v,q,e,sz,zs,hL,hown,hs.cast (rep_zero rdN zs fourD q)⟩
  clear s1 hL2
  rintro e' s ⟨v3,q3,e3,sz,zs,k2,k4,k5,hL,hown,hs⟩
  simp only [k2,k4,k5,kB,kZ,kD,kE,xp,xj,xn,xe,xf,xh,xi,xm,xl,xk,reduceIte,reduceCtorEq,yd,yc,xv]
  refine callIntX h hL.rd (fun _ _=>keptA_nil _ _ _) ?_
  intro na va qa ea Sa ra oa da
  have hla:=hL.move oa (fun _ _ y=>y) ra
  have hsa:=hs.step da
  dsimp only at hsa
  have hlt2:=hL.lt2
  simp only [k2,k4,k5,kB,kZ,kD,kE,xp,xj,xn,xe,xf,xh,xi,xm,xl,xk,reduceIte,reduceCtorEq,yd,yc,xv]
  refine callIntX h hla.rd (fun _ _=>keptA_nil _ _ _) ?_
  intro nb vb qb eb Sb rb' ob db
  have hlb:=hla.move ob (fun _ _ y=>y) rb'
  have hsb:=hsa.step db
  dsimp only at hsb
  simp only [k2,k4,k5,kB,kZ,kD,kE,xp,xj,xn,xe,xf,xh,xi,xm,xl,xk,reduceIte,reduceCtorEq,yd,yc,xv]
  refine callIntX h hlb.rd (fun _ _=>keptA_nil _ _ _) ?_
  intro nc vc qc ec Sc rc oc dc
  have hlc:=hlb.move oc (fun _ _ y=>y) rc
  have hsc:=hsb.step dc
  dsimp only at hsc
  simp only [k2,k4,k5,kB,kZ,kD,kE,xp,xj,xn,xe,xf,xh,xi,xm,xl,xk,reduceIte,reduceCtorEq,yd,yc,xv]
  refine callIntX h hlc.rd (fun _ _=>keptA_nil _ _ _) ?_
  intro nd vd qd ed Sd rd od dd
  have hld:=hlc.move od (fun _ _ y=>y) rd
  have hsd:=hsc.step dd
  dsimp only at hsd
  have hownd:=hown.agree (((oa.trans' ob).trans' oc).trans' od) (fun b hb y=>by have:=(hown.bnd b hb).1; omega)
  obtain ⟨s1,hp1,hl1,ha1⟩:=hld.put (k:=1) (vs:=[iA na]) (cs':=[sz,iA na,iA 0,iA 0,iA 0,.sc (.slice none 0 0)]) (by simp) rfl rfl
  obtain ⟨s2,hp2,hl2,ha2⟩:=hl1.put (k:=2) (vs:=[iA nb]) (cs':=[sz,iA na,iA nb,iA 0,iA 0,.sc (.slice none 0 0)]) (by simp) rfl rfl
  obtain ⟨s3,hp3,hl3,ha3⟩:=hl2.put (k:=3) (vs:=[iA nc]) (cs':=[sz,iA na,iA nb,iA nc,iA 0,.sc (.slice none 0 0)]) (by simp) rfl rfl
  obtain ⟨s4,hp4,hl4,ha4⟩:=hl3.put (k:=4) (vs:=[iA nd]) (cs':=[sz,iA na,iA nb,iA nc,iA nd,.sc (.slice none 0 0)]) (by simp) rfl rfl
  have hown4:=(((hownd.agree ha1 fun b hb y=>by have:=(hownd.bnd b hb).1; omega).agree ha2 fun b hb y=>by have:=(hownd.bnd b hb).1; omega).agree ha3 fun b hb y=>by have:=(hownd.bnd b hb).1; omega).agree ha4 fun b hb y=>by have:=(hownd.bnd b hb).1; omega
  simp only [k2,k4,k5,hp1,hp2,hp3,hp4,kB,kZ,kD,kE,xp,xj,xn,xe,xf,xh,xi,xm,xl,xk,reduceIte,reduceCtorEq,yd,yc,xv]
  clear hla hlb hlc hld hl1 hl2 hl3 hp1 hp2 hp3 hp4 ha1 ha2 ha3 ha4 hsa hsb hsc hs hown hownd hL ra rb' rc rd da db dc dd oa ob oc od
  refine callCountY h hl4.rd (by decide) ?_
  intro N v5 q5 e5 S5 r5 o5 d5 hN0 hN6
  have hL5:=hl4.move o5 (fun _ _ y=>y) r5
  have hs5:=hsd.step d5
  dsimp only at hs5
  have hown5:=hown4.agree o5 (fun b hb y=>by have:=(hown4.bnd b hb).1; omega)
  clear hl4 hsd hown4 r5 o5 d5
  obtain ⟨N,rfl⟩ : ∃ k : Nat,N = k:=⟨N.toNat,by omega⟩
  simp only [k2,k4,k5,kB,kZ,kD,kE,xp,xj,xn,xe,xf,xh,xi,xm,xl,xk,reduceIte,reduceCtorEq,yd,yc,xv]
  have hY5 : OwnY S5 (cb + 1) sz (.sc (.slice none 0 0)) (fun _=>.sc (.slice none 0 0)) zs []:=⟨hown5,fun b hb=>⟨fun e=>(by cases e),fun i hi=>absurd hi (by simp)⟩⟩
  have hW5 : OwnW S5 (cb + 1) (.sc (.slice none 0 0)) (fun _=>.sc (.slice none 0 0)) []:=⟨own_nil _ _ _,fun e=>absurd rfl e,fun i hi=>absurd hi (by simp),fun i hi=>absurd hi (by simp),fun i _ hi=>absurd hi (by simp)⟩
  clear hown5
  refine anyLoop (mB m0) (fun e' s=>∃ v q e sz bl f C,e' 2 = .ptr (st.length + 0) 0∧e' 4 = .ptr rb 0∧e' 5 = .ptr cb 0∧LdB true st s rb cb lo hi v q e (codRow sz C bl)∧OwnY s (cb + 1) sz bl f C.sizes C.words∧OwnW s (cb + 1) bl f C.words∧Sp (loadD q0) e q (endD C)) ?_ ?_
  · refine loop_inv (fun n e' s=>∃ (i : Nat) (v : AV) (q : List Int) (e : Int) (sz bl : AV) (f : Nat→AV) (C : CodV),i + n = N∧C.words.length = i∧e' 2 = .ptr (st.length + 0) 0∧e' 4 = .ptr rb 0∧e' 5 = .ptr cb 0∧e' 6 = iA N∧e' 8 = iA i∧LdB true st s rb cb lo hi v q e (codRow sz C bl)∧OwnY s (cb + 1) sz bl f C.sizes C.words∧OwnW s (cb + 1) bl f C.words∧Sp (loadD q0) e q (fun q=>(rdRep rdWrd n q).bind fun l=>endD { C with words:=C.words++l.1 } l.2)) ?_ N ?_
    case refine_2=>exact ⟨0,v5,q5,e5,sz,_,_,⟨zs,na,nb,nc,nd,[]⟩,by omega,rfl,by simp only [k2,kB,kZ,kD,kE,xp,xj,xn,xe,xf,xh,xi,xm,xl,xk,reduceIte,reduceCtorEq,yd,yc,xv],by simp only [k4,kB,kZ,kD,kE,xp,xj,xn,xe,xf,xh,xi,xm,xl,xk,reduceIte,reduceCtorEq,yd,yc,xv],by simp only [k5,kB,kZ,kD,kE,xp,xj,xn,xe,xf,xh,xi,xm,xl,xk,reduceIte,reduceCtorEq,yd,yc,xv],rfl,rfl,hL5,hY5,hW5,hs5.cast rfl⟩
    clear hs5 hL5 hY5 hW5 k2 k4 k5
    rintro n e' s ⟨i,v,q,e,sz,bl,f,C,hin,hcl,k2,k4,k5,k6,k8,hL,hY,hW,hs⟩
    have y2:=hL.rd.y2
    cases hc : decide ((i : Int) < (N : Int))
    case true =>
      have hil : i < N:=by have:=of_decide_eq_true hc; omega
      obtain ⟨n,rfl⟩ : ∃ k,n = k + 1:=⟨n - 1,by omega⟩
      cases he : decide (e = 0)
      case false =>
        simp only [k2,k4,k5,k6,k8,hc,y2,he,kB,kZ,kD,kE,xp,xj,xn,xe,xf,xh,xi,xm,xl,xk,reduceIte,reduceCtorEq,yd,yc,xv]
        exact ⟨v,q,e,sz,bl,f,C,hL,hY,hW,hs.stay (of_decide_eq_false he)⟩
      simp only [k2,k4,k5,k6,k8,hc,y2,he,kB,kZ,kD,kE,xp,xj,xn,xe,xf,xh,xi,xm,xl,xk,reduceIte,reduceCtorEq,yd,yc,xv]
      have hs0:=hs.cast (k':=fun q=>(rdN q).bind fun c=>(rdC 400 c.2).bind fun m=>(rdRep rdOp m.1.toNat m.2).bind fun l=>kW n C (⟨[]++l.1,c.1⟩,l.2)) (wrd_step n C q)
      have hlt2:=hL.lt2
      refine callIntX h hL.rd (fun _ _=>keptA_nil _ _ _) ?_
      intro ct v6 q6 e6 S6 r6 o6 d6
      have hL6:=hL.move o6 (fun _ _ y=>y) r6
      have hs6:=hs0.step d6
      dsimp only at hs6
      have hY6:=hY.agree o6 (fun b hb _ y=>by omega)
      have hW6:=hW.agree o6 (fun b hb _ y=>by omega)
      clear hs hs0 hL hY hW r6 o6 d6 y2
      simp only [k2,k4,k5,k6,k8,kB,kZ,kD,kE,xp,xj,xn,xe,xf,xh,xi,xm,xl,xk,reduceIte,reduceCtorEq,yd,yc,xv]
      have hL7:=hL6.grow [⟨[.sc (.slice none 0 0),iA ct],0,1⟩]
      have hwb7 : (S6++[⟨[.sc (.slice none 0 0),iA ct],0,1⟩] : St)[S6.length]? = some ⟨[.sc (.slice none 0 0),iA ct],0,1⟩:=by simp
      have hlen6:=hL6.len
      have hag7 : Agree (fun n=>n = rb∨S6.length≤n) S6 (S6++[⟨[.sc (.slice none 0 0),iA ct],0,1⟩]):=Agree.app _ _ _
      generalize (S6++[⟨[.sc (.slice none 0 0),iA ct],0,1⟩] : St) = T7 at *
      obtain ⟨wb,hwb⟩ : ∃ wb,S6.length = wb:=⟨_,rfl⟩
      rw [hwb] at hwb7 hlen6 hag7 ⊢
      refine callCountY h hL7.rd (by decide) ?_
      intro Mn v8 q8 e8 S8 r8 o8 d8 hM0 hM4
      have hL8:=hL7.move o8 (fun _ _ y=>y) r8
      have hs8:=hs6.step d8
      dsimp only at hs8
      have hb8:=o8.box hwb7 (by omega)
      have hag8 : Agree (fun n=>n = rb∨wb≤n) S6 S8:=(hag7.trans o8).mono fun n _ y=>by
        rcases y with y | y
        · exact y
        · exact .inl y
      obtain ⟨Mn,rfl⟩ : ∃ k : Nat,Mn = k:=⟨Mn.toNat,by omega⟩
      clear hs6 hL7 hag7 hwb7 r8 o8 d8
      simp only [k2,k4,k5,k6,k8,kB,kZ,kD,kE,xp,xj,xn,xe,xf,xh,xi,xm,xl,xk,reduceIte,reduceCtorEq,yd,yc,xv]
      refine anyLoop (mB m0) (fun e' s=>∃ v q e ow ops ver,e' 2 = .ptr (st.length + 0) 0∧e' 4 = .ptr rb 0∧e' 5 = .ptr cb 0∧e' 9 = .ptr wb 0∧e' 6 = iA N∧e' 8 = iA i∧LdB true st s rb cb lo hi v q e (codRow sz C bl)∧s[wb]? = some ⟨[ow,iA ct],0,ver⟩∧OwnS s (wb + 1) ow 7 (ops.map OpV.row)∧Agree (fun n=>n = rb∨wb≤n) S6 s∧Sp (loadD q0) e q (fun q=>kW n C (⟨ops,ct⟩,q))) ?_ ?_
      · refine loop_inv (fun m e' s=>∃ (k : Nat) (v : AV) (q : List Int) (e : Int) (ow : AV) (ops : List OpV) (ver : Nat),k + m = Mn∧ops.length = k∧e' 2 = .ptr (st.length + 0) 0∧e' 4 = .ptr rb 0∧e' 5 = .ptr cb 0∧e' 9 = .ptr wb 0∧e' 6 = iA N∧e' 8 = iA i∧e' 10 = iA Mn∧e' 11 = iA k∧LdB true st s rb cb lo hi v q e (codRow sz C bl)∧s[wb]? = some ⟨[ow,iA ct],0,ver⟩∧OwnS s (wb + 1) ow 7 (ops.map OpV.row)∧Agree (fun n=>n = rb∨wb≤n) S6 s∧Sp (loadD q0) e q (fun q=>(rdRep rdOp m q).bind fun l=>kW n C (⟨ops++l.1,ct⟩,l.2))) ?_ Mn ?_
        case refine_2=>exact ⟨0,v8,q8,e8,_,[],1,by omega,rfl,by simp only [k2,kB,kZ,kD,kE,xp,xj,xn,xe,xf,xh,xi,xm,xl,xk,reduceIte,reduceCtorEq,yd,yc,xv],by simp only [k4,kB,kZ,kD,kE,xp,xj,xn,xe,xf,xh,xi,xm,xl,xk,reduceIte,reduceCtorEq,yd,yc,xv],by simp only [k5,kB,kZ,kD,kE,xp,xj,xn,xe,xf,xh,xi,xm,xl,xk,reduceIte,reduceCtorEq,yd,yc,xv],rfl,by simp only [k6,kB,kZ,kD,kE,xp,xj,xn,xe,xf,xh,xi,xm,xl,xk,reduceIte,reduceCtorEq,yd,yc,xv],by simp only [k8,kB,kZ,kD,kE,xp,xj,xn,xe,xf,xh,xi,xm,xl,xk,reduceIte,reduceCtorEq,yd,yc,xv],rfl,rfl,hL8,hb8,own_nil _ _ _,hag8,hs8.cast rfl⟩
        clear hs8 hL8 hag8 hb8 k2 k4 k5 k6 k8
        rintro m e' s ⟨k,v,q,e,ow,ops,ver,hkm,hol,k2,k4,k5,k9,k6,k8,k10,k11,hL,hwbx,hown,hag,hs⟩
        have y2:=hL.rd.y2
        have yw:=at1_box hwbx (by decide) 0
        simp only [List.getElem?_cons_zero] at yw
        cases hc3 : decide ((k : Int) < (Mn : Int))
        case true =>
          have hkl : k < Mn:=by have:=of_decide_eq_true hc3; omega
          obtain ⟨m,rfl⟩ : ∃ j,m = j + 1:=⟨m - 1,by omega⟩
          cases he : decide (e = 0)
          case false =>
            simp only [k2,k4,k5,k9,k6,k8,k10,k11,hc3,y2,he,kB,kZ,kD,kE,xp,xj,xn,xe,xf,xh,xi,xm,xl,xk,reduceIte,reduceCtorEq,yd,yc,xv]
            exact ⟨v,q,e,ow,ops,ver,hL,hwbx,hown,hag,hs.stay (of_decide_eq_false he)⟩
          have hs1:=hs.cast (k':=fun q=>(rdOp q).bind fun x=>(rdRep rdOp m x.2).bind fun y=>kW n C (⟨(ops++[x.1])++y.1,ct⟩,y.2)) (rep_step rdOp m ops (fun l q=>kW n C (⟨l,ct⟩,q)) q)
          simp only [k2,k4,k5,k9,k6,k8,k10,k11,hc3,y2,he,yw,kB,kZ,kD,kE,xp,xj,xn,xe,xf,xh,xi,xm,xl,xk,reduceIte,reduceCtorEq,yd,yc,xv]
          refine callOpY h hL.rd (fun S' a=>kept_at (b:=wb) (o:=0) (by simp only [kB,kZ,kD,kE,xp,xj,xn,xe,xf,xh,xi,xm,xl,xk,reduceIte,reduceCtorEq,yd,yc,xv]) (a.eq wb (List.getElem?_eq_some_iff.1 hwbx).1 (by omega))) ?_
          intro o v9 q9 e9 S9 r9 o9 d9
          have hL9:=hL.move o9 (fun _ _ y=>y) r9
          have hs9:=hs1.step d9
          dsimp only at hs9
          have hwb9:=o9.box hwbx (by omega)
          have hwl9:=(List.getElem?_eq_some_iff.1 hwb9).1
          have hown9:=hown.agree o9 (fun b hb y=>by have:=(hown.bnd b hb).1; omega)
          have hrow:=one_row S9 o.row
          have hagr : Agree (fun n=>n = rb∨wb≤n) S6 S9:=(hag.trans o9).mono fun n _ y=>by
            rcases y with y | y
            · exact y
            · exact .inl y
          simp only [OpV.row] at hrow
          simp only [k2,k4,k5,k9,k6,k8,k10,k11,OpV.row,kB,kZ,kD,kE,xp,xj,xn,xe,xf,xh,xi,xm,xl,xk,reduceIte,reduceCtorEq,yd,yc,xv]
          refine opR_append (vx:=ow) (vy:=.sl S9.length 0 1 7 true) (rows:=ops.map OpV.row) (rows2:=[o.row]) (lo:=wb + 1) (lo':=S9.length) (hi':=S9.length + 1) (by simp only [kB,kZ,kD,kE,xp,xj,xn,xe,xf,xh,xi,xm,xl,xk,reduceIte,reduceCtorEq,yd,yc,xv]) (by simp only [kB,kZ,kD,kE,xp,xj,xn,xe,xf,xh,xi,xm,xl,xk,reduceIte,reduceCtorEq,yd,yc,xv]) (own_frame hown9 _) (by simp; omega) hrow (by simp; omega) (by rfl) ?_
          intro w s' hag' hown' hcase
          refine ⟨keptA_nil _ _ _,?_⟩
          have hL10:=(hL9.grow [⟨[iA o.k,iA o.d,iA o.a,iA o.b,iA o.c,iA o.n,iA o.g],0,0⟩]).far hag' (fun b hb y=>by have:=(hown9.bnd b y.2).1; omega)
          have hwb10:=hag'.box (b:=wb) (by rw [List.getElem?_append_left hwl9]; exact hwb9) (fun y=>by have:=(hown9.bnd wb y.2).1; omega)
          have hcc:=isCell_len hown'.arr.len
          have hcl:=cellsOf_len hown'.arr.len
          have hp10:=put_box (o:=0) (vs:=[w]) hwb10 (by simp) (by simp [hcc])
          have ha10:=Agree.set s' wb ⟨splice [ow,iA ct] 0 [w],0,ver + 1⟩
          have hwb11 : (s'.set wb ⟨splice [ow,iA ct] 0 [w],0,ver + 1⟩)[wb]? = some ⟨[w,iA ct],0,ver + 1⟩:=by
            rw [List.getElem?_set_self (List.getElem?_eq_some_iff.1 hwb10).1]
            rfl
          have hL11:=hL10.far ha10 (fun b hb y=>by omega)
          have hown11:=hown'.agree ha10 (fun b hb y=>by have:=(hown'.bnd b hb).1; omega)
          have hag11 : Agree (fun n=>n = rb∨wb≤n) S6 (s'.set wb ⟨splice [ow,iA ct] 0 [w],0,ver + 1⟩):=(((hagr.trans (Agree.app (fun _=>False) S9 _)).trans hag').trans ha10).mono fun n _ y=>by
            rcases y with ((y | y) | y) | y
            · exact y
            · exact y.elim
            · have:=(hown9.bnd n y.2).1
              exact .inr (by omega)
            · exact .inr (by omega)
          generalize (s'.set wb ⟨splice [ow,iA ct] 0 [w],0,ver + 1⟩ : St) = s11 at *
          have hwr : IntKind.wrap .i64 ((k : Int) + 1) = ((k + 1 : Nat) : Int):=by rw [wrap_small (by omega) (by omega)]; omega
          simp only [k2,k4,k5,k9,k6,k8,k10,k11,hcl,hp10,hwr,kB,kZ,kD,kE,xp,xj,xn,xe,xf,xh,xi,xm,xl,xk,reduceIte,reduceCtorEq,yd,yc,xv]
          refine ⟨m,by omega,k + 1,v9,q9,e9,w,ops++[o],ver + 1,by omega,by simp [hol],rfl,hL11,hwb11,?_,hag11,hs9⟩
          rw [List.map_append]
          exact hown11
        case false =>
          have hk2 : k = Mn:=by have:=of_decide_eq_false hc3; omega
          have hm : m = 0:=by omega
          subst hm
          simp only [k2,k4,k5,k9,k6,k8,k10,k11,hc3,kB,kZ,kD,kE,xp,xj,xn,xe,xf,xh,xi,xm,xl,xk,reduceIte,reduceCtorEq,yd,yc,xv]
          exact ⟨v,q,e,ow,ops,ver,hL,hwbx,hown,hag,hs.cast (rep_zero rdOp ops (fun l q=>kW n C (⟨l,ct⟩,q)) q)⟩
      clear hs8 hL8 hag8 hb8 k2 k4 k5 k6 k8
      rintro e' s ⟨v,q,e,ow,ops,ver,k2,k4,k5,k9,k6,k8,hL,hwbx,hown,hag,hs⟩
      have yb:=hL.x 5
      simp only [codRow,List.getElem?_cons_succ,List.getElem?_cons_zero] at yb
      have yw:=atN_box hwbx (by decide) 0 2 (by simp)
      simp only [List.drop_zero,List.take_succ_cons,List.take_zero,List.take_nil] at yw
      have hsl : wb < s.length:=(List.getElem?_eq_some_iff.1 hwbx).1
      have hrow:=one_row s [ow,iA ct]
      have hfar : ∀ b,cb + 1≤b→b < S6.length→¬ (b = rb∨wb≤b):=fun b h1 h2 y=>by omega
      have hbS:=hW6.own.agree hag (fun b hb=>hfar b (hW6.own.bnd b hb).1 (hW6.own.bnd b hb).2)
      have hcow:=isCell_len hown.arr.len
      have hccow:=cellsOf_len hown.arr.len
      simp only [k2,k4,k5,k9,k6,k8,yb,yw,hcow,hccow,kB,kZ,kD,kE,xp,xj,xn,xe,xf,xh,xi,xm,xl,xk,reduceIte,reduceCtorEq,yd,yc,xv]
      refine opR_append (vx:=bl) (vy:=.sl s.length 0 1 2 true) (rows:=wrdRows C.words f) (rows2:=[[ow,iA ct]]) (lo:=cb + 1) (lo':=s.length) (hi':=s.length + 1) (by simp only [kB,kZ,kD,kE,xp,xj,xn,xe,xf,xh,xi,xm,xl,xk,reduceIte,reduceCtorEq,yd,yc,xv]) (by simp only [kB,kZ,kD,kE,xp,xj,xn,xe,xf,xh,xi,xm,xl,xk,reduceIte,reduceCtorEq,yd,yc,xv]) (own_frame hbS _) (by simp; omega) hrow (by rw [wrdRows_length]; simp; omega) (by simp [hcow]; rfl) ?_
      intro w9 s9 hag9 hown9 hcase9
      refine ⟨keptA_nil _ _ _,?_⟩
      rcases hcase9 with ⟨ee,_⟩ | ⟨_,hb9,hex9⟩
      · cases ee
      have hb9' : ∀ n,boxOf w9 = some n→n = s.length + 1:=fun n hn=>by rw [hb9] at hn; cases hn; simp
      have hL10:=(hL.grow [⟨[ow,iA ct],0,0⟩]).far hag9 (fun b hb y=>by have:=(hW6.own.bnd b y.2).1; omega)
      have hblw : ∀ b,boxOf bl = some b→b < wb:=fun b hb=>by have:=(hW6.own.bnd b hb).2; omega
      have hagA : Agree (fun n=>((n = rb∨wb≤n)∨False)∨([[ow,iA ct]]≠[]∧boxOf bl = some n)) S6 s9:=(hag.trans (Agree.app (fun _=>False) s _)).trans hag9
      have hXA : ∀ n,cb + 1≤n→n < S6.length→(((n = rb∨wb≤n)∨False)∨([[ow,iA ct]]≠[]∧boxOf bl = some n))→boxOf bl = some n:=fun n h1 h2 y=>by
        rcases y with (y | y) | y
        · exact absurd y (hfar n h1 h2)
        · exact y.elim
        · exact y.2
      have how9 : OwnS s9 (cb + 1) ow 7 (ops.map OpV.row):=((own_frame hown [⟨[ow,iA ct],0,0⟩]).agree hag9 (fun b hb y=>by have:=(hown.bnd b hb).1; have:=hblw b y.2; omega)).low (by omega)
      have hown1 : ∀ n,boxOf ow = some n→S6.length≤n:=fun n hn=>by have:=(hown.bnd n hn).1; omega
      have hW9:=hW6.snocL (b:=⟨ops,ct⟩) hagA hXA how9 hown1 hown9 hex9 (fun n hn=>⟨by have:=hb9' n hn; omega,fun e=>by have:=(hown.bnd n e).2; have:=hb9' n hn; omega⟩)
      have hY9:=hY6.snocL (b:=⟨ops,ct⟩) hagA hXA hown1 (fun n hn=>by have:=hb9' n hn; omega)
      have hcc:=isCell_len hown9.arr.len
      have hcl9:=cellsOf_len hown9.arr.len
      obtain ⟨s10,hp10,hL11,ha10⟩:=hL10.put (k:=5) (vs:=[w9]) (cs':=codRow sz { C with words:=C.words++[⟨ops,ct⟩] } w9) (by simp [codRow]) (by simp [hcc]) rfl
      have hW10:=hW9.agree ha10 (fun b hb _ y=>by omega)
      have hY10:=hY9.agree ha10 (fun b hb _ y=>by omega)
      have hwr : IntKind.wrap .i64 ((i : Int) + 1) = ((i + 1 : Nat) : Int):=by rw [wrap_small (by omega) (by omega)]; omega
      simp only [k2,k4,k5,k9,k6,k8,hcl9,hp10,hwr,kB,kZ,kD,kE,xp,xj,xn,xe,xf,xh,xi,xm,xl,xk,reduceIte,reduceCtorEq,yd,yc,xv]
      exact ⟨n,by omega,i + 1,v,q,e,sz,w9,_,{ C with words:=C.words++[⟨ops,ct⟩] },by omega,by simp [hcl],rfl,hL11,hY10,hW10,hs⟩
    case false =>
      have hi2 : i = N:=by have:=of_decide_eq_false hc; omega
      have hn : n = 0:=by omega
      subst hn
      simp only [k2,k4,k5,k6,k8,hc,kB,kZ,kD,kE,xp,xj,xn,xe,xf,xh,xi,xm,xl,xk,reduceIte,reduceCtorEq,yd,yc,xv]
      exact ⟨v,q,e,sz,bl,f,C,hL,hY,hW,hs.cast (rep_zero rdWrd C.words (fun l q=>endD { C with words:=l } q) q)⟩
  clear hs5 hL5 hY5 hW5 k2 k4 k5
  rintro e' s ⟨v6,q6,e6,sz6,bl,f,C,k2,k4,k5,hL,hY,hW,hs⟩
  have hlt:=hL.lt
  have hlt2:=hL.lt2
  have hcsz:=isCell_len hY.own.arr.len
  have hcbl:=isCell_len hW.own.arr.len
  have hC : OwnC s (cb + 1) (.agg (codRow sz6 C bl)) C:=⟨sz6,bl,f,rfl,hY,hW⟩
  have y2:=hL.rd.y2
  obtain ⟨p,a,hal,hpl,l1,x0,x1,_⟩:=hL.rd.see
  have hdq : decide (0 < q6.length) = decide ((a : Int)≠(p.length : Int)):=decide_eq_decide.2 (by omega)
  cases h0 : decide (e6 = 0)
  · have hne:=of_decide_eq_false h0
    have hn1 : decide (e6≠0) = true:=decide_eq_true hne
    obtain ⟨s8,hp8,hpre8,ha8,hg8⟩:=hL.out (ws:=Z6) rfl rfl
    simp only [k2,k4,k5,y2,h0,hn1,hp8,ha8,kB,kZ,kD,kE,xp,xj,xn,xe,xf,xh,xi,xm,xl,xk,reduceIte,reduceCtorEq,yd,yc,xv]
    refine ⟨kept_at (b:=rb) (o:=2) (by simp only [k4,kB,kZ,kD,kE,xp,xj,xn,xe,xf,xh,xi,xm,xl,xk,reduceIte,reduceCtorEq,yd,yc,xv]) (hg8.eq rb hL.rd.lt (by omega)),hpre8,.inl ⟨e6,hs.bad hne,rfl⟩⟩
  have he0:=of_decide_eq_true h0
  subst he0
  have n41 : decide ((4 : Int)≠0) = true:=by decide
  have n40 : decide ((4 : Int) = 0) = false:=by decide
  have n00 : decide ((0 : Int)≠0) = false:=by decide
  cases hl : decide ((a : Int)≠(p.length : Int))
  case true =>
    simp only [k2,k4,k5,y2,x0,x1,l1,h0,hl,kB,kZ,kD,kE,xp,xj,xn,xe,xf,xh,xi,xm,xl,xk,reduceIte,reduceCtorEq,yd,yc,xv]
    refine callFailX h hL.rd ?_
    intro S7 r7 o7
    rw [h0,if_pos rfl] at r7
    have hL7:=hL.move o7 (fun _ _ y=>y) r7
    have y7:=r7.y2
    obtain ⟨s8,hp8,hpre8,ha8,hg8⟩:=hL7.out (ws:=Z6) rfl rfl
    simp only [k2,k4,k5,y7,n40,n41,hp8,ha8,kB,kZ,kD,kE,xp,xj,xn,xe,xf,xh,xi,xm,xl,xk,reduceIte,reduceCtorEq,yd,yc,xv]
    refine ⟨kept_at (b:=rb) (o:=2) (by simp only [k4,kB,kZ,kD,kE,xp,xj,xn,xe,xf,xh,xi,xm,xl,xk,reduceIte,reduceCtorEq,yd,yc,xv]) (hg8.eq rb hL7.rd.lt (by omega)),hpre8,.inl ⟨4,?_,rfl⟩⟩
    rw [hs.ok rfl]
    unfold endD
    rw [hdq,hl]
    rfl
  have hT : loadD q0 = if decide (chkR C≠0) then .error (chkR C) else .ok C:=by
    rw [hs.ok rfl]
    unfold endD
    rw [hdq,hl]
    rfl
  have xN:=hL.xN rfl
  have j1:=j_r26_Check h hC.cod
  simp only [codRow] at xN j1
  simp only [k2,k4,k5,y2,x0,x1,l1,h0,hl,xN,hcsz,hcbl,kB,kZ,kD,kE,xp,xj,xn,xe,xf,xh,xi,xm,xl,xk,reduceIte,reduceCtorEq,yd,yc,xv]
  refine callO_same j1 ?_
  simp only [kB,kZ,kD,kE,xp,xj,xn,xe,xf,xh,xi,xm,xl,xk,reduceIte,reduceCtorEq,yd,yc,xv]
  refine callFailX h hL.rd ?_
  intro S8 r8 o8
  rw [h0,if_pos rfl] at r8
  have hL8:=hL.move o8 (fun _ _ y=>y) r8
  have y8:=r8.y2
  have x8:=hL8.xN rfl
  have hC8:=hC.agree o8 (fun b hb _ y=>by omega)
  simp only [codRow] at x8
  simp only [k2,k4,k5,y8,kB,kZ,kD,kE,xp,xj,xn,xe,xf,xh,xi,xm,xl,xk,reduceIte,reduceCtorEq,yd,yc,xv]
  cases hc : decide (chkR C≠0)
  · obtain ⟨s9,hp9,hpre9,ha9,hg9⟩:=hL8.out (ws:=codRow sz6 C bl) rfl (by simp [codRow,hcsz,hcbl]; exact ⟨rfl,rfl,rfl,rfl⟩)
    simp only [codRow] at hp9 ha9
    simp only [k2,k4,k5,hc,x8,hp9,ha9,hcsz,hcbl,kB,kZ,kD,kE,xp,xj,xn,xe,xf,xh,xi,xm,xl,xk,reduceIte,reduceCtorEq,yd,yc,xv]
    refine ⟨hpre9,.inr ⟨C,cb + 1,_,?_,Classical.byContradiction fun e=>of_decide_eq_false hc e,by omega,hC8.agree hg9 (fun b hb _ y=>by omega),rfl⟩⟩
    rw [hT,hc]
    rfl
  · obtain ⟨s9,hp9,hpre9,ha9,hg9⟩:=hL8.out (ws:=Z6) rfl rfl
    simp only [k2,k4,k5,hc,y8,hp9,ha9,kB,kZ,kD,kE,xp,xj,xn,xe,xf,xh,xi,xm,xl,xk,reduceIte,reduceCtorEq,yd,yc,xv]
    refine ⟨kept_at (b:=rb) (o:=2) (by simp only [k4,kB,kZ,kD,kE,xp,xj,xn,xe,xf,xh,xi,xm,xl,xk,reduceIte,reduceCtorEq,yd,yc,xv]) (hg9.eq rb hL8.rd.lt (by omega)),hpre9,.inl ⟨chkR C,?_,rfl⟩⟩
    rw [hT,hc]
    rfl
end
end Go.VX.Seat
end
