/- A part of the proofs of the statements of one layer: M22, M2, M3, M23, M24, M25, M26. No condition is added here. -/
import Derived.Lib.ItoaLen
import Derived.Test.YtddmdncdbhlkpaaDoorXB11
set_option linter.unusedVariables false
set_option linter.unusedSimpArgs false
open Go.VX.AV renaming cell? → xa, toV → xb
open Int renaming reduceAdd → xc, reduceLE → xd, reduceLT → xe, reduceNeg → xf, reduceToNat → xg
open Nat renaming reduceAdd → xh, reduceEqDiff → xi, reduceLeDiff → xj, reduceMul → xk, reduceSub → xm
open Go.VX.VOpd renaming ev → xn
open Go.VX renaming asInt? → xo, asNat? → xp, cellVal → xq, cellsV → xr, fillA → xv, partsEv → xw, resOf → xy, splice → xz, tupOf → ya, zeroes → yb
section
set_option maxRecDepth 4000
namespace Go.VX.Seat
open Go.Proofs Go.Lib
def i64M (m : MachV) : Prop:=∀ x ∈ m.us++m.ls++[m.regs,m.banks,m.ports],-9223372036854775808≤x∧x≤9223372036854775807
theorem i64M_parts {m : MachV} (h : i64M m) : (∀ x ∈ m.us,-9223372036854775808≤x∧x≤9223372036854775807)∧(∀ x ∈ m.ls,-9223372036854775808≤x∧x≤9223372036854775807)∧(-9223372036854775808≤m.regs∧m.regs≤9223372036854775807)∧(-9223372036854775808≤m.banks∧m.banks≤9223372036854775807)∧(-9223372036854775808≤m.ports∧m.ports≤9223372036854775807) :=
  ⟨fun x hx=>h x (by simp [hx]),fun x hx=>h x (by simp [hx]),h _ (by simp),h _ (by simp),h _ (by simp)⟩
theorem itoa_len {n : Int} (h : -9223372036854775808≤n∧n≤9223372036854775807) : (itoa n).length≤21:=itoa_length_le n h.1 h.2
theorem txtM_len {m : MachV} (h : i64M m) : (txtM m).length≤1000:=by
  have hx : ∀ y ∈ pcsM m,y.length≤21:=fun y hy=>by
    have hx : ∀ x ∈ m.us++m.ls++[m.regs,m.banks,m.ports],(itoa x).length≤21:=fun x hx=>itoa_len (h x hx)
    simp only [MachV.us,MachV.ls,List.cons_append,List.nil_append] at hx
    simp only [pcsM,List.mem_cons,List.not_mem_nil,or_false] at hy
    rcases hy with rfl | rfl | rfl | rfl | rfl | rfl | rfl | rfl | rfl | rfl | rfl | rfl | rfl | rfl | rfl | rfl
    all_goals first | exact (by decide) | exact hx _ (by simp)
  have hl : ∀ l : List (List UInt8),(∀ y ∈ l,y.length≤21)→lens l≤21 * l.length:=fun l=>by
    induction l with
    | nil=>intro _; exact Nat.le_refl _
    | cons a r ih =>
      intro hh
      have h1:=hh a (List.mem_cons_self ..)
      have h2:=ih fun y hy=>hh y (List.mem_cons_of_mem _ hy)
      simp only [lens,List.map_cons,List.sum_cons,List.length_cons] at h2 ⊢
      omega
  have h2:=hl _ hx
  have h3 : (pcsM m).length = 16:=rfl
  have h4 : (txtM m).length = [32].length * 15 + lens (pcsM m):=join_length _ _ _
  rw [h3] at h2
  rw [h4]
  simp only [List.length_cons,List.length_nil]
  omega
structure WrM (st s : St) (m : MachV) (w : AV) (ps : List (List UInt8)) : Prop where
  pre : ∃ k,s = st++k
  c : s[st.length]? = some ⟨m.row,0,0⟩
  own : OwnS s (st.length + 1) w 1 (rowsS ps)
  g : GB s
section
variable {X : Cx} {st : St}
theorem WrM.lt {s : St} {m : MachV} {w : AV} {ps : List (List UInt8)} (h : WrM st s m w ps) : st.length + 1≤s.length:=(List.getElem?_eq_some_iff.1 h.c).1
theorem opR_wr {K : Env→St→Post3→Prop} {Q : Post3} {d : Option Nat} {env : Env} {s : St} {m : MachV} {w : AV} {ps : List (List UInt8)} (qs : List (List UInt8)) {x y : VOpd} (hg : GB st) (h : WrM st s m w ps) (hq : qs≠[]) (hl : ps.length + qs.length≤1000000) (ex : x.ev env = w) (ey : y.ev env = .sl s.length 0 qs.length 1 true)
    (hK : ∀ w' s',WrM st s' m w' (ps++qs)→K (env.put d w') s' Q) :
    opR X K d [] env (s++[⟨qs.map sA,0,0⟩]) Q (vop X.P (.append 1 16 x y) env (s++[⟨qs.map sA,0,0⟩])):=by
  refine opR_strs h.own h.lt hq hl ex ey ?_
  intro w' s' hag hown
  have hpre:=hag.ext h.pre fun b hb e=>by have:=(h.own.bnd b e).1; omega
  refine hK w' s' ⟨hpre,hag.box h.c (fun e=>by have:=(h.own.bnd _ e).1; omega),hown,?_⟩
  obtain ⟨k,e⟩:=hpre
  rw [e]
  exact hg.app k
set_option maxHeartbeats 2000000 in
theorem j_write (h : OnH X) (hg : GB st) (m : MachV) (hm : i64M m) : J X.P X.F X.H (.call 34 [.agg m.row] st (.ret (sA (txtM m))) st):=by
  refine pure_intro (by rw [h.F]; rfl) rfl ?_
  obtain ⟨hu,hl,h1,h2,h3⟩:=i64M_parts hm
  simp only [v_machine_write,MachV.row,kB,kZ,kD,kE,xm,xg,xk,xc,xd,xe,xf,xj,xi,xh,reduceIte,reduceCtorEq,xz,xy,xq]
  have hW0 : WrM st (st++[⟨[iA m.u0,iA m.u1,iA m.u2,iA m.u3,iA m.l0,iA m.l1,iA m.l2,iA m.l3,iA m.regs,iA m.banks,iA m.ports],0,0⟩,⟨[.sc (.string ⟨#[117,110,105,116,115]⟩)],0,0⟩]) m (.sl (st.length + 1) 0 1 1 true) [tU]:={
    pre:=⟨_,rfl⟩
    c:=by simp [MachV.row]
    own:=⟨(ArrAt.ofBox (mode:=0) (ver:=0) (rows:=rowsS [tU]) (by simp [tU]) (by decide) (fun r hr=>by obtain ⟨p,_,rfl⟩:=List.mem_map.1 hr; rfl) rfl).wide' (Nat.le_refl _) (by simp),fun b hb=>by cases hb; simp,fun b o n e full hv=>by cases hv; exact .inl rfl⟩
    g:=hg.app _ }
  have hi4 : ∀ {l : List Int} {i : Nat} (hi : i < l.length),(l.map fun n=>iA n)[i]? = some (iA l[i]):=fun {l i} hi=>by rw [List.getElem?_map,List.getElem?_eq_getElem hi]; rfl
  generalize (st++[⟨[iA m.u0,iA m.u1,iA m.u2,iA m.u3,iA m.l0,iA m.l1,iA m.l2,iA m.l3,iA m.regs,iA m.banks,iA m.ports],0,0⟩,⟨[.sc (.string ⟨#[117,110,105,116,115]⟩)],0,0⟩] : St) = S0 at *
  refine anyLoop (mB m0) (fun e s=>∃ w,e 1 = .ptr (st.length + 0) 0∧e 3 = w∧WrM st s m w (tU :: m.us.map itoa)) ?_ ?_
  · refine loop_inv (fun k e s=>∃ (i : Nat) (w : AV),i + k = 4∧e 1 = .ptr (st.length + 0) 0∧e 3 = w∧e 10 = .agg (m.us.map fun n=>iA n)∧e 11 = iA i∧WrM st s m w (tU :: (m.us.take i).map itoa)) ?_ 4 ?_
    case refine_2=>exact ⟨0,_,by omega,rfl,rfl,rfl,rfl,hW0⟩
    clear hW0
    rintro k e s ⟨i,w,hik,k1,k3,k10,k11,hW⟩
    have hul : m.us.length = 4:=rfl
    cases hc : decide ((i : Int) < 4)
    · have hi : i = 4:=by have:=of_decide_eq_false hc; omega
      subst hi
      simp only [k1,k3,k10,k11,hc,kB,kZ,kD,kE,xm,xg,xk,xc,xd,xe,xf,xj,xi,xh,reduceIte,reduceCtorEq,xz,xy,xq]
      exact hW
    have hi : i < 4:=by have:=of_decide_eq_true hc; omega
    have hwi : IntKind.wrap .i64 ((i : Int) + 1) = ((i + 1 : Nat) : Int):=by rw [wrap_small (by omega) (by omega)]; omega
    have hgi:=hi4 (l:=m.us) (i:=i) (by omega)
    have hb:=hu _ (List.getElem_mem (show i < m.us.length by omega))
    have htk : (m.us.take (i + 1)).map itoa = (m.us.take i).map itoa++[itoa (m.us[i]'(by omega))]:=by rw [List.take_succ_eq_append_getElem (by omega),List.map_append]; rfl
    generalize m.us[i]'(by omega) = n at *
    have h04 : (0 : Int)≤(i : Int):=by omega
    have h4 : (i : Int) < 4:=by omega
    simp only [k1,k3,k10,k11,hc,h04,h4,hgi,kB,kZ,kD,kE,xm,xg,xk,xc,xd,xe,xf,xj,xi,xh,reduceIte,reduceCtorEq,xz,xy,xq]
    refine callO_same (j_Itoa h hW.g n hb.1 hb.2) ?_
    simp only [k1,k3,k10,k11,hwi,kB,kZ,kD,kE,xm,xg,xk,xc,xd,xe,xf,xj,xi,xh,reduceIte,reduceCtorEq,xz,xy,xq]
    refine opR_wr [itoa n] hg hW (by simp) (by simp; omega) (by simp only [kB,kZ,kD,kE,xm,xg,xk,xc,xd,xe,xf,xj,xi,xh,reduceIte,reduceCtorEq,xz,xy,xq]) (by simp only [kB,kZ,kD,kE,xm,xg,xk,xc,xd,xe,xf,xj,xi,xh,reduceIte,reduceCtorEq,xz,xy,xq]) ?_
    intro w' s' hW'
    simp only [k1,k3,k10,k11,hwi,kB,kZ,kD,kE,xm,xg,xk,xc,xd,xe,xf,xj,xi,xh,reduceIte,reduceCtorEq,xz,xy,xq]
    refine ⟨k - 1,by omega,i + 1,w',by omega,rfl,rfl,?_⟩
    rw [htk]
    exact hW'
  clear hW0
  rintro e s ⟨w,k1,k3,hW⟩
  have xl : ∀ L,St.atN (s++L) (st.length + 0) 4 4 = some [iA m.l0,iA m.l1,iA m.l2,iA m.l3]:=fun L=>by
    rw [Nat.add_zero,atN_box (by rw [List.getElem?_append_left hW.lt]; exact hW.c) (by decide) 4 4 (by simp [MachV.row])]
    rfl
  simp only [k1,k3,kB,kZ,kD,kE,xm,xg,xk,xc,xd,xe,xf,xj,xi,xh,reduceIte,reduceCtorEq,xz,xy,xq]
  refine opR_wr [tL] hg hW (by simp) (by simp [MachV.us]) (by simp only [kB,kZ,kD,kE,xm,xg,xk,xc,xd,xe,xf,xj,xi,xh,reduceIte,reduceCtorEq,xz,xy,xq]) (by simp only [kB,kZ,kD,kE,xm,xg,xk,xc,xd,xe,xf,xj,xi,xh,reduceIte,reduceCtorEq,xz,xy,xq]) ?_
  intro w1 s1 hW1
  clear hW xl k3
  have xl : St.atN s1 (st.length + 0) 4 4 = some [iA m.l0,iA m.l1,iA m.l2,iA m.l3]:=by
    rw [Nat.add_zero,atN_box hW1.c (by decide) 4 4 (by simp [MachV.row])]
    rfl
  simp only [k1,xl,kB,kZ,kD,kE,xm,xg,xk,xc,xd,xe,xf,xj,xi,xh,reduceIte,reduceCtorEq,xz,xy,xq]
  refine anyLoop (mB m0) (fun e s=>∃ w,e 1 = .ptr (st.length + 0) 0∧e 3 = w∧WrM st s m w (tU :: m.us.map itoa++[tL]++m.ls.map itoa)) ?_ ?_
  · refine loop_inv (fun k e s=>∃ (i : Nat) (w : AV),i + k = 4∧e 1 = .ptr (st.length + 0) 0∧e 3 = w∧e 24 = .agg (m.ls.map fun n=>iA n)∧e 25 = iA i∧WrM st s m w (tU :: m.us.map itoa++[tL]++(m.ls.take i).map itoa)) ?_ 4 ?_
    case refine_2=>exact ⟨0,w1,by omega,by simp only [k1,kB,kZ,kD,kE,xm,xg,xk,xc,xd,xe,xf,xj,xi,xh,reduceIte,reduceCtorEq,xz,xy,xq],by simp only [kB,kZ,kD,kE,xm,xg,xk,xc,xd,xe,xf,xj,xi,xh,reduceIte,reduceCtorEq,xz,xy,xq],rfl,rfl,by simpa using hW1⟩
    clear hW1 k1 xl
    rintro k e s ⟨i,w,hik,k1,k3,k10,k11,hW⟩
    have hul : m.ls.length = 4:=rfl
    cases hc : decide ((i : Int) < 4)
    · have hi : i = 4:=by have:=of_decide_eq_false hc; omega
      subst hi
      simp only [k1,k3,k10,k11,hc,kB,kZ,kD,kE,xm,xg,xk,xc,xd,xe,xf,xj,xi,xh,reduceIte,reduceCtorEq,xz,xy,xq]
      exact hW
    have hi : i < 4:=by have:=of_decide_eq_true hc; omega
    have hwi : IntKind.wrap .i64 ((i : Int) + 1) = ((i + 1 : Nat) : Int):=by rw [wrap_small (by omega) (by omega)]; omega
    have hgi:=hi4 (l:=m.ls) (i:=i) (by omega)
    have hb:=hl _ (List.getElem_mem (show i < m.ls.length by omega))
    have htk : (m.ls.take (i + 1)).map itoa = (m.ls.take i).map itoa++[itoa (m.ls[i]'(by omega))]:=by rw [List.take_succ_eq_append_getElem (by omega),List.map_append]; rfl
    generalize m.ls[i]'(by omega) = n at *
    have h04 : (0 : Int)≤(i : Int):=by omega
    have h4 : (i : Int) < 4:=by omega
    simp only [k1,k3,k10,k11,hc,h04,h4,hgi,kB,kZ,kD,kE,xm,xg,xk,xc,xd,xe,xf,xj,xi,xh,reduceIte,reduceCtorEq,xz,xy,xq]
    refine callO_same (j_Itoa h hW.g n hb.1 hb.2) ?_
    simp only [k1,k3,k10,k11,hwi,kB,kZ,kD,kE,xm,xg,xk,xc,xd,xe,xf,xj,xi,xh,reduceIte,reduceCtorEq,xz,xy,xq]
    refine opR_wr [itoa n] hg hW (by simp) (by simp [MachV.us]; omega) (by simp only [kB,kZ,kD,kE,xm,xg,xk,xc,xd,xe,xf,xj,xi,xh,reduceIte,reduceCtorEq,xz,xy,xq]) (by simp only [kB,kZ,kD,kE,xm,xg,xk,xc,xd,xe,xf,xj,xi,xh,reduceIte,reduceCtorEq,xz,xy,xq]) ?_
    intro w' s' hW'
    simp only [k1,k3,k10,k11,hwi,kB,kZ,kD,kE,xm,xg,xk,xc,xd,xe,xf,xj,xi,xh,reduceIte,reduceCtorEq,xz,xy,xq]
    refine ⟨k - 1,by omega,i + 1,w',by omega,rfl,rfl,?_⟩
    rw [htk,← List.append_assoc]
    exact hW'
  clear hW1 k1 xl
  rintro e s ⟨w,k1,k3,hW⟩
  have x8 : St.at1 s (st.length + 0) 8 = some (iA m.regs):=by rw [Nat.add_zero,at1_box hW.c (by decide) 8]; rfl
  have x9 : St.at1 s (st.length + 0) 9 = some (iA m.banks):=by rw [Nat.add_zero,at1_box hW.c (by decide) 9]; rfl
  have x10 : St.at1 s (st.length + 0) 10 = some (iA m.ports):=by rw [Nat.add_zero,at1_box hW.c (by decide) 10]; rfl
  simp only [k1,k3,x8,x9,x10,kB,kZ,kD,kE,xm,xg,xk,xc,xd,xe,xf,xj,xi,xh,reduceIte,reduceCtorEq,xz,xy,xq]
  refine callO_same (j_Itoa h hW.g _ h1.1 h1.2) ?_
  simp only [k1,k3,x8,x9,x10,kB,kZ,kD,kE,xm,xg,xk,xc,xd,xe,xf,xj,xi,xh,reduceIte,reduceCtorEq,xz,xy,xq]
  refine callO_same (j_Itoa h hW.g _ h2.1 h2.2) ?_
  simp only [k1,k3,x8,x9,x10,kB,kZ,kD,kE,xm,xg,xk,xc,xd,xe,xf,xj,xi,xh,reduceIte,reduceCtorEq,xz,xy,xq]
  refine callO_same (j_Itoa h hW.g _ h3.1 h3.2) ?_
  simp only [k1,k3,kB,kZ,kD,kE,xm,xg,xk,xc,xd,xe,xf,xj,xi,xh,reduceIte,reduceCtorEq,xz,xy,xq]
  refine opR_wr [tR,itoa m.regs,tB,itoa m.banks,tP,itoa m.ports] hg hW (by simp) (by simp [MachV.us,MachV.ls]) (by simp only [kB,kZ,kD,kE,xm,xg,xk,xc,xd,xe,xf,xj,xi,xh,reduceIte,reduceCtorEq,xz,xy,xq]) (by simp only [kB,kZ,kD,kE,xm,xg,xk,xc,xd,xe,xf,xj,xi,xh,reduceIte,reduceCtorEq,xz,xy,xq]) ?_
  intro w2 s2 hW2
  have hfin : tU :: m.us.map itoa++[tL]++m.ls.map itoa++[tR,itoa m.regs,tB,itoa m.banks,tP,itoa m.ports] = pcsM m:=rfl
  rw [hfin] at hW2
  have htl:=txtM_len hm
  simp only [k1,kB,kZ,kD,kE,xm,xg,xk,xc,xd,xe,xf,xj,xi,xh,reduceIte,reduceCtorEq,xz,xy,xq]
  refine callO_same (j_Join h hW2.own.arr (by simp [pcsM]) (by unfold txtM at htl; omega)) ?_
  simp only [kB,kZ,kD,kE,xm,xg,xk,xc,xd,xe,xf,xj,xi,xh,reduceIte,reduceCtorEq,xz,xy,xq]
  obtain ⟨k,e⟩:=hW2.pre
  exact ⟨rfl,k,e⟩
end
end Go.VX.Seat
end
section
set_option maxRecDepth 4000
namespace Go.VX.Seat
open Go.Proofs
section
variable {X : Cx} {st : St}
set_option maxHeartbeats 2000000 in
theorem j_r19_Check (h : On X) (m : MachV) : J X.P X.F X.H (.call 12 [.agg m.row] st (.ret (iA (chkM m))) st):=by
  refine pure_intro (by rw [h.F]; rfl) rfl ?_
  have w1 : IntKind.wrap .i64 (0 + 1) = 1:=rfl
  have w2 : IntKind.wrap .i64 (1 + 1) = 2:=rfl
  have w3 : IntKind.wrap .i64 (2 + 1) = 3:=rfl
  have w4 : IntKind.wrap .i64 (3 + 1) = 4:=rfl
  simp only [v_r19_Check,MachV.row,kB,kZ,kD,kE,xm,xg,xk,xc,xd,xe,xf,xj,xi,xh,reduceIte,reduceCtorEq,xz,xy,xq]
  refine loop_unroll ?_
  simp only [kB,kZ,kD,kE,xm,xg,xk,xc,xd,xe,xf,xj,xi,xh,reduceIte,reduceCtorEq,xz,xy,xq]
  cases p_u0 : decide (m.u0 < 1)
  case true =>
    have b_u0 : inB m.u0 1 8 = false:=by have:=of_decide_eq_true p_u0; simp [inB]; omega
    have e : chkM m = 2:=by unfold chkM okM; simp only [b_u0,Bool.false_and,Bool.and_false,Bool.false_eq_true,if_false]
    simp only [p_u0,e,w1,w2,w3,w4,kB,kZ,kD,kE,xm,xg,xk,xc,xd,xe,xf,xj,xi,xh,reduceIte,reduceCtorEq,xz,xy,xq]
    first | exact ⟨_,rfl⟩ | exact ⟨rfl,_,rfl⟩ | exact ⟨trivial,_,rfl⟩ | exact ⟨[],(List.append_nil _).symm⟩
  simp only [p_u0,w1,w2,w3,w4,kB,kZ,kD,kE,xm,xg,xk,xc,xd,xe,xf,xj,xi,xh,reduceIte,reduceCtorEq,xz,xy,xq]
  cases q_u0 : decide (8 < m.u0)
  case true =>
    have b_u0 : inB m.u0 1 8 = false:=by have:=of_decide_eq_true q_u0; simp [inB]; omega
    have e : chkM m = 2:=by unfold chkM okM; simp only [b_u0,Bool.false_and,Bool.and_false,Bool.false_eq_true,if_false]
    simp only [q_u0,e,w1,w2,w3,w4,kB,kZ,kD,kE,xm,xg,xk,xc,xd,xe,xf,xj,xi,xh,reduceIte,reduceCtorEq,xz,xy,xq]
    first | exact ⟨_,rfl⟩ | exact ⟨rfl,_,rfl⟩ | exact ⟨trivial,_,rfl⟩ | exact ⟨[],(List.append_nil _).symm⟩
  simp only [q_u0,w1,w2,w3,w4,kB,kZ,kD,kE,xm,xg,xk,xc,xd,xe,xf,xj,xi,xh,reduceIte,reduceCtorEq,xz,xy,xq]
  have b_u0 : inB m.u0 1 8 = true:=by have a:=of_decide_eq_false p_u0; have b:=of_decide_eq_false q_u0; simp [inB]; omega
  cases p_l0 : decide (m.l0 < 1)
  case true =>
    have b_l0 : inB m.l0 1 8 = false:=by have:=of_decide_eq_true p_l0; simp [inB]; omega
    have e : chkM m = 2:=by unfold chkM okM; simp only [b_l0,Bool.false_and,Bool.and_false,Bool.false_eq_true,if_false]
    simp only [p_l0,e,w1,w2,w3,w4,kB,kZ,kD,kE,xm,xg,xk,xc,xd,xe,xf,xj,xi,xh,reduceIte,reduceCtorEq,xz,xy,xq]
    first | exact ⟨_,rfl⟩ | exact ⟨rfl,_,rfl⟩ | exact ⟨trivial,_,rfl⟩ | exact ⟨[],(List.append_nil _).symm⟩
  simp only [p_l0,w1,w2,w3,w4,kB,kZ,kD,kE,xm,xg,xk,xc,xd,xe,xf,xj,xi,xh,reduceIte,reduceCtorEq,xz,xy,xq]
  cases q_l0 : decide (8 < m.l0)
  case true =>
    have b_l0 : inB m.l0 1 8 = false:=by have:=of_decide_eq_true q_l0; simp [inB]; omega
    have e : chkM m = 2:=by unfold chkM okM; simp only [b_l0,Bool.false_and,Bool.and_false,Bool.false_eq_true,if_false]
    simp only [q_l0,e,w1,w2,w3,w4,kB,kZ,kD,kE,xm,xg,xk,xc,xd,xe,xf,xj,xi,xh,reduceIte,reduceCtorEq,xz,xy,xq]
    first | exact ⟨_,rfl⟩ | exact ⟨rfl,_,rfl⟩ | exact ⟨trivial,_,rfl⟩ | exact ⟨[],(List.append_nil _).symm⟩
  simp only [q_l0,w1,w2,w3,w4,kB,kZ,kD,kE,xm,xg,xk,xc,xd,xe,xf,xj,xi,xh,reduceIte,reduceCtorEq,xz,xy,xq]
  have b_l0 : inB m.l0 1 8 = true:=by have a:=of_decide_eq_false p_l0; have b:=of_decide_eq_false q_l0; simp [inB]; omega
  refine loop_unroll ?_
  simp only [kB,kZ,kD,kE,xm,xg,xk,xc,xd,xe,xf,xj,xi,xh,reduceIte,reduceCtorEq,xz,xy,xq]
  cases p_u1 : decide (m.u1 < 1)
  case true =>
    have b_u1 : inB m.u1 1 8 = false:=by have:=of_decide_eq_true p_u1; simp [inB]; omega
    have e : chkM m = 2:=by unfold chkM okM; simp only [b_u1,Bool.false_and,Bool.and_false,Bool.false_eq_true,if_false]
    simp only [p_u1,e,w1,w2,w3,w4,kB,kZ,kD,kE,xm,xg,xk,xc,xd,xe,xf,xj,xi,xh,reduceIte,reduceCtorEq,xz,xy,xq]
    first | exact ⟨_,rfl⟩ | exact ⟨rfl,_,rfl⟩ | exact ⟨trivial,_,rfl⟩ | exact ⟨[],(List.append_nil _).symm⟩
  simp only [p_u1,w1,w2,w3,w4,kB,kZ,kD,kE,xm,xg,xk,xc,xd,xe,xf,xj,xi,xh,reduceIte,reduceCtorEq,xz,xy,xq]
  cases q_u1 : decide (8 < m.u1)
  case true =>
    have b_u1 : inB m.u1 1 8 = false:=by have:=of_decide_eq_true q_u1; simp [inB]; omega
    have e : chkM m = 2:=by unfold chkM okM; simp only [b_u1,Bool.false_and,Bool.and_false,Bool.false_eq_true,if_false]
    simp only [q_u1,e,w1,w2,w3,w4,kB,kZ,kD,kE,xm,xg,xk,xc,xd,xe,xf,xj,xi,xh,reduceIte,reduceCtorEq,xz,xy,xq]
    first | exact ⟨_,rfl⟩ | exact ⟨rfl,_,rfl⟩ | exact ⟨trivial,_,rfl⟩ | exact ⟨[],(List.append_nil _).symm⟩
  simp only [q_u1,w1,w2,w3,w4,kB,kZ,kD,kE,xm,xg,xk,xc,xd,xe,xf,xj,xi,xh,reduceIte,reduceCtorEq,xz,xy,xq]
  have b_u1 : inB m.u1 1 8 = true:=by have a:=of_decide_eq_false p_u1; have b:=of_decide_eq_false q_u1; simp [inB]; omega
  cases p_l1 : decide (m.l1 < 1)
  case true =>
    have b_l1 : inB m.l1 1 8 = false:=by have:=of_decide_eq_true p_l1; simp [inB]; omega
    have e : chkM m = 2:=by unfold chkM okM; simp only [b_l1,Bool.false_and,Bool.and_false,Bool.false_eq_true,if_false]
    simp only [p_l1,e,w1,w2,w3,w4,kB,kZ,kD,kE,xm,xg,xk,xc,xd,xe,xf,xj,xi,xh,reduceIte,reduceCtorEq,xz,xy,xq]
    first | exact ⟨_,rfl⟩ | exact ⟨rfl,_,rfl⟩ | exact ⟨trivial,_,rfl⟩ | exact ⟨[],(List.append_nil _).symm⟩
  simp only [p_l1,w1,w2,w3,w4,kB,kZ,kD,kE,xm,xg,xk,xc,xd,xe,xf,xj,xi,xh,reduceIte,reduceCtorEq,xz,xy,xq]
  cases q_l1 : decide (8 < m.l1)
  case true =>
    have b_l1 : inB m.l1 1 8 = false:=by have:=of_decide_eq_true q_l1; simp [inB]; omega
    have e : chkM m = 2:=by unfold chkM okM; simp only [b_l1,Bool.false_and,Bool.and_false,Bool.false_eq_true,if_false]
    simp only [q_l1,e,w1,w2,w3,w4,kB,kZ,kD,kE,xm,xg,xk,xc,xd,xe,xf,xj,xi,xh,reduceIte,reduceCtorEq,xz,xy,xq]
    first | exact ⟨_,rfl⟩ | exact ⟨rfl,_,rfl⟩ | exact ⟨trivial,_,rfl⟩ | exact ⟨[],(List.append_nil _).symm⟩
  simp only [q_l1,w1,w2,w3,w4,kB,kZ,kD,kE,xm,xg,xk,xc,xd,xe,xf,xj,xi,xh,reduceIte,reduceCtorEq,xz,xy,xq]
  have b_l1 : inB m.l1 1 8 = true:=by have a:=of_decide_eq_false p_l1; have b:=of_decide_eq_false q_l1; simp [inB]; omega
  refine loop_unroll ?_
  simp only [kB,kZ,kD,kE,xm,xg,xk,xc,xd,xe,xf,xj,xi,xh,reduceIte,reduceCtorEq,xz,xy,xq]
  cases p_u2 : decide (m.u2 < 1)
  case true =>
    have b_u2 : inB m.u2 1 8 = false:=by have:=of_decide_eq_true p_u2; simp [inB]; omega
    have e : chkM m = 2:=by unfold chkM okM; simp only [b_u2,Bool.false_and,Bool.and_false,Bool.false_eq_true,if_false]
    simp only [p_u2,e,w1,w2,w3,w4,kB,kZ,kD,kE,xm,xg,xk,xc,xd,xe,xf,xj,xi,xh,reduceIte,reduceCtorEq,xz,xy,xq]
    first | exact ⟨_,rfl⟩ | exact ⟨rfl,_,rfl⟩ | exact ⟨trivial,_,rfl⟩ | exact ⟨[],(List.append_nil _).symm⟩
  simp only [p_u2,w1,w2,w3,w4,kB,kZ,kD,kE,xm,xg,xk,xc,xd,xe,xf,xj,xi,xh,reduceIte,reduceCtorEq,xz,xy,xq]
  cases q_u2 : decide (8 < m.u2)
  case true =>
    have b_u2 : inB m.u2 1 8 = false:=by have:=of_decide_eq_true q_u2; simp [inB]; omega
    have e : chkM m = 2:=by unfold chkM okM; simp only [b_u2,Bool.false_and,Bool.and_false,Bool.false_eq_true,if_false]
    simp only [q_u2,e,w1,w2,w3,w4,kB,kZ,kD,kE,xm,xg,xk,xc,xd,xe,xf,xj,xi,xh,reduceIte,reduceCtorEq,xz,xy,xq]
    first | exact ⟨_,rfl⟩ | exact ⟨rfl,_,rfl⟩ | exact ⟨trivial,_,rfl⟩ | exact ⟨[],(List.append_nil _).symm⟩
  simp only [q_u2,w1,w2,w3,w4,kB,kZ,kD,kE,xm,xg,xk,xc,xd,xe,xf,xj,xi,xh,reduceIte,reduceCtorEq,xz,xy,xq]
  have b_u2 : inB m.u2 1 8 = true:=by have a:=of_decide_eq_false p_u2; have b:=of_decide_eq_false q_u2; simp [inB]; omega
  cases p_l2 : decide (m.l2 < 1)
  case true =>
    have b_l2 : inB m.l2 1 8 = false:=by have:=of_decide_eq_true p_l2; simp [inB]; omega
    have e : chkM m = 2:=by unfold chkM okM; simp only [b_l2,Bool.false_and,Bool.and_false,Bool.false_eq_true,if_false]
    simp only [p_l2,e,w1,w2,w3,w4,kB,kZ,kD,kE,xm,xg,xk,xc,xd,xe,xf,xj,xi,xh,reduceIte,reduceCtorEq,xz,xy,xq]
    first | exact ⟨_,rfl⟩ | exact ⟨rfl,_,rfl⟩ | exact ⟨trivial,_,rfl⟩ | exact ⟨[],(List.append_nil _).symm⟩
  simp only [p_l2,w1,w2,w3,w4,kB,kZ,kD,kE,xm,xg,xk,xc,xd,xe,xf,xj,xi,xh,reduceIte,reduceCtorEq,xz,xy,xq]
  cases q_l2 : decide (8 < m.l2)
  case true =>
    have b_l2 : inB m.l2 1 8 = false:=by have:=of_decide_eq_true q_l2; simp [inB]; omega
    have e : chkM m = 2:=by unfold chkM okM; simp only [b_l2,Bool.false_and,Bool.and_false,Bool.false_eq_true,if_false]
    simp only [q_l2,e,w1,w2,w3,w4,kB,kZ,kD,kE,xm,xg,xk,xc,xd,xe,xf,xj,xi,xh,reduceIte,reduceCtorEq,xz,xy,xq]
    first | exact ⟨_,rfl⟩ | exact ⟨rfl,_,rfl⟩ | exact ⟨trivial,_,rfl⟩ | exact ⟨[],(List.append_nil _).symm⟩
  simp only [q_l2,w1,w2,w3,w4,kB,kZ,kD,kE,xm,xg,xk,xc,xd,xe,xf,xj,xi,xh,reduceIte,reduceCtorEq,xz,xy,xq]
  have b_l2 : inB m.l2 1 8 = true:=by have a:=of_decide_eq_false p_l2; have b:=of_decide_eq_false q_l2; simp [inB]; omega
  refine loop_unroll ?_
  simp only [kB,kZ,kD,kE,xm,xg,xk,xc,xd,xe,xf,xj,xi,xh,reduceIte,reduceCtorEq,xz,xy,xq]
  cases p_u3 : decide (m.u3 < 1)
  case true =>
    have b_u3 : inB m.u3 1 8 = false:=by have:=of_decide_eq_true p_u3; simp [inB]; omega
    have e : chkM m = 2:=by unfold chkM okM; simp only [b_u3,Bool.false_and,Bool.and_false,Bool.false_eq_true,if_false]
    simp only [p_u3,e,w1,w2,w3,w4,kB,kZ,kD,kE,xm,xg,xk,xc,xd,xe,xf,xj,xi,xh,reduceIte,reduceCtorEq,xz,xy,xq]
    first | exact ⟨_,rfl⟩ | exact ⟨rfl,_,rfl⟩ | exact ⟨trivial,_,rfl⟩ | exact ⟨[],(List.append_nil _).symm⟩
  simp only [p_u3,w1,w2,w3,w4,kB,kZ,kD,kE,xm,xg,xk,xc,xd,xe,xf,xj,xi,xh,reduceIte,reduceCtorEq,xz,xy,xq]
  cases q_u3 : decide (8 < m.u3)
  case true =>
    have b_u3 : inB m.u3 1 8 = false:=by have:=of_decide_eq_true q_u3; simp [inB]; omega
    have e : chkM m = 2:=by unfold chkM okM; simp only [b_u3,Bool.false_and,Bool.and_false,Bool.false_eq_true,if_false]
    simp only [q_u3,e,w1,w2,w3,w4,kB,kZ,kD,kE,xm,xg,xk,xc,xd,xe,xf,xj,xi,xh,reduceIte,reduceCtorEq,xz,xy,xq]
    first | exact ⟨_,rfl⟩ | exact ⟨rfl,_,rfl⟩ | exact ⟨trivial,_,rfl⟩ | exact ⟨[],(List.append_nil _).symm⟩
  simp only [q_u3,w1,w2,w3,w4,kB,kZ,kD,kE,xm,xg,xk,xc,xd,xe,xf,xj,xi,xh,reduceIte,reduceCtorEq,xz,xy,xq]
  have b_u3 : inB m.u3 1 8 = true:=by have a:=of_decide_eq_false p_u3; have b:=of_decide_eq_false q_u3; simp [inB]; omega
  cases p_l3 : decide (m.l3 < 1)
  case true =>
    have b_l3 : inB m.l3 1 8 = false:=by have:=of_decide_eq_true p_l3; simp [inB]; omega
    have e : chkM m = 2:=by unfold chkM okM; simp only [b_l3,Bool.false_and,Bool.and_false,Bool.false_eq_true,if_false]
    simp only [p_l3,e,w1,w2,w3,w4,kB,kZ,kD,kE,xm,xg,xk,xc,xd,xe,xf,xj,xi,xh,reduceIte,reduceCtorEq,xz,xy,xq]
    first | exact ⟨_,rfl⟩ | exact ⟨rfl,_,rfl⟩ | exact ⟨trivial,_,rfl⟩ | exact ⟨[],(List.append_nil _).symm⟩
  simp only [p_l3,w1,w2,w3,w4,kB,kZ,kD,kE,xm,xg,xk,xc,xd,xe,xf,xj,xi,xh,reduceIte,reduceCtorEq,xz,xy,xq]
  cases q_l3 : decide (8 < m.l3)
  case true =>
    have b_l3 : inB m.l3 1 8 = false:=by have:=of_decide_eq_true q_l3; simp [inB]; omega
    have e : chkM m = 2:=by unfold chkM okM; simp only [b_l3,Bool.false_and,Bool.and_false,Bool.false_eq_true,if_false]
    simp only [q_l3,e,w1,w2,w3,w4,kB,kZ,kD,kE,xm,xg,xk,xc,xd,xe,xf,xj,xi,xh,reduceIte,reduceCtorEq,xz,xy,xq]
    first | exact ⟨_,rfl⟩ | exact ⟨rfl,_,rfl⟩ | exact ⟨trivial,_,rfl⟩ | exact ⟨[],(List.append_nil _).symm⟩
  simp only [q_l3,w1,w2,w3,w4,kB,kZ,kD,kE,xm,xg,xk,xc,xd,xe,xf,xj,xi,xh,reduceIte,reduceCtorEq,xz,xy,xq]
  have b_l3 : inB m.l3 1 8 = true:=by have a:=of_decide_eq_false p_l3; have b:=of_decide_eq_false q_l3; simp [inB]; omega
  refine loop_unroll ?_
  simp only [kB,kZ,kD,kE,xm,xg,xk,xc,xd,xe,xf,xj,xi,xh,reduceIte,reduceCtorEq,xz,xy,xq]
  cases p_regs : decide (m.regs < 1)
  case true =>
    have b_regs : inB m.regs 1 4096 = false:=by have:=of_decide_eq_true p_regs; simp [inB]; omega
    have e : chkM m = 2:=by unfold chkM okM; simp only [b_regs,Bool.false_and,Bool.and_false,Bool.false_eq_true,if_false]
    simp only [p_regs,e,w1,w2,w3,w4,kB,kZ,kD,kE,xm,xg,xk,xc,xd,xe,xf,xj,xi,xh,reduceIte,reduceCtorEq,xz,xy,xq]
    first | exact ⟨_,rfl⟩ | exact ⟨rfl,_,rfl⟩ | exact ⟨trivial,_,rfl⟩ | exact ⟨[],(List.append_nil _).symm⟩
  simp only [p_regs,w1,w2,w3,w4,kB,kZ,kD,kE,xm,xg,xk,xc,xd,xe,xf,xj,xi,xh,reduceIte,reduceCtorEq,xz,xy,xq]
  cases q_regs : decide (4096 < m.regs)
  case true =>
    have b_regs : inB m.regs 1 4096 = false:=by have:=of_decide_eq_true q_regs; simp [inB]; omega
    have e : chkM m = 2:=by unfold chkM okM; simp only [b_regs,Bool.false_and,Bool.and_false,Bool.false_eq_true,if_false]
    simp only [q_regs,e,w1,w2,w3,w4,kB,kZ,kD,kE,xm,xg,xk,xc,xd,xe,xf,xj,xi,xh,reduceIte,reduceCtorEq,xz,xy,xq]
    first | exact ⟨_,rfl⟩ | exact ⟨rfl,_,rfl⟩ | exact ⟨trivial,_,rfl⟩ | exact ⟨[],(List.append_nil _).symm⟩
  simp only [q_regs,w1,w2,w3,w4,kB,kZ,kD,kE,xm,xg,xk,xc,xd,xe,xf,xj,xi,xh,reduceIte,reduceCtorEq,xz,xy,xq]
  have b_regs : inB m.regs 1 4096 = true:=by have a:=of_decide_eq_false p_regs; have b:=of_decide_eq_false q_regs; simp [inB]; omega
  cases p_banks : decide (m.banks < 1)
  case true =>
    have b_banks : inB m.banks 1 8 = false:=by have:=of_decide_eq_true p_banks; simp [inB]; omega
    have e : chkM m = 2:=by unfold chkM okM; simp only [b_banks,Bool.false_and,Bool.and_false,Bool.false_eq_true,if_false]
    simp only [p_banks,e,w1,w2,w3,w4,kB,kZ,kD,kE,xm,xg,xk,xc,xd,xe,xf,xj,xi,xh,reduceIte,reduceCtorEq,xz,xy,xq]
    first | exact ⟨_,rfl⟩ | exact ⟨rfl,_,rfl⟩ | exact ⟨trivial,_,rfl⟩ | exact ⟨[],(List.append_nil _).symm⟩
  simp only [p_banks,w1,w2,w3,w4,kB,kZ,kD,kE,xm,xg,xk,xc,xd,xe,xf,xj,xi,xh,reduceIte,reduceCtorEq,xz,xy,xq]
  cases q_banks : decide (8 < m.banks)
  case true =>
    have b_banks : inB m.banks 1 8 = false:=by have:=of_decide_eq_true q_banks; simp [inB]; omega
    have e : chkM m = 2:=by unfold chkM okM; simp only [b_banks,Bool.false_and,Bool.and_false,Bool.false_eq_true,if_false]
    simp only [q_banks,e,w1,w2,w3,w4,kB,kZ,kD,kE,xm,xg,xk,xc,xd,xe,xf,xj,xi,xh,reduceIte,reduceCtorEq,xz,xy,xq]
    first | exact ⟨_,rfl⟩ | exact ⟨rfl,_,rfl⟩ | exact ⟨trivial,_,rfl⟩ | exact ⟨[],(List.append_nil _).symm⟩
  simp only [q_banks,w1,w2,w3,w4,kB,kZ,kD,kE,xm,xg,xk,xc,xd,xe,xf,xj,xi,xh,reduceIte,reduceCtorEq,xz,xy,xq]
  have b_banks : inB m.banks 1 8 = true:=by have a:=of_decide_eq_false p_banks; have b:=of_decide_eq_false q_banks; simp [inB]; omega
  cases p_ports : decide (m.ports < 4)
  case true =>
    have b_ports : inB m.ports 4 32 = false:=by have:=of_decide_eq_true p_ports; simp [inB]; omega
    have e : chkM m = 2:=by unfold chkM okM; simp only [b_ports,Bool.false_and,Bool.and_false,Bool.false_eq_true,if_false]
    simp only [p_ports,e,w1,w2,w3,w4,kB,kZ,kD,kE,xm,xg,xk,xc,xd,xe,xf,xj,xi,xh,reduceIte,reduceCtorEq,xz,xy,xq]
    first | exact ⟨_,rfl⟩ | exact ⟨rfl,_,rfl⟩ | exact ⟨trivial,_,rfl⟩ | exact ⟨[],(List.append_nil _).symm⟩
  simp only [p_ports,w1,w2,w3,w4,kB,kZ,kD,kE,xm,xg,xk,xc,xd,xe,xf,xj,xi,xh,reduceIte,reduceCtorEq,xz,xy,xq]
  cases q_ports : decide (32 < m.ports)
  case true =>
    have b_ports : inB m.ports 4 32 = false:=by have:=of_decide_eq_true q_ports; simp [inB]; omega
    have e : chkM m = 2:=by unfold chkM okM; simp only [b_ports,Bool.false_and,Bool.and_false,Bool.false_eq_true,if_false]
    simp only [q_ports,e,w1,w2,w3,w4,kB,kZ,kD,kE,xm,xg,xk,xc,xd,xe,xf,xj,xi,xh,reduceIte,reduceCtorEq,xz,xy,xq]
    first | exact ⟨_,rfl⟩ | exact ⟨rfl,_,rfl⟩ | exact ⟨trivial,_,rfl⟩ | exact ⟨[],(List.append_nil _).symm⟩
  simp only [q_ports,w1,w2,w3,w4,kB,kZ,kD,kE,xm,xg,xk,xc,xd,xe,xf,xj,xi,xh,reduceIte,reduceCtorEq,xz,xy,xq]
  have b_ports : inB m.ports 4 32 = true:=by have a:=of_decide_eq_false p_ports; have b:=of_decide_eq_false q_ports; simp [inB]; omega
  have e : chkM m = 0:=by unfold chkM okM; simp only [b_u0,b_l0,b_u1,b_l1,b_u2,b_l2,b_u3,b_l3,b_regs,b_banks,b_ports,Bool.and_self,if_true]
  simp only [e,kB,kZ,kD,kE,xm,xg,xk,xc,xd,xe,xf,xj,xi,xh,reduceIte,reduceCtorEq,xz,xy,xq]
  first | exact ⟨_,rfl⟩ | exact ⟨rfl,_,rfl⟩ | exact ⟨trivial,_,rfl⟩ | exact ⟨[],(List.append_nil _).symm⟩
end
end Go.VX.Seat
end
section
set_option maxRecDepth 4000
namespace Go.VX.Seat
open Go.Proofs Go.Lib
def catU (ns : List Int) : List UInt8:=(ns.map fun n=>32 :: itoa n).flatten
theorem catU_len : ∀ {ns : List Int},(∀ x ∈ ns,-9223372036854775808≤x∧x≤9223372036854775807)→(catU ns).length≤22 * ns.length
  | [],_=>Nat.le_refl _
  | a :: r,h=>by
    have h1:=itoa_len (h a (List.mem_cons_self ..))
    have h2:=catU_len (ns:=r) fun x hx=>h x (List.mem_cons_of_mem _ hx)
    simp only [catU,List.map_cons,List.flatten_cons,List.length_append,List.length_cons] at h2 ⊢
    omega
theorem catU_take {ns : List Int} {i : Nat} (hi : i < ns.length) : catU (ns.take (i + 1)) = catU (ns.take i)++32 :: itoa ns[i]:=by
  unfold catU
  rw [List.take_succ_eq_append_getElem hi,List.map_append,List.flatten_append]
  simp
theorem txt_cat (m : MachV) : txtM m = ((((((((tU++catU m.us)++32 :: tL)++catU m.ls)++[32,114,101,103,115,32])++itoa m.regs)++[32,98,97,110,107,115,32])++itoa m.banks)++[32,112,111,114,116,115,32])++itoa m.ports:=by
  unfold txtM pcsM
  rw [join_cons]
  simp [joinTail,catU,MachV.us,MachV.ls,tR,tB,tP]
section
variable {X : Cx} {st : St}
set_option maxHeartbeats 2000000 in
theorem j_r19_Text (h : OnH X) (hg : GB st) (m : MachV) (hm : i64M m) : J X.P X.F X.H (.call 18 [.agg m.row] st (.ret (sA (txtM m))) st):=by
  refine pure_intro (by rw [h.F]; rfl) rfl ?_
  obtain ⟨hu,hl,h1,h2,h3⟩:=i64M_parts hm
  simp only [v_r19_Text,MachV.row,kB,kZ,kD,kE,xm,xg,xk,xc,xd,xe,xf,xj,xi,xh,reduceIte,reduceCtorEq,xz,xy,xq]
  have hb : (st++[⟨[iA m.u0,iA m.u1,iA m.u2,iA m.u3,iA m.l0,iA m.l1,iA m.l2,iA m.l3,iA m.regs,iA m.banks,iA m.ports],0,0⟩])[st.length + 0]? = some ⟨m.row,0,0⟩:=by simp [MachV.row]
  have hg1:=hg.app [⟨[iA m.u0,iA m.u1,iA m.u2,iA m.u3,iA m.l0,iA m.l1,iA m.l2,iA m.l3,iA m.regs,iA m.banks,iA m.ports],0,0⟩]
  have hpre : ∃ k,st++[⟨[iA m.u0,iA m.u1,iA m.u2,iA m.u3,iA m.l0,iA m.l1,iA m.l2,iA m.l3,iA m.regs,iA m.banks,iA m.ports],0,0⟩] = st++k:=⟨_,rfl⟩
  generalize (st++[⟨[iA m.u0,iA m.u1,iA m.u2,iA m.u3,iA m.l0,iA m.l1,iA m.l2,iA m.l3,iA m.regs,iA m.banks,iA m.ports],0,0⟩] : St) = S at *
  generalize st.length + 0 = cb at *
  have xat : ∀ k,St.at1 S cb k = m.row[k]?:=fun k=>at1_box hb (by decide) k
  have xu : ∀ {i : Nat} (hi : i < m.us.length),m.row[i]? = some (iA m.us[i]):=fun {i} hi=>by
    match i,hi with
    | 0,_=>rfl
    | 1,_=>rfl
    | 2,_=>rfl
    | 3,_=>rfl
  have xl : ∀ {i : Nat} (hi : i < m.ls.length),m.row[4 + i]? = some (iA m.ls[i]):=fun {i} hi=>by
    match i,hi with
    | 0,_=>rfl
    | 1,_=>rfl
    | 2,_=>rfl
    | 3,_=>rfl
  refine anyLoop (mB m0) (fun e s=>s = S∧e 1 = .ptr cb 0∧e 3 = sA (tU++catU m.us)) ?_ ?_
  · refine loop_inv (fun k e s=>∃ (i : Nat),i + k = 4∧s = S∧e 1 = .ptr cb 0∧e 3 = sA (tU++catU (m.us.take i))∧e 4 = iA i) ?_ 4 ?_
    case refine_2=>exact ⟨0,by omega,rfl,rfl,rfl,rfl⟩
    rintro k e s ⟨i,hik,rfl,k1,k3,k4⟩
    have hul : m.us.length = 4:=rfl
    cases hc : decide ((i : Int) < 4)
    · have hi : i = 4:=by have:=of_decide_eq_false hc; omega
      subst hi
      simp only [k1,k3,k4,hc,kB,kZ,kD,kE,xm,xg,xk,xc,xd,xe,xf,xj,xi,xh,reduceIte,reduceCtorEq,xz,xy,xq]
      rfl
    have hi : i < 4:=by have:=of_decide_eq_true hc; omega
    have hwi : IntKind.wrap .i64 ((i : Int) + 1) = ((i + 1 : Nat) : Int):=by rw [wrap_small (by omega) (by omega)]; omega
    have hxi:=xu (i:=i) (by omega)
    have hbn:=hu _ (List.getElem_mem (show i < m.us.length by omega))
    have htk:=catU_take (ns:=m.us) (i:=i) (by omega)
    have hcl:=catU_len (ns:=m.us.take i) fun x hx=>hu x (List.mem_of_mem_take hx)
    generalize m.us[i]'(by omega) = n at *
    have hil:=itoa_len hbn
    have htl : tU.length = 5:=rfl
    have hll : (m.us.take i).length≤4:=by simp; omega
    have a1:=fun ox oy=>k_add X.P ox oy [32] (itoa n) (by simp; omega)
    have a2:=fun ox oy=>k_add X.P ox oy (tU++catU (m.us.take i)) (32 :: itoa n) (by simp; omega)
    have h04 : (0 : Int)≤(i : Int):=by omega
    have h4 : (i : Int) < 4:=by omega
    simp only [k1,k3,k4,hc,h04,h4,xat,hxi,kB,kZ,kD,kE,xm,xg,xk,xc,xd,xe,xf,xj,xi,xh,reduceIte,reduceCtorEq,xz,xy,xq]
    refine callO_same (j_Itoa h hg1 n hbn.1 hbn.2) ?_
    simp only [k1,k3,k4,a1,a2,hwi,kB,kZ,kD,kE,xm,xg,xk,xc,xd,xe,xf,xj,xi,xh,reduceIte,reduceCtorEq,xz,xy,xq]
    exact ⟨k - 1,by omega,i + 1,by omega,by rw [htk,List.append_assoc],rfl⟩
  rintro e s ⟨rfl,k1,k3⟩
  have hcu:=catU_len hu
  have hul : m.us.length = 4:=rfl
  have htl : tU.length = 5:=rfl
  have b1:=fun ox oy=>k_add X.P ox oy (tU++catU m.us) (32 :: tL) (by simp [tL]; omega)
  obtain ⟨T1,hT1⟩ : ∃ T1,(tU++catU m.us)++32 :: tL = T1:=⟨_,rfl⟩
  have hT1l : T1.length≤110:=by rw [←hT1]; simp [tL]; omega
  rw [hT1] at b1
  have e32 : (32 :: tL : List UInt8) = [32,108,97,116,101,110,99,121]:=rfl
  rw [e32] at b1
  simp only [k1,k3,b1,kB,kZ,kD,kE,xm,xg,xk,xc,xd,xe,xf,xj,xi,xh,reduceIte,reduceCtorEq,xz,xy,xq]
  refine anyLoop (mB m0) (fun e s'=>s' = s∧e 1 = .ptr cb 0∧e 3 = sA (T1++catU m.ls)) ?_ ?_
  · refine loop_inv (fun k e s'=>∃ (i : Nat),i + k = 4∧s' = s∧e 1 = .ptr cb 0∧e 3 = sA (T1++catU (m.ls.take i))∧e 5 = iA i) ?_ 4 ?_
    case refine_2=>exact ⟨0,by omega,rfl,by simp only [k1,kB,kZ,kD,kE,xm,xg,xk,xc,xd,xe,xf,xj,xi,xh,reduceIte,reduceCtorEq,xz,xy,xq],by simp [catU,Env.put],rfl⟩
    clear k1 k3 b1
    rintro k e s ⟨i,hik,rfl,k1,k3,k4⟩
    have hll : m.ls.length = 4:=rfl
    cases hc : decide ((i : Int) < 4)
    · have hi : i = 4:=by have:=of_decide_eq_false hc; omega
      subst hi
      simp only [k1,k3,k4,hc,kB,kZ,kD,kE,xm,xg,xk,xc,xd,xe,xf,xj,xi,xh,reduceIte,reduceCtorEq,xz,xy,xq]
      rfl
    have hi : i < 4:=by have:=of_decide_eq_true hc; omega
    have hwi : IntKind.wrap .i64 ((i : Int) + 1) = ((i + 1 : Nat) : Int):=by rw [wrap_small (by omega) (by omega)]; omega
    have hxi:=xl (i:=i) (by omega)
    have hbn:=hl _ (List.getElem_mem (show i < m.ls.length by omega))
    have htk:=catU_take (ns:=m.ls) (i:=i) (by omega)
    have hcl:=catU_len (ns:=m.ls.take i) fun x hx=>hl x (List.mem_of_mem_take hx)
    generalize m.ls[i]'(by omega) = n at *
    have hil:=itoa_len hbn
    have hll : (m.ls.take i).length≤4:=by simp; omega
    have a1:=fun ox oy=>k_add X.P ox oy [32] (itoa n) (by simp; omega)
    have a2:=fun ox oy=>k_add X.P ox oy (T1++catU (m.ls.take i)) (32 :: itoa n) (by simp; omega)
    have h04 : (0 : Int)≤(i : Int):=by omega
    have h4 : (i : Int) < 4:=by omega
    simp only [k1,k3,k4,hc,h04,h4,xat,hxi,kB,kZ,kD,kE,xm,xg,xk,xc,xd,xe,xf,xj,xi,xh,reduceIte,reduceCtorEq,xz,xy,xq]
    refine callO_same (j_Itoa h hg1 n hbn.1 hbn.2) ?_
    simp only [k1,k3,k4,a1,a2,hwi,kB,kZ,kD,kE,xm,xg,xk,xc,xd,xe,xf,xj,xi,xh,reduceIte,reduceCtorEq,xz,xy,xq]
    exact ⟨k - 1,by omega,i + 1,by omega,by rw [htk,List.append_assoc],rfl⟩
  clear k1 k3 b1
  rintro e s' ⟨rfl,k1,k3⟩
  have hcl:=catU_len hl
  have hll : m.ls.length = 4:=rfl
  have i1:=itoa_len h1
  have i2:=itoa_len h2
  have i3:=itoa_len h3
  have x8 : m.row[8]? = some (iA m.regs):=rfl
  have x9 : m.row[9]? = some (iA m.banks):=rfl
  have x10 : m.row[10]? = some (iA m.ports):=rfl
  have c1:=fun ox oy=>k_add X.P ox oy (T1++catU m.ls) [32,114,101,103,115,32] (by simp; omega)
  obtain ⟨T2,hT2⟩ : ∃ T2,T1++catU m.ls++[32,114,101,103,115,32] = T2:=⟨_,rfl⟩
  have hT2l : T2.length≤300:=by rw [←hT2]; simp; omega
  rw [hT2] at c1
  have c2:=fun ox oy=>k_add X.P ox oy T2 (itoa m.regs) (by omega)
  obtain ⟨T3,hT3⟩ : ∃ T3,T2++itoa m.regs = T3:=⟨_,rfl⟩
  have hT3l : T3.length≤400:=by rw [←hT3]; simp; omega
  rw [hT3] at c2
  have c3:=fun ox oy=>k_add X.P ox oy T3 [32,98,97,110,107,115,32] (by simp; omega)
  obtain ⟨T4,hT4⟩ : ∃ T4,T3++[32,98,97,110,107,115,32] = T4:=⟨_,rfl⟩
  have hT4l : T4.length≤500:=by rw [←hT4]; simp; omega
  rw [hT4] at c3
  have c4:=fun ox oy=>k_add X.P ox oy T4 (itoa m.banks) (by omega)
  obtain ⟨T5,hT5⟩ : ∃ T5,T4++itoa m.banks = T5:=⟨_,rfl⟩
  have hT5l : T5.length≤600:=by rw [←hT5]; simp; omega
  rw [hT5] at c4
  have c5:=fun ox oy=>k_add X.P ox oy T5 [32,112,111,114,116,115,32] (by simp; omega)
  obtain ⟨T6,hT6⟩ : ∃ T6,T5++[32,112,111,114,116,115,32] = T6:=⟨_,rfl⟩
  have hT6l : T6.length≤700:=by rw [←hT6]; simp; omega
  rw [hT6] at c5
  have c6:=fun ox oy=>k_add X.P ox oy T6 (itoa m.ports) (by omega)
  have hfin : T6++itoa m.ports = txtM m:=by rw [txt_cat,hT1,hT2,hT3,hT4,hT5,hT6]
  rw [hfin] at c6
  simp only [k1,k3,xat,x8,x9,x10,c1,kB,kZ,kD,kE,xm,xg,xk,xc,xd,xe,xf,xj,xi,xh,reduceIte,reduceCtorEq,xz,xy,xq]
  refine callO_same (j_Itoa h hg1 _ h1.1 h1.2) ?_
  simp only [k1,k3,c2,c3,kB,kZ,kD,kE,xm,xg,xk,xc,xd,xe,xf,xj,xi,xh,reduceIte,reduceCtorEq,xz,xy,xq]
  refine callO_same (j_Itoa h hg1 _ h2.1 h2.2) ?_
  simp only [k1,k3,c4,c5,kB,kZ,kD,kE,xm,xg,xk,xc,xd,xe,xf,xj,xi,xh,reduceIte,reduceCtorEq,xz,xy,xq]
  refine callO_same (j_Itoa h hg1 _ h3.1 h3.2) ?_
  simp only [k1,k3,c6,kB,kZ,kD,kE,xm,xg,xk,xc,xd,xe,xf,xj,xi,xh,reduceIte,reduceCtorEq,xz,xy,xq]
  exact hpre
theorem i64_of_ok {m : MachV} (h : okM m = true) : i64M m:=fun x hx=>by
  have:=okM_rng h x hx
  omega
theorem j_machine_Text (h : OnH X) (hg : GB st) (m : MachV) : J X.P X.F X.H (.call 17 [.agg m.row] st (.ret (.tup [sA (if okM m then txtM m else []),iA (chkM m)])) st):=by
  refine pure_intro (by rw [h.F]; rfl) rfl ?_
  have j1:=fun L=>j_machine_Check (st:=st++L) h.toOn m
  have j2:=fun L=>fun hm=>j_write (st:=st++L) h (hg.app L) m hm
  simp only [MachV.row] at j1 j2
  simp only [v_machine_Text,MachV.row,kB,kZ,kD,kE,xm,xg,xk,xc,xd,xe,xf,xj,xi,xh,reduceIte,reduceCtorEq,xz,xy,xq]
  refine callO_same (j1 _) ?_
  cases hok : okM m
  · have e : chkM m = 2:=by unfold chkM; rw [hok]; rfl
    simp only [e,Int.reduceEq,Int.reduceNe,kB,kZ,kD,kE,xm,xg,xk,xc,xd,xe,xf,xj,xi,xh,reduceIte,reduceCtorEq,xz,xy,xq]
    first | exact ⟨_,rfl⟩ | exact ⟨rfl,_,rfl⟩ | exact ⟨trivial,_,rfl⟩ | exact ⟨[],(List.append_nil _).symm⟩
  · have e : chkM m = 0:=by unfold chkM; rw [hok]; rfl
    simp only [e,Int.reduceEq,Int.reduceNe,kB,kZ,kD,kE,xm,xg,xk,xc,xd,xe,xf,xj,xi,xh,reduceIte,reduceCtorEq,xz,xy,xq]
    refine callO_same (j2 _ (i64_of_ok hok)) ?_
    simp only [kB,kZ,kD,kE,xm,xg,xk,xc,xd,xe,xf,xj,xi,xh,reduceIte,reduceCtorEq,xz,xy,xq]
    first | exact ⟨_,rfl⟩ | exact ⟨rfl,_,rfl⟩ | exact ⟨trivial,_,rfl⟩ | exact ⟨[],(List.append_nil _).symm⟩
end
end Go.VX.Seat
end
section
set_option maxRecDepth 4000
namespace Go.VX.Seat
open Go.Proofs Go.Lib
section
variable {X : Cx} {st : St}
theorem j_Parse_c1 (h : OnH X) (hg : GB st) {lo hi : Nat} {v : AV} {L : List (List UInt8)} (hv : StrsAt st lo hi v L) {b : Nat} (hb : St.at1 st b 0 = some v) {i : Nat} (hi : i < L.length) (hl : (L.getD i []).length≤100000) :
    J X.P X.F X.H (.call 37 [iA i,.ptr b 0] st (.ret (iA (atoiL (L.getD i [])))) st):=by
  refine pure_intro (by rw [h.F]; rfl) rfl ?_
  obtain ⟨b1,o1,q1,_,p1',_⟩:=hv.get i (by simpa using hi)
  have p1:=p1' [] 0 (by omega)
  simp only [List.getElem_map,Nat.add_zero,List.append_nil,List.getElem?_cons_zero] at p1
  have e : L[i] = L.getD i []:=by rw [List.getD_eq_getElem?_getD,List.getElem?_eq_getElem hi]; rfl
  rw [e] at p1
  rw [←List.append_nil st] at hb p1
  simp only [v_machine_Parse_c1,hb,q1,p1,kB,kZ,kD,kE,xm,xg,xk,xc,xd,xe,xf,xj,xi,xh,reduceIte,reduceCtorEq,xz,xy,xq]
  refine callO_same (j_Atoi h (hg.app []) _ hl) ?_
  simp only [kB,kZ,kD,kE,xm,xg,xk,xc,xd,xe,xf,xj,xi,xh,reduceIte,reduceCtorEq,xz,xy,xq]
  first | exact ⟨_,rfl⟩ | exact ⟨rfl,_,rfl⟩ | exact ⟨trivial,_,rfl⟩ | exact ⟨[],(List.append_nil _).symm⟩
theorem spl_mem : ∀ {l : List UInt8} {p : List UInt8},p ∈ spl l→p.length≤l.length
  | [],p,h=>by
    simp only [spl,List.mem_singleton] at h
    subst h
    simp
  | c :: r,p,h=>by
    unfold spl at h
    split at h
    · rcases List.mem_cons.1 h with rfl | h
      · simp
      · have:=spl_mem h
        simp only [List.length_cons]
        omega
    · split at h
      · rename_i x t hs
        rcases List.mem_cons.1 h with rfl | h
        · have:=spl_mem (l:=r) (p:=x) (by rw [hs]; exact List.mem_cons_self ..)
          simp only [List.length_cons]
          omega
        · have:=spl_mem (l:=r) (p:=p) (by rw [hs]; exact List.mem_cons_of_mem _ h)
          simp only [List.length_cons]
          omega
      · have:=List.mem_singleton.1 h
        subst this
        simp
theorem getD_len (l : List UInt8) (i : Nat) : ((spl l).getD i []).length≤l.length:=by
  rw [List.getD_eq_getElem?_getD]
  cases h : (spl l)[i]? with
  | none=>simp
  | some p=>exact spl_mem (List.mem_of_getElem? h)
set_option maxHeartbeats 4000000 in
theorem w_machine_Parse (h : OnH X) (hg : GB st) (l : List UInt8) (hl : l.length≤100000) : wpF X 19 [sA l] st fun r S=>r = .ret (.tup [.agg (parseM atoiL l).1.row,iA (parseM atoiL l).2])∧∃ m,S = st++m:=by
  refine wpF_go (fn:=v_machine_Parse) (by rw [h.F]; rfl) ?_
  have hlen:=k_len h.toOn l
  unfold parseM
  cases h400 : decide (400 < (l.length : Int))
  case true =>
    rw [if_pos (of_decide_eq_true h400)]
    simp only [v_machine_Parse,hlen,h400,MachV.row,zeroM,kB,kZ,kD,kE,xm,xg,xk,xc,xd,xe,xf,xj,xi,xh,reduceIte,reduceCtorEq,xz,xy,xq]
    exact ⟨_,rfl⟩
  rw [if_neg (of_decide_eq_false h400)]
  simp only [v_machine_Parse,hlen,h400,kB,kZ,kD,kE,xm,xg,xk,xc,xd,xe,xf,xj,xi,xh,reduceIte,reduceCtorEq,xz,xy,xq]
  refine wpF.mono (w_Split h l hl) ?_
  rintro r S1 ⟨v,m1,lo,hi,rfl,rfl,hv⟩
  refine ⟨keptA_nil _ _ _,?_⟩
  have lv:=hv.len
  simp only [List.length_map] at lv
  have vc:=isCell_len hv.len
  have vl:=cellsOf_len hv.len
  have hb2 : (st++[⟨[iA 0,iA 0,iA 0,iA 0,iA 0,iA 0,iA 0,iA 0,iA 0,iA 0,iA 0],0,0⟩]++m1 : St)[st.length + 0]? = some ⟨zeroM.row,0,0⟩:=by
    rw [List.append_assoc,List.getElem?_append_right (by omega)]
    simp [zeroM,MachV.row]
  have hpre : ∃ k,(st++[⟨[iA 0,iA 0,iA 0,iA 0,iA 0,iA 0,iA 0,iA 0,iA 0,iA 0,iA 0],0,0⟩]++m1 : St) = st++k:=⟨_,List.append_assoc ..⟩
  have hg1 : GB (st++[⟨[iA 0,iA 0,iA 0,iA 0,iA 0,iA 0,iA 0,iA 0,iA 0,iA 0,iA 0],0,0⟩]++m1 : St):=(hg.app _).app _
  generalize (st++[⟨[iA 0,iA 0,iA 0,iA 0,iA 0,iA 0,iA 0,iA 0,iA 0,iA 0,iA 0],0,0⟩]++m1 : St) = S1 at *
  rw [←List.append_nil S1]
  simp only [vc,vl,lv,kB,kZ,kD,kE,xm,xg,xk,xc,xd,xe,xf,xj,xi,xh,reduceIte,reduceCtorEq,xz,xy,xq]
  have hcb : st.length≤st.length + 0:=Nat.le_refl _
  generalize st.length + 0 = cb at *
  have hput : ∀ (L : St) (m : MachV),St.put (S1++L) cb 0 m.row = some ((S1++L).set cb ⟨m.row,0,1⟩)∧St.atN ((S1++L).set cb ⟨m.row,0,1⟩) cb 0 11 = some m.row∧∃ k,(S1++L).set cb ⟨m.row,0,1⟩ = st++k:=fun L m=>by
    have hlt:=(List.getElem?_eq_some_iff.1 hb2).1
    have hbL : (S1++L)[cb]? = some ⟨zeroM.row,0,0⟩:=by rw [List.getElem?_append_left hlt]; exact hb2
    have hp:=put_box (o:=0) (vs:=m.row) hbL (by simp [MachV.row]) rfl
    have hs : splice zeroM.row 0 m.row = m.row:=rfl
    rw [hs] at hp
    refine ⟨hp,?_,(Agree.set (S1++L) cb ⟨m.row,0,1⟩).ext (let ⟨k,e⟩:=hpre; ⟨k++L,by rw [e,List.append_assoc]⟩) fun b hb e=>by omega⟩
    rw [atN_box (List.getElem?_set_self (by simp; omega)) (by decide) 0 11 (by simp [MachV.row])]
    rfl
  cases h16 : decide (((spl l).length : Int)≠16)
  case true =>
    rw [if_pos (of_decide_eq_true h16)]
    obtain ⟨p1,p2,p3⟩:=hput [⟨[v],0,1⟩] zeroM
    generalize (S1++[⟨[v],0,1⟩] : St).set cb ⟨zeroM.row,0,1⟩ = S2 at *
    simp only [MachV.row,zeroM] at p1 p2
    simp only [h16,p1,p2,MachV.row,zeroM,kB,kZ,kD,kE,xm,xg,xk,xc,xd,xe,xf,xj,xi,xh,reduceIte,reduceCtorEq,xz,xy,xq]
    exact p3
  have h16' : (spl l).length = 16:=by
    have:=of_decide_eq_false h16
    omega
  rw [if_neg (of_decide_eq_false h16)]
  simp only [h16,kB,kZ,kD,kE,xm,xg,xk,xc,xd,xe,xf,xj,xi,xh,reduceIte,reduceCtorEq,xz,xy,xq]
  have w1 : IntKind.wrap .i64 (0 + 1) = 1:=rfl
  have w2 : IntKind.wrap .i64 (1 + 1) = 2:=rfl
  have w3 : IntKind.wrap .i64 (2 + 1) = 3:=rfl
  have w4 : IntKind.wrap .i64 (3 + 1) = 4:=rfl
  have v1 : IntKind.wrap .i64 1 = 1:=rfl
  have v2 : IntKind.wrap .i64 2 = 2:=rfl
  have v3 : IntKind.wrap .i64 3 = 3:=rfl
  have v4 : IntKind.wrap .i64 4 = 4:=rfl
  have v5 : IntKind.wrap .i64 5 = 5:=rfl
  have v6 : IntKind.wrap .i64 6 = 6:=rfl
  have v7 : IntKind.wrap .i64 7 = 7:=rfl
  have v8 : IntKind.wrap .i64 8 = 8:=rfl
  have v9 : IntKind.wrap .i64 9 = 9:=rfl
  have q2 : IntKind.wrap .i64 (1 + 2) = 3:=rfl
  have q3 : IntKind.wrap .i64 (1 + 3) = 4:=rfl
  have r0 : IntKind.wrap .i64 (6 + 0) = 6:=rfl
  have r1 : IntKind.wrap .i64 (6 + 1) = 7:=rfl
  have r2 : IntKind.wrap .i64 (6 + 2) = 8:=rfl
  have r3 : IntKind.wrap .i64 (6 + 3) = 9:=rfl
  obtain ⟨f,hf⟩ : ∃ f : Nat→Int,f = fun i=>atoiL ((spl l).getD i []):=⟨_,rfl⟩
  have hM : machP atoiL (spl l) = ⟨f 1,f 2,f 3,f 4,f 6,f 7,f 8,f 9,f 11,f 13,f 15⟩:=by rw [hf]; rfl
  have hfb : ∀ i,-9223372036854775808≤f i∧f i≤9223372036854775807:=fun i=>by rw [hf]; exact atoi_bnd _
  have hi64 : i64M (machP atoiL (spl l)):=fun x hx=>by
    rw [hM] at hx
    simp only [MachV.us,MachV.ls,List.cons_append,List.nil_append,List.mem_cons,List.not_mem_nil,or_false] at hx
    rcases hx with rfl | rfl | rfl | rfl | rfl | rfl | rfl | rfl | rfl | rfl | rfl
    all_goals exact hfb _
  have hcl : ∀ (L : St) (i : Nat) (n : Int),n = i→i < 16→J X.P X.F X.H (.call 37 [iA n,.ptr (S1.length + 0) 0] (S1++(⟨[v],0,1⟩ :: L)) (.ret (iA (f i))) (S1++(⟨[v],0,1⟩ :: L))):=fun L i n e hi=>by
    subst e
    rw [hf]
    exact j_Parse_c1 h (hg1.app _) (hv.mono _) (by simp [St.at1]) (by omega) (Nat.le_trans (getD_len l i) hl)
  rw [hM] at hi64 ⊢
  clear hf hM
  refine loop_unroll ?_
  simp only [w1,w2,w3,w4,kB,kZ,kD,kE,xm,xg,xk,xc,xd,xe,xf,xj,xi,xh,reduceIte,reduceCtorEq,xz,xy,xq]
  refine callO_same (hcl _ 1 1 rfl (by decide)) ?_
  simp only [w1,w2,w3,w4,kB,kZ,kD,kE,xm,xg,xk,xc,xd,xe,xf,xj,xi,xh,reduceIte,reduceCtorEq,xz,xy,xq]
  refine callO_same (hcl _ 6 6 rfl (by decide)) ?_
  simp only [w1,w2,w3,w4,kB,kZ,kD,kE,xm,xg,xk,xc,xd,xe,xf,xj,xi,xh,reduceIte,reduceCtorEq,xz,xy,xq]
  refine loop_unroll ?_
  simp only [w1,w2,w3,w4,v1,v2,v3,v4,v5,v6,v7,v8,v9,q2,q3,r0,r1,r2,r3,kB,kZ,kD,kE,xm,xg,xk,xc,xd,xe,xf,xj,xi,xh,reduceIte,reduceCtorEq,xz,xy,xq]
  refine callO_same (hcl _ 2 2 rfl (by decide)) ?_
  simp only [w1,w2,w3,w4,v1,v2,v3,v4,v5,v6,v7,v8,v9,q2,q3,r0,r1,r2,r3,kB,kZ,kD,kE,xm,xg,xk,xc,xd,xe,xf,xj,xi,xh,reduceIte,reduceCtorEq,xz,xy,xq]
  refine callO_same (hcl _ 7 7 rfl (by decide)) ?_
  simp only [w1,w2,w3,w4,v1,v2,v3,v4,v5,v6,v7,v8,v9,q2,q3,r0,r1,r2,r3,kB,kZ,kD,kE,xm,xg,xk,xc,xd,xe,xf,xj,xi,xh,reduceIte,reduceCtorEq,xz,xy,xq]
  refine loop_unroll ?_
  simp only [w1,w2,w3,w4,v1,v2,v3,v4,v5,v6,v7,v8,v9,q2,q3,r0,r1,r2,r3,kB,kZ,kD,kE,xm,xg,xk,xc,xd,xe,xf,xj,xi,xh,reduceIte,reduceCtorEq,xz,xy,xq]
  refine callO_same (hcl _ 3 3 rfl (by decide)) ?_
  simp only [w1,w2,w3,w4,v1,v2,v3,v4,v5,v6,v7,v8,v9,q2,q3,r0,r1,r2,r3,kB,kZ,kD,kE,xm,xg,xk,xc,xd,xe,xf,xj,xi,xh,reduceIte,reduceCtorEq,xz,xy,xq]
  refine callO_same (hcl _ 8 8 rfl (by decide)) ?_
  simp only [w1,w2,w3,w4,v1,v2,v3,v4,v5,v6,v7,v8,v9,q2,q3,r0,r1,r2,r3,kB,kZ,kD,kE,xm,xg,xk,xc,xd,xe,xf,xj,xi,xh,reduceIte,reduceCtorEq,xz,xy,xq]
  refine loop_unroll ?_
  simp only [w1,w2,w3,w4,v1,v2,v3,v4,v5,v6,v7,v8,v9,q2,q3,r0,r1,r2,r3,kB,kZ,kD,kE,xm,xg,xk,xc,xd,xe,xf,xj,xi,xh,reduceIte,reduceCtorEq,xz,xy,xq]
  refine callO_same (hcl _ 4 4 rfl (by decide)) ?_
  simp only [w1,w2,w3,w4,v1,v2,v3,v4,v5,v6,v7,v8,v9,q2,q3,r0,r1,r2,r3,kB,kZ,kD,kE,xm,xg,xk,xc,xd,xe,xf,xj,xi,xh,reduceIte,reduceCtorEq,xz,xy,xq]
  refine callO_same (hcl _ 9 9 rfl (by decide)) ?_
  simp only [w1,w2,w3,w4,v1,v2,v3,v4,v5,v6,v7,v8,v9,q2,q3,r0,r1,r2,r3,kB,kZ,kD,kE,xm,xg,xk,xc,xd,xe,xf,xj,xi,xh,reduceIte,reduceCtorEq,xz,xy,xq]
  refine loop_unroll ?_
  simp only [w1,w2,w3,w4,v1,v2,v3,v4,v5,v6,v7,v8,v9,q2,q3,r0,r1,r2,r3,kB,kZ,kD,kE,xm,xg,xk,xc,xd,xe,xf,xj,xi,xh,reduceIte,reduceCtorEq,xz,xy,xq]
  refine callO_same (hcl _ 11 11 rfl (by decide)) ?_
  simp only [kB,kZ,kD,kE,xm,xg,xk,xc,xd,xe,xf,xj,xi,xh,reduceIte,reduceCtorEq,xz,xy,xq]
  refine callO_same (hcl _ 13 13 rfl (by decide)) ?_
  simp only [kB,kZ,kD,kE,xm,xg,xk,xc,xd,xe,xf,xj,xi,xh,reduceIte,reduceCtorEq,xz,xy,xq]
  refine callO_same (hcl _ 15 15 rfl (by decide)) ?_
  simp only [kB,kZ,kD,kE,xm,xg,xk,xc,xd,xe,xf,xj,xi,xh,reduceIte,reduceCtorEq,xz,xy,xq]
  have jw:=fun S hS=>j_write (st:=S) h hS ⟨f 1,f 2,f 3,f 4,f 6,f 7,f 8,f 9,f 11,f 13,f 15⟩ hi64
  have jc:=fun S=>j_machine_Check (st:=S) h.toOn ⟨f 1,f 2,f 3,f 4,f 6,f 7,f 8,f 9,f 11,f 13,f 15⟩
  have z1:=fun L=>(hput L zeroM).1
  have z2:=fun L=>(hput L zeroM).2.1
  have z3:=fun L=>(hput L zeroM).2.2
  have m1:=fun L=>(hput L ⟨f 1,f 2,f 3,f 4,f 6,f 7,f 8,f 9,f 11,f 13,f 15⟩).1
  have m2:=fun L=>(hput L ⟨f 1,f 2,f 3,f 4,f 6,f 7,f 8,f 9,f 11,f 13,f 15⟩).2.1
  have m3:=fun L=>(hput L ⟨f 1,f 2,f 3,f 4,f 6,f 7,f 8,f 9,f 11,f 13,f 15⟩).2.2
  have hne:=fun ox oy T=>k_ne X.P ox oy T l
  obtain ⟨T,hT⟩ : ∃ T,txtM ⟨f 1,f 2,f 3,f 4,f 6,f 7,f 8,f 9,f 11,f 13,f 15⟩ = T:=⟨_,rfl⟩
  obtain ⟨ok,hok⟩ : ∃ ok,okM ⟨f 1,f 2,f 3,f 4,f 6,f 7,f 8,f 9,f 11,f 13,f 15⟩ = ok:=⟨_,rfl⟩
  have hck : chkM ⟨f 1,f 2,f 3,f 4,f 6,f 7,f 8,f 9,f 11,f 13,f 15⟩ = if ok then 0 else 2:=by unfold chkM; rw [hok]
  rw [hT] at jw ⊢
  rw [hok]
  rw [hck] at jc
  simp only [MachV.row,zeroM] at jw jc z1 z2 z3 m1 m2 m3
  clear hcl hput hfb hi64
  refine callO_same (jw _ (hg1.app _)) ?_
  cases hTl : decide (T≠l)
  case true =>
    rw [if_pos (.inl (of_decide_eq_true hTl))]
    simp only [hne,hTl,z1,z2,MachV.row,zeroM,kB,kZ,kD,kE,xm,xg,xk,xc,xd,xe,xf,xj,xi,xh,reduceIte,reduceCtorEq,xz,xy,xq]
    exact z3 _
  have hTl' : ¬ T≠l:=of_decide_eq_false hTl
  cases ok
  · rw [if_pos (show T≠l∨false = false from .inr rfl)]
    simp only [Bool.false_eq_true,if_false] at jc
    simp only [hne,hTl,kB,kZ,kD,kE,xm,xg,xk,xc,xd,xe,xf,xj,xi,xh,reduceIte,reduceCtorEq,xz,xy,xq]
    refine callO_same (jc _) ?_
    simp only [z1,z2,MachV.row,zeroM,Int.reduceEq,Int.reduceNe,kB,kZ,kD,kE,xm,xg,xk,xc,xd,xe,xf,xj,xi,xh,reduceIte,reduceCtorEq,xz,xy,xq]
    exact z3 _
  · rw [if_neg (show ¬ (T≠l∨true = false) from fun e=>e.elim hTl' (fun e=>by cases e))]
    simp only [if_true] at jc
    simp only [hne,hTl,kB,kZ,kD,kE,xm,xg,xk,xc,xd,xe,xf,xj,xi,xh,reduceIte,reduceCtorEq,xz,xy,xq]
    refine callO_same (jc _) ?_
    simp only [m1,m2,MachV.row,Int.reduceEq,Int.reduceNe,kB,kZ,kD,kE,xm,xg,xk,xc,xd,xe,xf,xj,xi,xh,reduceIte,reduceCtorEq,xz,xy,xq]
    exact m3 _
end
end Go.VX.Seat
end
section
set_option maxRecDepth 4000
namespace Go.VX.Seat
open Go.Proofs Go.Lib
section
variable {X : Cx} {st : St}
set_option maxHeartbeats 4000000 in
theorem w_r19_Parse (h : OnH X) (hg : GB st) (l : List UInt8) (hl : l.length≤100000) : wpF X 20 [sA l] st fun r S=>r = .ret (.tup [.agg (parseM numR l).1.row,iA (parseM numR l).2])∧∃ m,S = st++m:=by
  refine wpF_go (fn:=v_r19_Parse) (by rw [h.F]; rfl) ?_
  have hlen:=k_len h.toOn l
  unfold parseM
  cases h400 : decide (400 < (l.length : Int))
  case true =>
    rw [if_pos (of_decide_eq_true h400)]
    simp only [v_r19_Parse,hlen,h400,MachV.row,zeroM,kB,kZ,kD,kE,xm,xg,xk,xc,xd,xe,xf,xj,xi,xh,reduceIte,reduceCtorEq,xz,xy,xq]
    exact ⟨_,rfl⟩
  rw [if_neg (of_decide_eq_false h400)]
  simp only [v_r19_Parse,hlen,h400,kB,kZ,kD,kE,xm,xg,xk,xc,xd,xe,xf,xj,xi,xh,reduceIte,reduceCtorEq,xz,xy,xq]
  refine wpF.mono (w_r19_words h l hl) ?_
  rintro r S1 ⟨v,m1,lo,hi,rfl,rfl,hv⟩
  refine ⟨keptA_nil _ _ _,?_⟩
  have lv:=hv.len
  simp only [List.length_map] at lv
  have vc:=isCell_len hv.len
  have vl:=cellsOf_len hv.len
  have hb2 : (st++[⟨[iA 0,iA 0,iA 0,iA 0,iA 0,iA 0,iA 0,iA 0,iA 0,iA 0,iA 0],0,0⟩]++m1 : St)[st.length + 0]? = some ⟨zeroM.row,0,0⟩:=by
    rw [List.append_assoc,List.getElem?_append_right (by omega)]
    simp [zeroM,MachV.row]
  have hpre : ∃ k,(st++[⟨[iA 0,iA 0,iA 0,iA 0,iA 0,iA 0,iA 0,iA 0,iA 0,iA 0,iA 0],0,0⟩]++m1 : St) = st++k:=⟨_,List.append_assoc ..⟩
  have hg1 : GB (st++[⟨[iA 0,iA 0,iA 0,iA 0,iA 0,iA 0,iA 0,iA 0,iA 0,iA 0,iA 0],0,0⟩]++m1 : St):=(hg.app _).app _
  generalize (st++[⟨[iA 0,iA 0,iA 0,iA 0,iA 0,iA 0,iA 0,iA 0,iA 0,iA 0,iA 0],0,0⟩]++m1 : St) = S1 at *
  rw [←List.append_nil S1]
  simp only [vc,vl,lv,kB,kZ,kD,kE,xm,xg,xk,xc,xd,xe,xf,xj,xi,xh,reduceIte,reduceCtorEq,xz,xy,xq]
  have hcb : st.length≤st.length + 0:=Nat.le_refl _
  generalize st.length + 0 = cb at *
  have hput : ∀ (L : St) (m : MachV),St.put (S1++L) cb 0 m.row = some ((S1++L).set cb ⟨m.row,0,1⟩)∧St.atN ((S1++L).set cb ⟨m.row,0,1⟩) cb 0 11 = some m.row∧∃ k,(S1++L).set cb ⟨m.row,0,1⟩ = st++k:=fun L m=>by
    have hlt:=(List.getElem?_eq_some_iff.1 hb2).1
    have hbL : (S1++L)[cb]? = some ⟨zeroM.row,0,0⟩:=by rw [List.getElem?_append_left hlt]; exact hb2
    have hp:=put_box (o:=0) (vs:=m.row) hbL (by simp [MachV.row]) rfl
    have hs : splice zeroM.row 0 m.row = m.row:=rfl
    rw [hs] at hp
    refine ⟨hp,?_,(Agree.set (S1++L) cb ⟨m.row,0,1⟩).ext (let ⟨k,e⟩:=hpre; ⟨k++L,by rw [e,List.append_assoc]⟩) fun b hb e=>by omega⟩
    rw [atN_box (List.getElem?_set_self (by simp; omega)) (by decide) 0 11 (by simp [MachV.row])]
    rfl
  cases h16 : decide (((spl l).length : Int)≠16)
  case true =>
    rw [if_pos (of_decide_eq_true h16)]
    obtain ⟨p1,p2,p3⟩:=hput [⟨zeroM.row,0,0⟩] zeroM
    generalize (S1++[⟨zeroM.row,0,0⟩] : St).set cb ⟨zeroM.row,0,1⟩ = S2 at *
    simp only [MachV.row,zeroM] at p1 p2
    simp only [h16,p1,p2,MachV.row,zeroM,kB,kZ,kD,kE,xm,xg,xk,xc,xd,xe,xf,xj,xi,xh,reduceIte,reduceCtorEq,xz,xy,xq]
    exact p3
  have h16' : (spl l).length = 16:=by
    have:=of_decide_eq_false h16
    omega
  rw [if_neg (of_decide_eq_false h16)]
  simp only [h16,kB,kZ,kD,kE,xm,xg,xk,xc,xd,xe,xf,xj,xi,xh,reduceIte,reduceCtorEq,xz,xy,xq]
  have w1 : IntKind.wrap .i64 (0 + 1) = 1:=rfl
  have w2 : IntKind.wrap .i64 (1 + 1) = 2:=rfl
  have w3 : IntKind.wrap .i64 (2 + 1) = 3:=rfl
  have w4 : IntKind.wrap .i64 (3 + 1) = 4:=rfl
  have v1 : IntKind.wrap .i64 1 = 1:=rfl
  have v2 : IntKind.wrap .i64 2 = 2:=rfl
  have v3 : IntKind.wrap .i64 3 = 3:=rfl
  have v4 : IntKind.wrap .i64 4 = 4:=rfl
  have v5 : IntKind.wrap .i64 5 = 5:=rfl
  have v6 : IntKind.wrap .i64 6 = 6:=rfl
  have v7 : IntKind.wrap .i64 7 = 7:=rfl
  have v8 : IntKind.wrap .i64 8 = 8:=rfl
  have v9 : IntKind.wrap .i64 9 = 9:=rfl
  have q2 : IntKind.wrap .i64 (1 + 2) = 3:=rfl
  have q3 : IntKind.wrap .i64 (1 + 3) = 4:=rfl
  have r0 : IntKind.wrap .i64 (6 + 0) = 6:=rfl
  have r1 : IntKind.wrap .i64 (6 + 1) = 7:=rfl
  have r2 : IntKind.wrap .i64 (6 + 2) = 8:=rfl
  have r3 : IntKind.wrap .i64 (6 + 3) = 9:=rfl
  obtain ⟨f,hf⟩ : ∃ f : Nat→Int,f = fun i=>numR ((spl l).getD i []):=⟨_,rfl⟩
  have hM : machP numR (spl l) = ⟨f 1,f 2,f 3,f 4,f 6,f 7,f 8,f 9,f 11,f 13,f 15⟩:=by rw [hf]; rfl
  have hfb : ∀ i,-9223372036854775808≤f i∧f i≤9223372036854775807:=fun i=>by
    have:=numR_bnd ((spl l).getD i [])
    rw [hf]
    show -9223372036854775808≤numR ((spl l).getD i [])∧numR ((spl l).getD i [])≤9223372036854775807
    omega
  have hi64 : i64M (machP numR (spl l)):=fun x hx=>by
    rw [hM] at hx
    simp only [MachV.us,MachV.ls,List.cons_append,List.nil_append,List.mem_cons,List.not_mem_nil,or_false] at hx
    rcases hx with rfl | rfl | rfl | rfl | rfl | rfl | rfl | rfl | rfl | rfl | rfl
    all_goals exact hfb _
  obtain ⟨P,hP⟩ : ∃ P : Nat→Nat × Nat,∀ i : Nat,i < 16→elemA v 1 (i : Int) = some (.ptr (P i).1 (P i).2)∧∀ L,St.at1 (S1++L) (P i).1 (P i).2 = some (sA ((spl l).getD i [])):=by
    have : ∀ i : Nat,∃ p : Nat × Nat,i < 16→elemA v 1 (i : Int) = some (.ptr p.1 p.2)∧∀ L,St.at1 (S1++L) p.1 p.2 = some (sA ((spl l).getD i [])):=fun i=>by
      by_cases hi : i < 16
      · obtain ⟨b1,o1,q1,_,p1',_⟩:=hv.get i (by simpa using (by omega : i < (spl l).length))
        refine ⟨(b1,o1),fun _=>⟨q1,fun L=>?_⟩⟩
        have p1:=p1' L 0 (by omega)
        simp only [List.getElem_map,Nat.add_zero,List.getElem?_cons_zero] at p1
        rw [p1,List.getD_eq_getElem?_getD,List.getElem?_eq_getElem (by omega)]
        rfl
      · exact ⟨(0,0),fun e=>absurd e hi⟩
    exact ⟨fun i=>Classical.choose (this i),fun i=>Classical.choose_spec (this i)⟩
  have e1 : elemA v 1 1 = some (.ptr (P 1).1 (P 1).2):=(hP 1 (by decide)).1
  have a1:=(hP 1 (by decide)).2
  have e2 : elemA v 1 2 = some (.ptr (P 2).1 (P 2).2):=(hP 2 (by decide)).1
  have a2:=(hP 2 (by decide)).2
  have e3 : elemA v 1 3 = some (.ptr (P 3).1 (P 3).2):=(hP 3 (by decide)).1
  have a3:=(hP 3 (by decide)).2
  have e4 : elemA v 1 4 = some (.ptr (P 4).1 (P 4).2):=(hP 4 (by decide)).1
  have a4:=(hP 4 (by decide)).2
  have e6 : elemA v 1 6 = some (.ptr (P 6).1 (P 6).2):=(hP 6 (by decide)).1
  have a6:=(hP 6 (by decide)).2
  have e7 : elemA v 1 7 = some (.ptr (P 7).1 (P 7).2):=(hP 7 (by decide)).1
  have a7:=(hP 7 (by decide)).2
  have e8 : elemA v 1 8 = some (.ptr (P 8).1 (P 8).2):=(hP 8 (by decide)).1
  have a8:=(hP 8 (by decide)).2
  have e9 : elemA v 1 9 = some (.ptr (P 9).1 (P 9).2):=(hP 9 (by decide)).1
  have a9:=(hP 9 (by decide)).2
  have e11 : elemA v 1 11 = some (.ptr (P 11).1 (P 11).2):=(hP 11 (by decide)).1
  have a11:=(hP 11 (by decide)).2
  have e13 : elemA v 1 13 = some (.ptr (P 13).1 (P 13).2):=(hP 13 (by decide)).1
  have a13:=(hP 13 (by decide)).2
  have e15 : elemA v 1 15 = some (.ptr (P 15).1 (P 15).2):=(hP 15 (by decide)).1
  have a15:=(hP 15 (by decide)).2
  have hcl : ∀ (S : St) (i : Nat),J X.P X.F X.H (.call 40 [sA ((spl l).getD i [])] S (.ret (iA (f i))) S):=fun S i=>by
    rw [hf]
    exact j_r19_number h.toOn _ (Nat.le_trans (getD_len l i) hl)
  rw [hM] at hi64 ⊢
  clear hf hM
  refine loop_unroll ?_
  simp only [w1,w2,w3,w4,v1,v2,v3,v4,v5,v6,v7,v8,v9,q2,q3,r0,r1,r2,r3,e1,a1,e2,a2,e3,a3,e4,a4,e6,a6,e7,a7,e8,a8,e9,a9,e11,a11,e13,a13,e15,a15,kB,kZ,kD,kE,xm,xg,xk,xc,xd,xe,xf,xj,xi,xh,reduceIte,reduceCtorEq,xz,xy,xq]
  refine callO_same (hcl _ 1) ?_
  simp only [w1,w2,w3,w4,v1,v2,v3,v4,v5,v6,v7,v8,v9,q2,q3,r0,r1,r2,r3,e1,a1,e2,a2,e3,a3,e4,a4,e6,a6,e7,a7,e8,a8,e9,a9,e11,a11,e13,a13,e15,a15,kB,kZ,kD,kE,xm,xg,xk,xc,xd,xe,xf,xj,xi,xh,reduceIte,reduceCtorEq,xz,xy,xq]
  refine callO_same (hcl _ 6) ?_
  simp only [w1,w2,w3,w4,v1,v2,v3,v4,v5,v6,v7,v8,v9,q2,q3,r0,r1,r2,r3,e1,a1,e2,a2,e3,a3,e4,a4,e6,a6,e7,a7,e8,a8,e9,a9,e11,a11,e13,a13,e15,a15,kB,kZ,kD,kE,xm,xg,xk,xc,xd,xe,xf,xj,xi,xh,reduceIte,reduceCtorEq,xz,xy,xq]
  refine loop_unroll ?_
  simp only [w1,w2,w3,w4,v1,v2,v3,v4,v5,v6,v7,v8,v9,q2,q3,r0,r1,r2,r3,e1,a1,e2,a2,e3,a3,e4,a4,e6,a6,e7,a7,e8,a8,e9,a9,e11,a11,e13,a13,e15,a15,kB,kZ,kD,kE,xm,xg,xk,xc,xd,xe,xf,xj,xi,xh,reduceIte,reduceCtorEq,xz,xy,xq]
  refine callO_same (hcl _ 2) ?_
  simp only [w1,w2,w3,w4,v1,v2,v3,v4,v5,v6,v7,v8,v9,q2,q3,r0,r1,r2,r3,e1,a1,e2,a2,e3,a3,e4,a4,e6,a6,e7,a7,e8,a8,e9,a9,e11,a11,e13,a13,e15,a15,kB,kZ,kD,kE,xm,xg,xk,xc,xd,xe,xf,xj,xi,xh,reduceIte,reduceCtorEq,xz,xy,xq]
  refine callO_same (hcl _ 7) ?_
  simp only [w1,w2,w3,w4,v1,v2,v3,v4,v5,v6,v7,v8,v9,q2,q3,r0,r1,r2,r3,e1,a1,e2,a2,e3,a3,e4,a4,e6,a6,e7,a7,e8,a8,e9,a9,e11,a11,e13,a13,e15,a15,kB,kZ,kD,kE,xm,xg,xk,xc,xd,xe,xf,xj,xi,xh,reduceIte,reduceCtorEq,xz,xy,xq]
  refine loop_unroll ?_
  simp only [w1,w2,w3,w4,v1,v2,v3,v4,v5,v6,v7,v8,v9,q2,q3,r0,r1,r2,r3,e1,a1,e2,a2,e3,a3,e4,a4,e6,a6,e7,a7,e8,a8,e9,a9,e11,a11,e13,a13,e15,a15,kB,kZ,kD,kE,xm,xg,xk,xc,xd,xe,xf,xj,xi,xh,reduceIte,reduceCtorEq,xz,xy,xq]
  refine callO_same (hcl _ 3) ?_
  simp only [w1,w2,w3,w4,v1,v2,v3,v4,v5,v6,v7,v8,v9,q2,q3,r0,r1,r2,r3,e1,a1,e2,a2,e3,a3,e4,a4,e6,a6,e7,a7,e8,a8,e9,a9,e11,a11,e13,a13,e15,a15,kB,kZ,kD,kE,xm,xg,xk,xc,xd,xe,xf,xj,xi,xh,reduceIte,reduceCtorEq,xz,xy,xq]
  refine callO_same (hcl _ 8) ?_
  simp only [w1,w2,w3,w4,v1,v2,v3,v4,v5,v6,v7,v8,v9,q2,q3,r0,r1,r2,r3,e1,a1,e2,a2,e3,a3,e4,a4,e6,a6,e7,a7,e8,a8,e9,a9,e11,a11,e13,a13,e15,a15,kB,kZ,kD,kE,xm,xg,xk,xc,xd,xe,xf,xj,xi,xh,reduceIte,reduceCtorEq,xz,xy,xq]
  refine loop_unroll ?_
  simp only [w1,w2,w3,w4,v1,v2,v3,v4,v5,v6,v7,v8,v9,q2,q3,r0,r1,r2,r3,e1,a1,e2,a2,e3,a3,e4,a4,e6,a6,e7,a7,e8,a8,e9,a9,e11,a11,e13,a13,e15,a15,kB,kZ,kD,kE,xm,xg,xk,xc,xd,xe,xf,xj,xi,xh,reduceIte,reduceCtorEq,xz,xy,xq]
  refine callO_same (hcl _ 4) ?_
  simp only [w1,w2,w3,w4,v1,v2,v3,v4,v5,v6,v7,v8,v9,q2,q3,r0,r1,r2,r3,e1,a1,e2,a2,e3,a3,e4,a4,e6,a6,e7,a7,e8,a8,e9,a9,e11,a11,e13,a13,e15,a15,kB,kZ,kD,kE,xm,xg,xk,xc,xd,xe,xf,xj,xi,xh,reduceIte,reduceCtorEq,xz,xy,xq]
  refine callO_same (hcl _ 9) ?_
  simp only [w1,w2,w3,w4,v1,v2,v3,v4,v5,v6,v7,v8,v9,q2,q3,r0,r1,r2,r3,e1,a1,e2,a2,e3,a3,e4,a4,e6,a6,e7,a7,e8,a8,e9,a9,e11,a11,e13,a13,e15,a15,kB,kZ,kD,kE,xm,xg,xk,xc,xd,xe,xf,xj,xi,xh,reduceIte,reduceCtorEq,xz,xy,xq]
  refine loop_unroll ?_
  simp only [w1,w2,w3,w4,v1,v2,v3,v4,v5,v6,v7,v8,v9,q2,q3,r0,r1,r2,r3,e1,a1,e2,a2,e3,a3,e4,a4,e6,a6,e7,a7,e8,a8,e9,a9,e11,a11,e13,a13,e15,a15,kB,kZ,kD,kE,xm,xg,xk,xc,xd,xe,xf,xj,xi,xh,reduceIte,reduceCtorEq,xz,xy,xq]
  refine callO_same (hcl _ 11) ?_
  simp only [e1,a1,e2,a2,e3,a3,e4,a4,e6,a6,e7,a7,e8,a8,e9,a9,e11,a11,e13,a13,e15,a15,kB,kZ,kD,kE,xm,xg,xk,xc,xd,xe,xf,xj,xi,xh,reduceIte,reduceCtorEq,xz,xy,xq]
  refine callO_same (hcl _ 13) ?_
  simp only [e1,a1,e2,a2,e3,a3,e4,a4,e6,a6,e7,a7,e8,a8,e9,a9,e11,a11,e13,a13,e15,a15,kB,kZ,kD,kE,xm,xg,xk,xc,xd,xe,xf,xj,xi,xh,reduceIte,reduceCtorEq,xz,xy,xq]
  refine callO_same (hcl _ 15) ?_
  simp only [e1,a1,e2,a2,e3,a3,e4,a4,e6,a6,e7,a7,e8,a8,e9,a9,e11,a11,e13,a13,e15,a15,kB,kZ,kD,kE,xm,xg,xk,xc,xd,xe,xf,xj,xi,xh,reduceIte,reduceCtorEq,xz,xy,xq]
  have jw:=fun S hS=>j_r19_Text (st:=S) h hS ⟨f 1,f 2,f 3,f 4,f 6,f 7,f 8,f 9,f 11,f 13,f 15⟩ hi64
  have jc:=fun S=>j_r19_Check (st:=S) h.toOn ⟨f 1,f 2,f 3,f 4,f 6,f 7,f 8,f 9,f 11,f 13,f 15⟩
  have z1:=fun L=>(hput L zeroM).1
  have z2:=fun L=>(hput L zeroM).2.1
  have z3:=fun L=>(hput L zeroM).2.2
  have m1:=fun L=>(hput L ⟨f 1,f 2,f 3,f 4,f 6,f 7,f 8,f 9,f 11,f 13,f 15⟩).1
  have m2:=fun L=>(hput L ⟨f 1,f 2,f 3,f 4,f 6,f 7,f 8,f 9,f 11,f 13,f 15⟩).2.1
  have m3:=fun L=>(hput L ⟨f 1,f 2,f 3,f 4,f 6,f 7,f 8,f 9,f 11,f 13,f 15⟩).2.2
  have hne:=fun ox oy T=>k_ne X.P ox oy T l
  obtain ⟨T,hT⟩ : ∃ T,txtM ⟨f 1,f 2,f 3,f 4,f 6,f 7,f 8,f 9,f 11,f 13,f 15⟩ = T:=⟨_,rfl⟩
  obtain ⟨ok,hok⟩ : ∃ ok,okM ⟨f 1,f 2,f 3,f 4,f 6,f 7,f 8,f 9,f 11,f 13,f 15⟩ = ok:=⟨_,rfl⟩
  have hck : chkM ⟨f 1,f 2,f 3,f 4,f 6,f 7,f 8,f 9,f 11,f 13,f 15⟩ = if ok then 0 else 2:=by unfold chkM; rw [hok]
  rw [hT] at jw ⊢
  rw [hok]
  rw [hck] at jc
  simp only [MachV.row,zeroM] at jw jc z1 z2 z3 m1 m2 m3
  clear hcl hput hfb hi64
  refine callO_same (jw _ (hg1.app _)) ?_
  cases hTl : decide (T≠l)
  case true =>
    rw [if_pos (.inl (of_decide_eq_true hTl))]
    simp only [hne,hTl,z1,z2,MachV.row,zeroM,kB,kZ,kD,kE,xm,xg,xk,xc,xd,xe,xf,xj,xi,xh,reduceIte,reduceCtorEq,xz,xy,xq]
    exact z3 _
  have hTl' : ¬ T≠l:=of_decide_eq_false hTl
  cases ok
  · rw [if_pos (show T≠l∨false = false from .inr rfl)]
    simp only [Bool.false_eq_true,if_false] at jc
    simp only [hne,hTl,kB,kZ,kD,kE,xm,xg,xk,xc,xd,xe,xf,xj,xi,xh,reduceIte,reduceCtorEq,xz,xy,xq]
    refine callO_same (jc _) ?_
    simp only [z1,z2,MachV.row,zeroM,Int.reduceEq,Int.reduceNe,kB,kZ,kD,kE,xm,xg,xk,xc,xd,xe,xf,xj,xi,xh,reduceIte,reduceCtorEq,xz,xy,xq]
    exact z3 _
  · rw [if_neg (show ¬ (T≠l∨true = false) from fun e=>e.elim hTl' (fun e=>by cases e))]
    simp only [if_true] at jc
    simp only [hne,hTl,kB,kZ,kD,kE,xm,xg,xk,xc,xd,xe,xf,xj,xi,xh,reduceIte,reduceCtorEq,xz,xy,xq]
    refine callO_same (jc _) ?_
    simp only [m1,m2,MachV.row,Int.reduceEq,Int.reduceNe,kB,kZ,kD,kE,xm,xg,xk,xc,xd,xe,xf,xj,xi,xh,reduceIte,reduceCtorEq,xz,xy,xq]
    exact m3 _
end
end Go.VX.Seat
end
section
set_option maxRecDepth 4000
namespace Go.VX.Seat
open Go.Proofs Go.Lib
theorem eq_intM (d : Nat) (a b : Int) : closed Tryd.prog (Op.equalIn (d + 1) 3 (.int .i64 a) (.int .i64 b)) = some (a == b):=by kernel_rfl
theorem arr4_refl (d : Nat) (a b c e : Int) : closed Tryd.prog (Op.equalIn (d + 2) 22 (.agg #[.int .i64 a,.int .i64 b,.int .i64 c,.int .i64 e]) (.agg #[.int .i64 a,.int .i64 b,.int .i64 c,.int .i64 e])) = some true:=by
  have hs : closed Tryd.prog (sizeOf 3) = some 1:=by kernel_rfl
  have h0 : closed Tryd.prog (part 3 #[.int .i64 a,.int .i64 b,.int .i64 c,.int .i64 e] (0 * 1)) = some (.int .i64 a):=by kernel_rfl
  have h1 : closed Tryd.prog (part 3 #[.int .i64 a,.int .i64 b,.int .i64 c,.int .i64 e] (1 * 1)) = some (.int .i64 b):=by kernel_rfl
  have h2 : closed Tryd.prog (part 3 #[.int .i64 a,.int .i64 b,.int .i64 c,.int .i64 e] (2 * 1)) = some (.int .i64 c):=by kernel_rfl
  have h3 : closed Tryd.prog (part 3 #[.int .i64 a,.int .i64 b,.int .i64 c,.int .i64 e] (3 * 1)) = some (.int .i64 e):=by kernel_rfl
  rw [Op.equalIn,closed_bind,closed_underlying (d:=.array 4 3) (by kernel_rfl)]
  simp only [Option.bind_some,closed_bind,hs]
  simp only [Std.Legacy.Range.forIn_eq_forIn_range',Std.Legacy.Range.size,Nat.sub_zero,Nat.add_sub_cancel,Nat.div_one,Nat.reduceAdd,Nat.reduceSub,Nat.reduceDiv,List.range'_succ,List.range'_zero,List.forIn_cons,List.forIn_nil,closed_bind,closed_ite,closed_pure,h0,h1,h2,h3,eq_intM,beq_self_eq_true,Option.bind_some,Bool.not_true,Bool.false_eq_true,if_false]
noncomputable def fl_mach : List Field:=(Tryd.prog.fieldsOf 24).toList
theorem fl_mach_eq : fl_mach = [fl_mach.getD 0 default,fl_mach.getD 1 default,fl_mach.getD 2 default,fl_mach.getD 3 default,fl_mach.getD 4 default]:=by kernel_rfl
theorem mach_fields (a b c d e f g h i j k : Int) : closed Tryd.prog (Op.eqFields 9999 #[.int .i64 a,.int .i64 b,.int .i64 c,.int .i64 d,.int .i64 e,.int .i64 f,.int .i64 g,.int .i64 h,.int .i64 i,.int .i64 j,.int .i64 k] #[.int .i64 a,.int .i64 b,.int .i64 c,.int .i64 d,.int .i64 e,.int .i64 f,.int .i64 g,.int .i64 h,.int .i64 i,.int .i64 j,.int .i64 k] fl_mach) = some true:=by
  rw [fl_mach_eq]
  rw [closed_fields (a:=.agg #[.int .i64 a,.int .i64 b,.int .i64 c,.int .i64 d]) (b:=.agg #[.int .i64 a,.int .i64 b,.int .i64 c,.int .i64 d]) (r:=true) (by kernel_rfl) (by kernel_rfl) (by kernel_rfl) (by
    have ht : (fl_mach.getD 0 default).type = 22:=by kernel_rfl
    rw [ht]
    exact arr4_refl 9997 a b c d)]
  rw [closed_fields (a:=.agg #[.int .i64 e,.int .i64 f,.int .i64 g,.int .i64 h]) (b:=.agg #[.int .i64 e,.int .i64 f,.int .i64 g,.int .i64 h]) (r:=true) (by kernel_rfl) (by kernel_rfl) (by kernel_rfl) (by
    have ht : (fl_mach.getD 1 default).type = 22:=by kernel_rfl
    rw [ht]
    exact arr4_refl 9997 e f g h)]
  rw [closed_fields (a:=.int .i64 i) (b:=.int .i64 i) (r:=i == i) (by kernel_rfl) (by kernel_rfl) (by kernel_rfl) (by kernel_rfl)]
  rw [closed_fields (a:=.int .i64 j) (b:=.int .i64 j) (r:=j == j) (by kernel_rfl) (by kernel_rfl) (by kernel_rfl) (by kernel_rfl)]
  rw [closed_fields (a:=.int .i64 k) (b:=.int .i64 k) (r:=k == k) (by kernel_rfl) (by kernel_rfl) (by kernel_rfl) (by kernel_rfl)]
  rw [closed_fields_nil]
  simp
theorem c_eq_mach (ox oy : Operand) (a b c d e f g h i j k : Int) :
    closed Tryd.prog (do eqGuard .eql 24 ox oy (.agg #[.int .i64 a,.int .i64 b,.int .i64 c,.int .i64 d,.int .i64 e,.int .i64 f,.int .i64 g,.int .i64 h,.int .i64 i,.int .i64 j,.int .i64 k]) (.agg #[.int .i64 a,.int .i64 b,.int .i64 c,.int .i64 d,.int .i64 e,.int .i64 f,.int .i64 g,.int .i64 h,.int .i64 i,.int .i64 j,.int .i64 k]); binOp .eql 24 (.agg #[.int .i64 a,.int .i64 b,.int .i64 c,.int .i64 d,.int .i64 e,.int .i64 f,.int .i64 g,.int .i64 h,.int .i64 i,.int .i64 j,.int .i64 k]) (.agg #[.int .i64 a,.int .i64 b,.int .i64 c,.int .i64 d,.int .i64 e,.int .i64 f,.int .i64 g,.int .i64 h,.int .i64 i,.int .i64 j,.int .i64 k])) = some (.bool true):=by
  rw [closed_bind]
  have h1 : closed Tryd.prog (eqGuard .eql 24 ox oy (.agg #[.int .i64 a,.int .i64 b,.int .i64 c,.int .i64 d,.int .i64 e,.int .i64 f,.int .i64 g,.int .i64 h,.int .i64 i,.int .i64 j,.int .i64 k]) (.agg #[.int .i64 a,.int .i64 b,.int .i64 c,.int .i64 d,.int .i64 e,.int .i64 f,.int .i64 g,.int .i64 h,.int .i64 i,.int .i64 j,.int .i64 k])) = some ():=by kernel_rfl
  rw [h1]
  simp only [Option.bind_some]
  have hE : closed Tryd.prog (Op.equal 24 (.agg #[.int .i64 a,.int .i64 b,.int .i64 c,.int .i64 d,.int .i64 e,.int .i64 f,.int .i64 g,.int .i64 h,.int .i64 i,.int .i64 j,.int .i64 k]) (.agg #[.int .i64 a,.int .i64 b,.int .i64 c,.int .i64 d,.int .i64 e,.int .i64 f,.int .i64 g,.int .i64 h,.int .i64 i,.int .i64 j,.int .i64 k])) = some true:=by
    unfold Op.equal Op.maxDepth
    rw [closed_struct (P:=Tryd.prog) 9999 24 _ _ (fs:=Tryd.prog.fieldsOf 24) (by kernel_rfl) (by kernel_rfl)]
    exact mach_fields a b c d e f g h i j k
  have h2 : binOp .eql 24 (.agg #[.int .i64 a,.int .i64 b,.int .i64 c,.int .i64 d,.int .i64 e,.int .i64 f,.int .i64 g,.int .i64 h,.int .i64 i,.int .i64 j,.int .i64 k]) (.agg #[.int .i64 a,.int .i64 b,.int .i64 c,.int .i64 d,.int .i64 e,.int .i64 f,.int .i64 g,.int .i64 h,.int .i64 i,.int .i64 j,.int .i64 k]) = (do pure (Value.bool (← Op.equal 24 (.agg #[.int .i64 a,.int .i64 b,.int .i64 c,.int .i64 d,.int .i64 e,.int .i64 f,.int .i64 g,.int .i64 h,.int .i64 i,.int .i64 j,.int .i64 k]) (.agg #[.int .i64 a,.int .i64 b,.int .i64 c,.int .i64 d,.int .i64 e,.int .i64 f,.int .i64 g,.int .i64 h,.int .i64 i,.int .i64 j,.int .i64 k])))):=rfl
  rw [h2,closed_bind,hE]
  rfl
end Go.VX.Seat
end
