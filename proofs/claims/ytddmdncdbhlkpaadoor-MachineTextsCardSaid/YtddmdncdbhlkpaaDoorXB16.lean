/- A part of the proofs of the statements of one layer: R4n, R5m, M27. No condition is added here. -/
import Derived.Lay
import Derived.Test.YtddmdncdbhlkpaaDoorXB15
set_option linter.unusedVariables false
set_option linter.unusedSimpArgs false
section
set_option maxRecDepth 4000
namespace Go.VX.Seat
open Go.Proofs Go.ChangeShapes Go.WideShapes
open Go.RowKit (Below)
section
variable {H : Type} {enc : TypeId × Value→H} {W : World}
theorem law_true {f : FuncId} {ws : List AV} {st : St} {K : KM} {args : List Value} (hc : Callable Go.Proofs.Tryd.prog f) (hw : wpF XS f ws st fun r s=>r = .ret (bA true)∧∃ m,s = st++m) (hE : Ent [0,3,4,1,2] W K st) (hargs : VRels K ws args) :
    Calls Go.Proofs.Tryd.prog f args.toArray W fun e W'=>e = .returned (.bool true)∧Below W.heap.size W W':=by
  obtain ⟨r,s,j,rfl,_⟩:=hw
  refine ((seat_sound j).c hc W.heap.size W K W args hE.rel (Nat.le_refl _) hargs).mono fun e W' hp=>?_
  obtain ⟨K',hW',_,v',rfl,hv⟩:=hp
  cases hv
  exact ⟨rfl,hW'.below⟩
end
noncomputable def doorW (os : Os) : World:=World.laidAll Go.Proofs.Tryd.prog os laidL
theorem doorW_os (os : Os) : (doorW os).os = os:=World.laidAll_os _ _ _
theorem door_met (os : Os) (args : Array Value) : laidMetH Go.Proofs.Tryd.prog laidL ((doorW os).forCall (fun _ _=>0) ⟨#[],args,[]⟩).memory:=by
  rw [MakeChecks.laidMetH_plain _ _ _ (by kernel_rfl)]
  exact laidMet_laidAll args (by kernel_rfl) (by kernel_rfl)
end Go.VX.Seat
end
section
set_option maxRecDepth 4000
namespace Go.VX
def onlyI (P : Program) : Nat→TypeId→Bool
  | 0,_=>false
  | n + 1,t=>match P.underlying t with
    | some (.int .i64)=>true
    | some (.struct fs)=>tilesFs P.cellsOf (onlyI P n) (P.cellsOf t) fs.toList 0
    | some (.array m e)=>onlyI P n e && Nat.beq (m * P.cellsOf e) (P.cellsOf t)
    | _=>false
section
variable {H : Type} {enc : TypeId × Value→H} {P : Program} {W : World}
theorem trod_ints {hd : Nat→Bool} {sp : Bool} : ∀ (n : Nat) (t : TypeId) (m : Nat) (cs : List Value) (x : DataW H × List MemPlace),onlyI P n t = true→DataW.trod enc P W 0 hd sp m t cs = some x→∀ v ∈ cs,∃ z : Int,v = .int .i64 z
  | 0,t,m,cs,x,h,_=>by cases h
  | n + 1,t,m,cs,x,h,ht=>by
    unfold onlyI at h
    split at h
    · rename_i hu
      obtain ⟨v,rfl,rfl,_⟩:=DataW.trod_int hu ht
      intro u hu2
      exact ⟨v,by simpa using hu2⟩
    · rename_i fs hu
      obtain ⟨xs,m',_,rfl,hl,hx,hf⟩:=DataW.trod_struct hu ht
      have hp:=tilesFs_piece hl fs.toList 0 h
      have hok:=tilesFs_ok fs.toList 0 h
      simp only [List.drop_zero] at hp
      intro u hu2
      rw [←hp,List.mem_flatten] at hu2
      obtain ⟨l,hl1,hl2⟩:=hu2
      obtain ⟨f,hf1,rfl⟩:=List.mem_map.1 hl1
      obtain ⟨i,hi,rfl⟩:=List.getElem_of_mem hf1
      have:=hf i fs.toList[i] (by rw [Array.getElem?_eq_getElem (by simpa using hi)]; simp)
      rw [List.getElem?_eq_getElem (by rw [hx]; simpa using hi)] at this
      exact trod_ints n _ m' _ _ (hok _ hf1) this u hl2
    · rename_i k e hu
      simp only [Bool.and_eq_true] at h
      obtain ⟨xs,m',_,rfl,hl,hx,hf⟩:=DataW.trod_array hu ht
      have hs : k * P.cellsOf e = P.cellsOf t:=Nat.eq_of_beq_eq_true h.2
      have hp:=pieces_row (cs:=cs) (s:=P.cellsOf e) 0 k (by rw [hl,← hs,Nat.zero_add])
      simp only [Nat.zero_mul,List.drop_zero] at hp
      intro u hu2
      rw [←hp,List.mem_flatten] at hu2
      obtain ⟨l,hl1,hl2⟩:=hu2
      obtain ⟨i,hi1,rfl⟩:=List.mem_map.1 hl1
      have hi : i < k:=by simpa using hi1
      have:=hf i hi
      rw [List.getElem?_eq_getElem (by omega)] at this
      exact trod_ints n _ m' _ _ h.1 this u hl2
    · cases h
theorem trod_size {hd : Nat→Bool} {sp : Bool} {fs : Array Field} {t : TypeId} {m : Nat} {cs : List Value} {x : DataW H × List MemPlace} (hu : P.underlying t = some (.struct fs)) (ht : DataW.trod enc P W 0 hd sp m t cs = some x) : cs.length = P.cellsOf t:=by
  obtain ⟨xs,m',_,rfl,hl,hx,hf⟩:=DataW.trod_struct hu ht
  exact hl
namespace Seat
open Go.Proofs
theorem c_mach : Go.Proofs.Tryd.prog.cellsOf 24 = 11:=by kernel_rfl
theorem only_mach : onlyI Go.Proofs.Tryd.prog 4 24 = true:=by kernel_rfl
theorem reads_mach {gl : List Nat} : Reads enc Go.Proofs.Tryd.prog W gl 24 (fun _ cs (m : MachV)=>cs = m.row):=by
  intro K st n vs x hE h
  have hl:=trod_size Go.Proofs.Tryd.underlying24 h
  have hv:=trod_ints 4 _ _ _ _ only_mach h
  rw [c_mach] at hl
  match vs,hl with
  | [v0,v1,v2,v3,v4,v5,v6,v7,v8,v9,v10],_ =>
    obtain ⟨z0,rfl⟩:=hv v0 (by simp)
    obtain ⟨z1,rfl⟩:=hv v1 (by simp)
    obtain ⟨z2,rfl⟩:=hv v2 (by simp)
    obtain ⟨z3,rfl⟩:=hv v3 (by simp)
    obtain ⟨z4,rfl⟩:=hv v4 (by simp)
    obtain ⟨z5,rfl⟩:=hv v5 (by simp)
    obtain ⟨z6,rfl⟩:=hv v6 (by simp)
    obtain ⟨z7,rfl⟩:=hv v7 (by simp)
    obtain ⟨z8,rfl⟩:=hv v8 (by simp)
    obtain ⟨z9,rfl⟩:=hv v9 (by simp)
    obtain ⟨z10,rfl⟩:=hv v10 (by simp)
    exact ⟨K,[],_,⟨z0,z1,z2,z3,z4,z5,z6,z7,z8,z9,z10⟩,by simpa using hE,KM.le_refl K,VRels.int1 (VRels.int1 (VRels.int1 (VRels.int1 (VRels.int1 (VRels.int1 (VRels.int1 (VRels.int1 (VRels.int1 (VRels.int1 (VRels.int1 .nil)))))))))),rfl⟩
end Seat
end
end Go.VX
end
open Go.VX.AV renaming cell? → xa, toV → xb
open Int renaming reduceAdd → xc, reduceLE → xd, reduceLT → xe, reduceNeg → xf, reduceToNat → xg
open Nat renaming reduceAdd → xh, reduceEqDiff → xi, reduceLeDiff → xj, reduceMul → xk, reduceSub → xm
open Go.VX.VOpd renaming ev → xn
open Go.VX renaming asInt? → xo, asNat? → xp, cellVal → xq, cellsV → xr, fillA → xv, partsEv → xw, resOf → xy, splice → xz, tupOf → ya, zeroes → yb
section
set_option maxRecDepth 4000
namespace Go.VX.Seat
open Go.Proofs Go.Lib
section
variable {X : Cx} {st : St}
set_option maxHeartbeats 4000000 in
theorem w_MachineTextsL (h : OnH X) (hg : GB st) (m : MachV) (l : List UInt8) : wpF X 4 [.agg m.row,sA l] st fun r s=>r = .ret (bA true)∧∃ m,s = st++m:=by
  refine wpF_go (fn:=v_l19_MachineTexts) (by rw [h.F]; rfl) ?_
  have hlen:=k_len h.toOn l
  have jt:=fun L=>j_machine_Text (st:=st++L) h (hg.app L) m
  have jc:=fun L=>j_r19_Check (st:=st++L) h.toOn m
  have jr:=fun hm L=>j_r19_Text (st:=st++L) h (hg.app L) m hm
  simp only [MachV.row] at jt jc jr
  simp only [v_l19_MachineTexts,MachV.row,hlen,kB,kZ,kD,kE,xm,xg,xk,xc,xd,xe,xf,xj,xi,xh,reduceIte,reduceCtorEq,xz,xy,xq]
  cases h600 : decide (600 < (l.length : Int))
  case true =>
    simp only [h600,kB,kZ,kD,kE,xm,xg,xk,xc,xd,xe,xf,xj,xi,xh,reduceIte,reduceCtorEq,xz,xy,xq]
    refine callO_same (.hook (h.alive _ (hg.app _))) ?_
    simp only [kB,kZ,kD,kE,xm,xg,xk,xc,xd,xe,xf,xj,xi,xh,reduceIte,reduceCtorEq,xz,xy,xq]
    exact ⟨_,rfl⟩
  have hl : l.length≤100000:=by have:=of_decide_eq_false h600; omega
  simp only [h600,kB,kZ,kD,kE,xm,xg,xk,xc,xd,xe,xf,xj,xi,xh,reduceIte,reduceCtorEq,xz,xy,xq]
  refine callO_same (jt _) ?_
  simp only [kB,kZ,kD,kE,xm,xg,xk,xc,xd,xe,xf,xj,xi,xh,reduceIte,reduceCtorEq,xz,xy,xq]
  refine callO_same (jc _) ?_
  have hlaw:=parse_law (f:=atoiL) (g:=numR) (fun n h0 h1=>atoi_itoa h0 h1) (fun n h0 h1=>numR_itoa h0 h1) l
  have hne:=fun ox oy T=>k_ne X.P ox oy T T
  have hxx : ∀ T : List UInt8,decide (T≠T) = false:=fun T=>decide_eq_false fun e=>e rfl
  have hnx : ∀ x : Int,decide (x≠x) = false:=fun x=>decide_eq_false fun e=>e rfl
  simp only [hnx,kB,kZ,kD,kE,xm,xg,xk,xc,xd,xe,xf,xj,xi,xh,reduceIte,reduceCtorEq,xz,xy,xq]
  refine anyG (mS m0) (fun e s=>∃ L,s = st++L∧e 1 = sA l) ?_ ?_
  · cases hok : okM m
    · have e : chkM m = 2:=by unfold chkM; rw [hok]; rfl
      have q1 : ∀ ox oy,closed X.P (do eqGuard .neq 9 ox oy (.string ⟨#[]⟩) (.string ⟨#[]⟩); binOp .neq 9 (.string ⟨#[]⟩) (.string ⟨#[]⟩)) = some (.bool false):=fun ox oy=>k_ne X.P ox oy [] []
      simp only [e,q1,Int.reduceEq,Int.reduceNe,kB,kZ,kD,kE,xm,xg,xk,xc,xd,xe,xf,xj,xi,xh,reduceIte,reduceCtorEq,xz,xy,xq]
      exact ⟨_,rfl⟩
    · have e : chkM m = 0:=by unfold chkM; rw [hok]; rfl
      simp only [e,Int.reduceEq,Int.reduceNe,kB,kZ,kD,kE,xm,xg,xk,xc,xd,xe,xf,xj,xi,xh,reduceIte,reduceCtorEq,xz,xy,xq]
      refine callO_same (jr (i64_of_ok hok) _) ?_
      simp only [e,hne,hxx,Int.reduceEq,Int.reduceNe,kB,kZ,kD,kE,xm,xg,xk,xc,xd,xe,xf,xj,xi,xh,reduceIte,reduceCtorEq,xz,xy,xq]
      exact ⟨_,rfl⟩
  clear jt jc jr
  rintro e s ⟨L,rfl,k1⟩
  have g0:=hg.app L
  have hpre : ∃ m,st++L = st++m:=⟨_,rfl⟩
  generalize (st++L : St) = S at *
  simp only [k1,kB,kZ,kD,kE,xm,xg,xk,xc,xd,xe,xf,xj,xi,xh,reduceIte,reduceCtorEq,xz,xy,xq]
  refine wpF.mono (w_machine_Parse h g0 l hl) ?_
  rintro r S1 ⟨rfl,m1,rfl⟩
  refine ⟨keptA_nil _ _ _,?_⟩
  have g1:=g0.app m1
  have hpre1 : ∃ m,S++m1 = st++m:=let ⟨m,e⟩:=hpre; ⟨m++m1,by rw [e,List.append_assoc]⟩
  rw [hlaw]
  obtain ⟨M,hM⟩ : ∃ M,(parseM numR l).1 = M:=⟨_,rfl⟩
  obtain ⟨E,hE⟩ : ∃ E,(parseM numR l).2 = E:=⟨_,rfl⟩
  rw [hM,hE]
  generalize (S++m1 : St) = S2 at *
  rw [←List.append_nil S2]
  simp only [k1,MachV.row,kB,kZ,kD,kE,xm,xg,xk,xc,xd,xe,xf,xj,xi,xh,reduceIte,reduceCtorEq,xz,xy,xq]
  refine wpF.mono (w_r19_Parse h (g1.app _) l hl) ?_
  rintro r S3 ⟨rfl,m3,rfl⟩
  refine ⟨keptA_nil _ _ _,?_⟩
  rw [hM,hE]
  have hb : BoxAt (S2++[⟨[iA M.u0,iA M.u1,iA M.u2,iA M.u3,iA M.l0,iA M.l1,iA M.l2,iA M.l3,iA M.regs,iA M.banks,iA M.ports],0,1⟩]++m3) (S2.length + 0) [iA M.u0,iA M.u1,iA M.u2,iA M.u3,iA M.l0,iA M.l1,iA M.l2,iA M.l3,iA M.regs,iA M.banks,iA M.ports]:=(BoxAt.of (m:=0) (v:=1) (by simp) (by decide) : BoxAt (S2++[⟨[iA M.u0,iA M.u1,iA M.u2,iA M.u3,iA M.l0,iA M.l1,iA M.l2,iA M.l3,iA M.regs,iA M.banks,iA M.ports],0,1⟩]) (S2.length + 0) _).ext (Ext.of _ _)
  have g3 : GB (S2++[⟨[iA M.u0,iA M.u1,iA M.u2,iA M.u3,iA M.l0,iA M.l1,iA M.l2,iA M.l3,iA M.regs,iA M.banks,iA M.ports],0,1⟩]++m3):=(g1.app _).app _
  have hpre3 : ∃ m,(S2++[⟨[iA M.u0,iA M.u1,iA M.u2,iA M.u3,iA M.l0,iA M.l1,iA M.l2,iA M.l3,iA M.regs,iA M.banks,iA M.ports],0,1⟩]++m3 : St) = st++m:=let ⟨m,e⟩:=hpre1; ⟨m++_++m3,by rw [e,List.append_assoc,List.append_assoc,List.append_assoc]⟩
  generalize (S2++[⟨[iA M.u0,iA M.u1,iA M.u2,iA M.u3,iA M.l0,iA M.l1,iA M.l2,iA M.l3,iA M.regs,iA M.banks,iA M.ports],0,1⟩]++m3 : St) = S4 at *
  generalize S2.length + 0 = b8 at *
  have x8:=fun L=>hb.atN L 0 11 (by simp)
  rw [←List.append_nil S4]
  have hEE : decide (E = E) = true:=decide_eq_true rfl
  simp only [k1,MachV.row,x8,h.P,c_eq_mach,hEE,kB,kZ,kD,kE,xm,xg,xk,xc,xd,xe,xf,xj,xi,xh,reduceIte,reduceCtorEq,xz,xy,xq]
  refine callO_same (.hook (h.alive _ (g3.app _))) ?_
  simp only [kB,kZ,kD,kE,xm,xg,xk,xc,xd,xe,xf,xj,xi,xh,reduceIte,reduceCtorEq,xz,xy,xq]
  obtain ⟨m,e⟩:=hpre3
  rw [e]
  exact ⟨_,List.append_assoc ..⟩
theorem w_MachineTexts (h : OnH X) (hg : GB st) (m : MachV) (s : ByteArray) : wpF X 4 [.agg m.row,.sc (.string s)] st fun r s=>r = .ret (bA true)∧∃ m,s = st++m:=by
  have e : (.sc (.string s) : AV) = sA s.data.toList:=rfl
  rw [e]
  exact w_MachineTextsL h hg m _
end
end Go.VX.Seat
end
