/- A part of the proofs of the statements of one layer: R4n, R7, R9, U42, U43, U44, U45, U46, U47, U48, U49, U50, U51, U52, U53, U54, U55. No condition is added here. -/
import Derived.Lay
import Derived.Test.YtmpndkhedbpmjaaGreatDoorXD17
set_option linter.unusedVariables false
set_option linter.unusedSimpArgs false
section
set_option maxRecDepth 4000
namespace Go.VX.Seat
open Go.Proofs Go.ChangeShapes Go.WideShapes
open Go.RowKit (Below)
section
variable {H : Type} {enc : TypeId × Value→H} {W : World}
theorem law_true {f : FuncId} {ws : List AV} {st : St} {K : KM} {args : List Value} (hc : Callable Go.Proofs.Tryz.prog f) (hw : wpF XS f ws st fun r s=>r = .ret (bA true)∧∃ m,s = st++m) (hE : Ent [0,1,2] W K st) (hargs : VRels K ws args) :
    Calls Go.Proofs.Tryz.prog f args.toArray W fun e W'=>e = .returned (.bool true)∧Below W.heap.size W W':=by
  obtain ⟨r,s,j,rfl,_⟩:=hw
  refine ((seat_sound j).c hc W.heap.size W K W args hE.rel (Nat.le_refl _) hargs).mono fun e W' hp=>?_
  obtain ⟨K',hW',_,v',rfl,hv⟩:=hp
  cases hv
  exact ⟨rfl,hW'.below⟩
end
noncomputable def doorW (os : Os) : World:=World.laidAll Go.Proofs.Tryz.prog os laidL
theorem doorW_os (os : Os) : (doorW os).os = os:=World.laidAll_os _ _ _
theorem door_met (os : Os) (args : Array Value) : laidMetH Go.Proofs.Tryz.prog laidL ((doorW os).forCall (fun _ _=>0) ⟨#[],args,[]⟩).memory:=by
  rw [MakeChecks.laidMetH_plain _ _ _ (by kernel_rfl)]
  exact laidMet_laidAll args (by kernel_rfl) (by kernel_rfl)
end Go.VX.Seat
end
section
set_option maxRecDepth 4000
namespace Go.VX.Seat
open Go.Proofs
theorem c_wrds : Go.Proofs.Tryz.prog.cellsOf 23 = 1:=by kernel_rfl
theorem c_cod : Go.Proofs.Tryz.prog.cellsOf 25 = 6:=by kernel_rfl
theorem c_wrd : Go.Proofs.Tryz.prog.cellsOf 68 = 2:=by kernel_rfl
section
variable {H : Type} {enc : TypeId × Value→H} {W : World} {gl : List Nat}
theorem reads_wrd (hg : ∃ g,gl[0]? = some g∧g < W.heap.size) : Reads enc Go.Proofs.Tryz.prog W gl 68 (fun st cs (b : WrdV)=>∃ a,cs = b.row a∧OpsAt st 0 st.length a b.ops):=by
  intro K st n vs x hE h
  obtain ⟨xs,m,_,_,hl,hx,hf⟩:=DataW.trod_struct Go.Proofs.Tryz.underlying68 h
  rw [c_wrd] at hl
  have hx : xs.length = 2:=hx
  match vs,hl with
  | [v0,v1],_ =>
    have f0 : DataW.trod enc Go.Proofs.Tryz.prog W 0 (fun _=>true) true m 66 (([v0,v1].drop 0).take (Go.Proofs.Tryz.prog.cellsOf 66)) = xs[0]?:=hf 0 _ rfl
    have f2 : DataW.trod enc Go.Proofs.Tryz.prog W 0 (fun _=>true) true m 3 (([v0,v1].drop 1).take (Go.Proofs.Tryz.prog.cellsOf 3)) = xs[1]?:=hf 1 _ rfl
    rw [List.getElem?_eq_getElem (by omega)] at f0 f2
    simp only [c_ops,c_int,List.drop_zero,List.drop_succ_cons,List.take_succ_cons,List.take_zero] at f0 f2
    obtain ⟨k5,e5,_⟩:=DataW.trod_int Go.Proofs.Tryz.underlying3 f2
    simp at e5
    subst e5
    obtain ⟨K',L,cs,ops,h1,h2,h3,a,rfl,h4⟩:=reads_ops hg K st m _ _ hE f0
    cases h3 with
    | cons h3 _=>exact ⟨K',L,_,⟨ops,k5⟩,h1,h2,.cons h3 (VRels.int1 .nil),a,rfl,h4⟩
theorem reads_wrds (hg : ∃ g,gl[0]? = some g∧g < W.heap.size) : Reads enc Go.Proofs.Tryz.prog W gl 23 (fun st cs (l : List WrdV)=>∃ a,cs = [a]∧WrdsAt st 0 st.length a l):=by
  intro K st n vs x hE h
  obtain ⟨K',L,cs,us,h1,h2,h3,a,rows,rfl,h4,h5,h6⟩:=reads_slice (R:=fun st cs (b : WrdV)=>∃ a,cs = b.row a∧OpsAt st 0 st.length a b.ops) (fun st L cs u h=>by
    obtain ⟨a,h1,h2⟩:=h
    exact ⟨a,h1,(ArrAt.mono h2 L).wide0 (Nat.le_refl _) (by simp)⟩) Go.Proofs.Tryz.underlying23 c_wrd (by decide) hg (reads_wrd hg) K st n vs x hE h
  have hrow : rows = us.mapIdx fun i b=>b.row ((rows[i]?.getD []).headD (iA 0)):=List.ext_getElem (by simpa using h5) fun i i1 i2=>by
    obtain ⟨a,e,_⟩:=h6 i i1 (by omega)
    rw [List.getElem_mapIdx,List.getElem?_eq_getElem i1,e]
    rfl
  refine ⟨K',L,[a],us,h1,h2,h3,a,rfl,fun i=>(rows[i]?.getD []).headD (iA 0),by rw [←hrow]; exact h4,fun i hi=>?_⟩
  obtain ⟨a,e,ha⟩:=h6 i (by omega) hi
  show OpsAt _ _ _ ((rows[i]?.getD []).headD (iA 0)) _
  rw [List.getElem?_eq_getElem (by omega),e]
  exact ha
theorem reads_cod (hg : ∃ g,gl[0]? = some g∧g < W.heap.size) : Reads enc Go.Proofs.Tryz.prog W gl 25 (fun st cs (u : CodV)=>CodAt st 0 st.length (.agg cs) u):=by
  intro K st n vs x hE h
  obtain ⟨xs,m,_,_,hl,hx,hf⟩:=DataW.trod_struct Go.Proofs.Tryz.underlying25 h
  rw [c_cod] at hl
  have hx : xs.length = 6:=hx
  match vs,hl with
  | [v0,v1,v2,v3,v4,v5],_ =>
    have f0 : DataW.trod enc Go.Proofs.Tryz.prog W 0 (fun _=>true) true m 22 (([v0,v1,v2,v3,v4,v5].drop 0).take (Go.Proofs.Tryz.prog.cellsOf 22)) = xs[0]?:=hf 0 _ rfl
    have f1 : DataW.trod enc Go.Proofs.Tryz.prog W 0 (fun _=>true) true m 3 (([v0,v1,v2,v3,v4,v5].drop 1).take (Go.Proofs.Tryz.prog.cellsOf 3)) = xs[1]?:=hf 1 _ rfl
    have f2 : DataW.trod enc Go.Proofs.Tryz.prog W 0 (fun _=>true) true m 3 (([v0,v1,v2,v3,v4,v5].drop 2).take (Go.Proofs.Tryz.prog.cellsOf 3)) = xs[2]?:=hf 2 _ rfl
    have f3 : DataW.trod enc Go.Proofs.Tryz.prog W 0 (fun _=>true) true m 3 (([v0,v1,v2,v3,v4,v5].drop 3).take (Go.Proofs.Tryz.prog.cellsOf 3)) = xs[3]?:=hf 3 _ rfl
    have f4 : DataW.trod enc Go.Proofs.Tryz.prog W 0 (fun _=>true) true m 3 (([v0,v1,v2,v3,v4,v5].drop 4).take (Go.Proofs.Tryz.prog.cellsOf 3)) = xs[4]?:=hf 4 _ rfl
    have f5 : DataW.trod enc Go.Proofs.Tryz.prog W 0 (fun _=>true) true m 23 (([v0,v1,v2,v3,v4,v5].drop 5).take (Go.Proofs.Tryz.prog.cellsOf 23)) = xs[5]?:=hf 5 _ rfl
    rw [List.getElem?_eq_getElem (by omega)] at f0 f1 f2 f3 f4 f5
    simp only [c_ints,c_wrds,c_int,List.drop_zero,List.drop_succ_cons,List.take_succ_cons,List.take_zero] at f0 f1 f2 f3 f4 f5
    obtain ⟨k1,e1,_⟩:=DataW.trod_int Go.Proofs.Tryz.underlying3 f1
    obtain ⟨k2,e2,_⟩:=DataW.trod_int Go.Proofs.Tryz.underlying3 f2
    obtain ⟨k3,e3,_⟩:=DataW.trod_int Go.Proofs.Tryz.underlying3 f3
    obtain ⟨k4,e4,_⟩:=DataW.trod_int Go.Proofs.Tryz.underlying3 f4
    simp at e1 e2 e3 e4
    subst e1 e2 e3 e4
    obtain ⟨K1,L1,cs,sz,h1,h2,h3,a,rfl,h4⟩:=reads_nums hg K st m _ _ hE f0
    obtain ⟨K2,L2,cs,bl,g1,g2,g3,b,rfl,g4⟩:=reads_wrds hg K1 (st++L1) m _ _ h1 f5
    cases h3 with
    | cons h3 _ =>
      refine ⟨K2,L1++L2,_,⟨sz,k1,k2,k3,k4,bl⟩,by simpa using g1,KM.le_trans h2 g2,.cons (h3.mono g2) (VRels.int1 (VRels.int1 (VRels.int1 (VRels.int1 g3)))),a,b,rfl,?_,?_⟩
      · have:=(ArrAt.mono h4 L2).wide0 (lo':=0) (hi':=(st++L1++L2).length) (Nat.le_refl _) (by simp)
        simpa using this
      · simpa using g4
end
end Go.VX.Seat
end
section
set_option maxRecDepth 4000
namespace Go.VX
theorem VRels.head {K : KM} {a : AV} {v : Value} {l : List AV} {m : List Value} (h : VRels K (a :: l) (v :: m)) : VRel K a v:=by
  cases h with
  | cons h _=>exact h
end Go.VX
namespace Go.VX.Seat
open Go.Proofs
def BytesAt (st : St) (a : AV) (l : List Int) : Prop:=(∃ lo hi,ArrAt st lo hi a 1 (rowsB l))∧∀ b ∈ l,0≤b∧b < 256
theorem BytesAt.mono {st : St} {a : AV} {l : List Int} (h : BytesAt st a l) (m : St) : BytesAt (st++m) a l:=⟨let ⟨lo,hi,h1⟩:=h.1; ⟨lo,hi,h1.mono m⟩,h.2⟩
section
variable {H : Type} {enc : TypeId × Value→H} {W : World} {gl : List Nat}
end
end Go.VX.Seat
end
section
set_option maxRecDepth 4000
namespace Go.VX.Seat
open Go.Proofs
def outD (T : Except Int CodV) : CodV × Int:=match T with
  | .error e=>(⟨[],0,0,0,0,[]⟩,e)
  | .ok C=>(C,0)
theorem LdR.out {st S : St} {T : Except Int CodV} {r : CRes} (h : LdR st S T r) : ∃ s b lo hi,r = .ret (.tup [.agg [s,iA (outD T).1.params,iA (outD T).1.regs,iA (outD T).1.code,iA (outD T).1.spill,b],iA (outD T).2])∧s.isCell = true∧b.isCell = true ∧
    CodAt S lo hi (.agg [s,iA (outD T).1.params,iA (outD T).1.regs,iA (outD T).1.code,iA (outD T).1.spill,b]) (outD T).1∧FitsC (outD T).1:=by
  rcases h with ⟨e,rfl,rfl⟩ | ⟨C,lo,w,rfl,hz,_,hC,rfl⟩
  · refine ⟨_,_,0,0,rfl,rfl,rfl,⟨_,_,rfl,emptyArr _ _ _ _,fun _=>.sc (.slice none 0 0),emptyArr _ _ _ _,fun i hi=>absurd hi (by simp [outD])⟩,?_⟩
    refine ⟨?_,?_,fun b hb=>?_⟩
    · show ((0 : Nat) : Int) < _
      decide
    · show ((0 : Nat) : Int) < _
      decide
    · simp [outD] at hb
  · have hc:=hC.cod
    obtain ⟨s,b,rfl,hs,f,hb,ho⟩:=hc
    refine ⟨s,b,lo,_,rfl,isCell_len hs.len,isCell_len hb.len,⟨s,b,rfl,hs,f,hb,ho⟩,?_⟩
    have hok:=chkR_ok hz
    have h16 : C.sizes.length≤16:=by have:=hok.lim; unfold limR at this; simp at this; omega
    have h60:=hok.n60
    refine ⟨?_,?_,fun w hw=>?_⟩
    · show (C.sizes.length : Int) < _
      omega
    · show (C.words.length : Int) < _
      omega
    · have:=(wrdsR_zero hok.wds w hw).1
      omega
structure FaW (st S : St) (ob gb : Nat) (co cg : List AV) (U : CodV) (vb : AV) (B : List Int) : Prop where
  c1 : ∃ lo hi,CodAt S lo hi (.agg co) U
  c2 : ∃ lo hi,CodAt S lo hi (.agg cg) U
  ob : BoxAt S ob co
  gb : BoxAt S gb cg
  g : GB S
  pre : ∃ m,S = st++m
  b : ∃ lo hi,ArrAt S lo hi vb 1 (rowsB B)
theorem FaW.app {st S : St} {ob gb : Nat} {co cg : List AV} {U : CodV} {vb : AV} {B : List Int} (h : FaW st S ob gb co cg U vb B) (L : St) : FaW st (S++L) ob gb co cg U vb B where
  c1:=let ⟨lo,hi,x⟩:=h.c1; ⟨lo,hi,x.mono L⟩
  c2:=let ⟨lo,hi,x⟩:=h.c2; ⟨lo,hi,x.mono L⟩
  ob:=h.ob.ext (Ext.of _ _)
  gb:=h.gb.ext (Ext.of _ _)
  g:=h.g.app L
  pre:=let ⟨m,x⟩:=h.pre; ⟨m++L,by rw [x,List.append_assoc]⟩
  b:=let ⟨lo,hi,x⟩:=h.b; ⟨lo,hi,x.mono L⟩
section
variable {X : Cx} {st : St}
end
end Go.VX.Seat
end
section
namespace Go.VX.Seat
open Go.Lib
abbrev SortedI (l : List Int) : Prop:=l.Pairwise (· < ·)
theorem sorted_ext : ∀ {l m : List Int},SortedI l→SortedI m→(∀ x,x ∈ l↔x ∈ m)→l = m
  | [],[],_,_,_=>rfl
  | [],b :: m,_,_,h=>absurd ((h b).2 (List.mem_cons_self ..)) (by simp)
  | a :: l,[],_,_,h=>absurd ((h a).1 (List.mem_cons_self ..)) (by simp)
  | a :: l,b :: m,hl,hm,h=>by
    have hl':=List.pairwise_cons.1 hl
    have hm':=List.pairwise_cons.1 hm
    have hab : a = b:=by
      rcases List.mem_cons.1 ((h a).1 (List.mem_cons_self ..)) with e | e
      · exact e
      · rcases List.mem_cons.1 ((h b).2 (List.mem_cons_self ..)) with e2 | e2
        · exact e2.symm
        · have:=hm'.1 a e
          have:=hl'.1 b e2
          omega
    subst hab
    rw [sorted_ext hl'.2 hm'.2 fun x=>?_]
    have hx:=h x
    simp only [List.mem_cons] at hx
    constructor
    · intro hxl
      rcases hx.1 (.inr hxl) with e | e
      · have:=hl'.1 x hxl; omega
      · exact e
    · intro hxm
      rcases hx.2 (.inr hxm) with e | e
      · have:=hm'.1 x hxm; omega
      · exact e
def putI : List Int→Int→List Int
  | [],n=>[n]
  | a :: l,n=>if a < n then a :: putI l n else if a = n then a :: l else n :: a :: l
theorem mem_putI (x n : Int) : ∀ l : List Int,x ∈ putI l n↔x = n∨x ∈ l
  | []=>by simp [putI]
  | a :: l=>by
    unfold putI
    split
    · rw [List.mem_cons,mem_putI x n l,List.mem_cons]
      constructor
      · rintro (h | h | h)
        · exact .inr (.inl h)
        · exact .inl h
        · exact .inr (.inr h)
      · rintro (h | h | h)
        · exact .inr (.inl h)
        · exact .inl h
        · exact .inr (.inr h)
    · split
      · rename_i h1 h2
        subst h2
        simp
      · simp
theorem sorted_putI (n : Int) : ∀ {l : List Int},SortedI l→SortedI (putI l n)
  | [],_=>by simp [putI]
  | a :: l,h=>by
    have h':=List.pairwise_cons.1 h
    unfold putI
    split
    · rename_i h1
      refine List.pairwise_cons.2 ⟨fun x hx=>?_,sorted_putI n h'.2⟩
      rcases (mem_putI x n l).1 hx with rfl | hx
      · exact h1
      · exact h'.1 x hx
    · split
      · exact h
      · rename_i h1 h2
        refine List.pairwise_cons.2 ⟨fun x hx=>?_,h⟩
        rcases List.mem_cons.1 hx with rfl | hx
        · omega
        · have:=h'.1 x hx; omega
theorem fold_putI : ∀ (l acc : List Int),SortedI acc→SortedI (l.foldl putI acc)∧∀ x,x ∈ l.foldl putI acc↔x ∈ l∨x ∈ acc
  | [],acc,h=>⟨h,fun x=>by simp⟩
  | n :: l,acc,h=>by
    obtain ⟨h1,h2⟩:=fold_putI l (putI acc n) (sorted_putI n h)
    refine ⟨h1,fun x=>?_⟩
    show x ∈ l.foldl putI (putI acc n)↔_
    rw [h2 x,mem_putI,List.mem_cons]
    constructor
    · rintro (h | h | h)
      · exact .inl (.inr h)
      · exact .inl (.inl h)
      · exact .inr h
    · rintro ((h | h) | h)
      · exact .inr (.inl h)
      · exact .inl h
      · exact .inr (.inr h)
theorem compact_sorted (zs : List Int) (hs : zs.Pairwise (·≤·)) : SortedI (Lib.compact zs)∧∀ x,x ∈ Lib.compact zs↔x ∈ zs:=by
  have hget : ∀ (i : Nat) (hi : i < zs.length),zs.toArray[i]! = zs[i]:=fun i hi=>by
    rw [getElem!_pos _ i (by simpa using hi)]
    simp
  have hle : ∀ (i j : Nat) (hi : i < zs.length) (hj : j < zs.length),i≤j→zs[i]≤zs[j]:=fun i j hi hj hij=>by
    rcases Nat.lt_or_eq_of_le hij with h | h
    · exact List.pairwise_iff_getElem.1 hs i j hi hj h
    · subst h; exact Int.le_refl _
  have P : ∀ m,m≤zs.length→SortedI (compactUpTo zs.toArray m)∧∀ x,x ∈ compactUpTo zs.toArray m↔∃ (j : Nat) (hj : j < zs.length),j < m∧zs[j] = x:=fun m=>by
    induction m with
    | zero=>exact fun _=>⟨by simp [compactUpTo],fun x=>by simp [compactUpTo]⟩
    | succ m ih =>
      intro hm
      obtain ⟨h1,h2⟩:=ih (by omega)
      rw [compactUpTo_succ,hget m (by omega)]
      cases hk : keeps zs.toArray m
      · simp only [Bool.false_eq_true,if_false,List.append_nil]
        have hk' : ¬(m = 0∨zs.toArray[m]!≠zs.toArray[m - 1]!):=of_decide_eq_false hk
        rw [hget m (by omega),hget (m - 1) (by omega)] at hk'
        have he : zs[m] = zs[m - 1]:=Classical.byContradiction fun e=>hk' (.inr e)
        have hm0 : m≠0:=fun e=>hk' (.inl e)
        refine ⟨h1,fun x=>?_⟩
        rw [h2 x]
        constructor
        · rintro ⟨j,hj,hjm,e⟩
          exact ⟨j,hj,by omega,e⟩
        · rintro ⟨j,hj,hjm,e⟩
          by_cases hjm' : j = m
          · subst hjm'
            exact ⟨j - 1,by omega,by omega,by rw [←he]; exact e⟩
          · exact ⟨j,hj,by omega,e⟩
      · simp only [if_true]
        have hk' : m = 0∨zs.toArray[m]!≠zs.toArray[m - 1]!:=of_decide_eq_true hk
        refine ⟨List.pairwise_append.2 ⟨h1,by simp,fun a ha b hb=>?_⟩,fun x=>?_⟩
        · obtain ⟨j,hj,hjm,e⟩:=(h2 a).1 ha
          rw [List.mem_singleton.1 hb,← e]
          rcases hk' with h0 | hne
          · omega
          · rw [hget m (by omega),hget (m - 1) (by omega)] at hne
            have a1:=hle j (m - 1) hj (by omega) (by omega)
            have a2:=hle (m - 1) m (by omega) (by omega) (by omega)
            omega
        · rw [List.mem_append,h2 x,List.mem_singleton]
          constructor
          · rintro (⟨j,hj,hjm,e⟩ | e)
            · exact ⟨j,hj,by omega,e⟩
            · exact ⟨m,by omega,by omega,e.symm⟩
          · rintro ⟨j,hj,hjm,e⟩
            by_cases hjm' : j = m
            · subst hjm'
              exact .inr e.symm
            · exact .inl ⟨j,hj,by omega,e⟩
  obtain ⟨h1,h2⟩:=P zs.length (Nat.le_refl _)
  refine ⟨h1,fun x=>?_⟩
  show x ∈ compactUpTo zs.toArray zs.length↔_
  rw [h2 x,List.mem_iff_getElem]
  constructor
  · rintro ⟨j,hj,_,e⟩; exact ⟨j,hj,e⟩
  · rintro ⟨j,hj,e⟩; exact ⟨j,hj,hj,e⟩
theorem compact_sort (zs : List Int) : Lib.compact (sortI zs) = zs.foldl putI []:=by
  have hs : (sortI zs).Pairwise (·≤·):=by
    have:=List.pairwise_mergeSort (le:=fun x y : Int=>decide (x≤y)) (fun a b c h1 h2=>by simp at *; omega) (fun a b=>by simp; omega) zs
    exact this.imp fun h=>of_decide_eq_true h
  obtain ⟨h1,h2⟩:=compact_sorted (sortI zs) hs
  obtain ⟨h3,h4⟩:=fold_putI zs [] List.Pairwise.nil
  refine sorted_ext h1 h3 fun x=>?_
  rw [h2 x,h4 x]
  simp [sortI]
end Go.VX.Seat
end
open Go.VX.AV renaming cell? → xa, toV → xd
open Int renaming reduceAdd → xe, reduceLE → xf, reduceLT → xg, reduceNeg → xh, reduceToNat → xi
open Nat renaming reduceAdd → xj, reduceEqDiff → xk, reduceLeDiff → xl, reduceMul → xm, reduceSub → xn
open Go.VX.VOpd renaming ev → xo
open Go.VX renaming asInt? → xp, asNat? → xq, cellVal → xr, cellsV → xu, fillA → xv, partsEv → xy, resOf → xz, splice → ya, tupOf → yb, zeroes → yc
section
set_option maxRecDepth 4000
namespace Go.VX.Seat
open Go.Proofs
def trapsW (o : OpV) : Bool:=decide (o.k = 14) || decide (o.k = 15) || decide (o.k = 16) || decide (o.k = 17) || decide (o.k = 20) || decide (o.k = 21) || decide (o.k = 22) || decide (o.k = 27) || decide (o.k = 28) || decide (o.g≠-1)
def exitW (o : OpV) : Bool:=decide (o.k = 21) || decide (o.k = 26)
def waysL (word c : Int) : List OpV→List Int
  | []=>[word + 1]
  | o :: r=>(if exitW o then [o.n] else [])++((if trapsW o && decide (0≤c) then [c] else [])++(if leavesW o then [] else waysL word c r))
theorem waysL_len (word c : Int) : ∀ l : List OpV,(waysL word c l).length≤2 * l.length + 1
  | []=>by simp [waysL]
  | o :: r=>by
    have:=waysL_len word c r
    simp only [waysL,List.length_append,List.length_cons]
    split<;>split<;>split<;>simp<;>omega
structure OutAt (S : St) (ob lo : Nat) (v : AV) (zs : List Int) : Prop where
  box : ∃ ver,S[ob]? = some ⟨[v],0,ver⟩
  own : OwnS S lo v 1 (rowsI zs)
  ex : ExactBox S v 1 (rowsI zs)
  ne : boxOf v≠some ob
  lo : lo≤S.length
  nl : zs = []→v = .sc (.slice none 0 0)
structure OutTo (S S' : St) (ob lo : Nat) (v v' : AV) (zs : List Int) : Prop where
  out : OutAt S' ob lo v' zs
  ag : Agree (fun n=>n = ob∨boxOf v = some n) S S'
  nw : v' = v∨∀ n,boxOf v' = some n→S.length≤n
theorem OutAt.to {S : St} {ob lo : Nat} {v : AV} {zs : List Int} (h : OutAt S ob lo v zs) : OutTo S S ob lo v v zs:=⟨h,Agree.refl _ _,.inl rfl⟩
theorem OutTo.trans {S S1 S2 : St} {ob lo : Nat} {v v1 v2 : AV} {p1 p2 : List Int} (h : OutTo S S1 ob lo v v1 p1) (h2 : OutTo S1 S2 ob lo v1 v2 p2) : OutTo S S2 ob lo v v2 p2 where
  out:=h2.out
  ag:=(h.ag.trans h2.ag).mono fun n hn hx=>by
    rcases hx with hx | hx | hx
    · exact hx
    · exact .inl hx
    · rcases h.nw with e | e
      · rw [e] at hx; exact .inr hx
      · have:=e n hx; omega
  nw:=by
    rcases h2.nw with e | e
    · subst e
      exact h.nw
    · exact .inr fun n hn=>Nat.le_trans h.ag.len (e n hn)
theorem OutAt.grow {S : St} {ob lo : Nat} {v : AV} {p : List Int} (h : OutAt S ob lo v p) (L : St) : OutAt (S++L) ob lo v p where
  box:=let ⟨ver,hb⟩:=h.box; ⟨ver,by rw [List.getElem?_append_left (List.getElem?_eq_some_iff.1 hb).1]; exact hb⟩
  own:=own_frame h.own L
  ex:=h.ex.agree (Agree.app (fun _=>False) S L) fun _ _ h=>h
  ne:=h.ne
  lo:=by have:=h.lo; simp; omega
  nl:=h.nl
theorem OutTo.grow {S : St} {ob lo : Nat} {v : AV} {p : List Int} (h : OutAt S ob lo v p) (L : St) : OutTo S (S++L) ob lo v v p:=⟨h.grow L,Agree.app _ _ _,.inl rfl⟩
theorem OutAt.lt {S : St} {ob lo : Nat} {v : AV} {p : List Int} (h : OutAt S ob lo v p) : ob < S.length:=let ⟨_,hb⟩:=h.box; (List.getElem?_eq_some_iff.1 hb).1
theorem OutTo.at_ {S S' : St} {ob lo : Nat} {v v' : AV} {p : List Int} (h : OutTo S S' ob lo v v' p) {b : Nat} {x : Box} (hb : S[b]? = some x) (h1 : b≠ob) (h2 : boxOf v≠some b) : S'[b]? = some x :=
  h.ag.box hb fun e=>by
    rcases e with e | e
    · exact h1 e
    · exact h2 e
theorem OutTo.arr {S S' : St} {ob lo : Nat} {v v' : AV} {p : List Int} (h : OutTo S S' ob lo v v' p) {l h2 esz : Nat} {a : AV} {rows : List (List AV)} (ha : ArrAt S l h2 a esz rows) (hs : ∀ b,boxOf a = some b→b≠ob∧boxOf v≠some b) : ArrAt S' l h2 a esz rows :=
  ha.agree h.ag fun b hb e=>by
    rcases e with e | e
    · exact (hs b hb).1 e
    · exact (hs b hb).2 e
section
variable {X : Cx}
theorem j_words_MayTrap (h : On X) {st : St} (o : OpV) : J X.P X.F X.H (.call 116 [.agg o.row] st (.ret (bA (trapsW o))) st):=by
  refine pure_intro (by rw [h.F]; rfl) rfl ?_
  unfold trapsW
  simp only [v_words_MayTrap,OpV.row,kB,kZ,kD,kE,xn,xi,xm,xe,xf,xg,xh,xl,xk,xj,reduceIte,reduceCtorEq,ya,xz,xr]
  repeat' (first | (refine gO_t ?_ ?_<;>(intro hc; simp only [*,kB,kZ,kD,kE,xn,xi,xm,xe,xf,xg,xh,xl,xk,xj,reduceIte,reduceCtorEq,ya,xz,xr])) | (refine gO_f ?_ ?_<;>(intro hc; simp only [*,kB,kZ,kD,kE,xn,xi,xm,xe,xf,xg,xh,xl,xk,xj,reduceIte,reduceCtorEq,ya,xz,xr])) | (refine condO_intro ?_ ?_<;>(intro hc; simp only [*,kB,kZ,kD,kE,xn,xi,xm,xe,xf,xg,xh,xl,xk,xj,reduceIte,reduceCtorEq,ya,xz,xr])))
  all_goals first | exact ⟨_,rfl⟩ | exact ⟨rfl,_,rfl⟩ | exact ⟨trivial,_,rfl⟩ | exact ⟨[],(List.append_nil _).symm⟩
theorem j_r26_Traps (h : On X) {st : St} (o : OpV) : J X.P X.F X.H (.call 40 [.agg o.row] st (.ret (bA (trapsW o))) st):=by
  refine pure_intro (by rw [h.F]; rfl) rfl ?_
  unfold trapsW
  simp only [v_r26_Traps,OpV.row,kB,kZ,kD,kE,xn,xi,xm,xe,xf,xg,xh,xl,xk,xj,reduceIte,reduceCtorEq,ya,xz,xr]
  repeat' (first | (refine gO_t ?_ ?_<;>(intro hc; simp only [*,kB,kZ,kD,kE,xn,xi,xm,xe,xf,xg,xh,xl,xk,xj,reduceIte,reduceCtorEq,ya,xz,xr])) | (refine gO_f ?_ ?_<;>(intro hc; simp only [*,kB,kZ,kD,kE,xn,xi,xm,xe,xf,xg,xh,xl,xk,xj,reduceIte,reduceCtorEq,ya,xz,xr])) | (refine condO_intro ?_ ?_<;>(intro hc; simp only [*,kB,kZ,kD,kE,xn,xi,xm,xe,xf,xg,xh,xl,xk,xj,reduceIte,reduceCtorEq,ya,xz,xr])))
  all_goals first | exact ⟨_,rfl⟩ | exact ⟨rfl,_,rfl⟩ | exact ⟨trivial,_,rfl⟩ | exact ⟨[],(List.append_nil _).symm⟩
theorem w_next_c1 (h : On X) {S : St} {ob lo : Nat} {v : AV} {zs : List Int} (hw : OutAt S ob lo v zs) (hp : zs.length≤1000000) (n a : Int) (c : Bool) :
    wpF X 84 [iA n,iA a,bA c,.ptr ob 0] S fun r S'=>r = .ret (.tup [])∧∃ v',OutTo S S' ob lo v v' (zs++[n]):=by
  refine wpF_go (fn:=v_words_next_c1) (by rw [h.F]; rfl) ?_
  obtain ⟨ver,hbx⟩:=hw.box
  have hwl:=hw.lt
  have x1:=at1_box hbx (by decide) 0
  simp only [List.getElem?_cons_zero] at x1
  rw [List.append_nil]
  simp only [v_words_next_c1,x1,kB,kZ,kD,kE,xn,xi,xm,xe,xf,xg,xh,xl,xk,xj,reduceIte,reduceCtorEq,ya,xz,xr]
  have hrow : ArrAt (S++[⟨[iA n],0,0⟩]) S.length (S.length + 1) (.sl S.length 0 1 1 true) 1 [[iA n]]:=ArrAt.ofBox (mode:=0) (ver:=0) (by simp) (by decide) (by simp) rfl
  have hlo:=hw.lo
  refine opR_append (vx:=v) (vy:=.sl S.length 0 1 1 true) (rows:=rowsI zs) (rows2:=[[iA n]]) (lo:=lo) (by simp only [kB,kZ,kD,kE,xn,xi,xm,xe,xf,xg,xh,xl,xk,xj,reduceIte,reduceCtorEq,ya,xz,xr]) (by simp only [kB,kZ,kD,kE,xn,xi,xm,xe,xf,xg,xh,xl,xk,xj,reduceIte,reduceCtorEq,ya,xz,xr]) (own_frame hw.own _) (by simp; omega) hrow (by simp; omega) (by rfl) ?_
  intro w s' hag hown hcase
  refine ⟨keptA_nil _ _ _,?_⟩
  rcases hcase with ⟨e,_⟩ | ⟨_,hb,hex⟩
  · cases e
  have hb' : s'[ob]? = some ⟨[v],0,ver⟩:=hag.box (by rw [List.getElem?_append_left hwl]; exact hbx) fun y=>hw.ne y.2
  have hcell:=isCell_len hown.arr.len
  have hcl:=cellsOf_len hown.arr.len
  have hput:=put_box (o:=0) (vs:=[w]) hb' (by simp) (by simp [hcell])
  have hset:=Agree.set s' ob ⟨splice [v] 0 [w],0,ver + 1⟩
  have hwn : ∀ n,boxOf w = some n→n = S.length + 1:=fun n hn=>by rw [hb] at hn; cases hn; simp
  simp only [hcl,hput,kB,kZ,kD,kE,xn,xi,xm,xe,xf,xg,xh,xl,xk,xj,reduceIte,reduceCtorEq,ya,xz,xr]
  refine ⟨w,⟨⟨ver + 1,?_⟩,?_,?_,?_,?_,fun e=>by simp at e⟩,?_,.inr fun n hn=>?_⟩
  · first | (rw [List.getElem?_set_self (List.getElem?_eq_some_iff.1 hb').1]; done) | (rw [List.getElem?_set_self (List.getElem?_eq_some_iff.1 hb').1]; rfl)
  · show OwnS _ lo w 1 ((zs++[n]).map _)
    rw [List.map_append]
    exact hown.agree hset fun b hb2 e=>by have:=hwn b hb2; omega
  · show ExactBox _ w 1 ((zs++[n]).map _)
    rw [List.map_append]
    exact hex.agree hset fun b hb2 e=>by have:=hwn b hb2; omega
  · intro e
    have:=hwn ob e
    omega
  · have:=hag.len
    simp at this ⊢
    omega
  · refine (((Agree.app (fun _=>False) S _).trans hag).trans hset).mono fun n hn hx=>?_
    rcases hx with (hx | hx) | hx
    · exact hx.elim
    · exact .inr hx.2
    · exact .inl hx
  · have:=hwn n hn
    omega
end
end Go.VX.Seat
end
section
set_option maxRecDepth 4000
namespace Go.VX.Seat
open Go.Proofs
section
variable {X : Cx}
theorem callClo {K : Env→St→Post3→Prop} {Q : Post3} {dst : Option Nat} {env : Env} {S : St} {ob lo : Nat} {v : AV} {zs : List Int} {n a : Int} {c : Bool} (h : On X) (hw : OutAt S ob lo v zs) (hp : zs.length≤1000000)
    (hK : ∀ v' S',OutTo S S' ob lo v v' (zs++[n])→K (env.put dst (.tup [])) S' Q) : callO X 84 [iA n,iA a,bA c,.ptr ob 0] dst [] K env S Q:=by
  refine wpF.mono (w_next_c1 h hw hp n a c) ?_
  rintro r S' ⟨rfl,v',hto⟩
  exact ⟨keptA_nil _ _ _,hK v' S' hto⟩
set_option maxHeartbeats 4000000 in
theorem w_Ways (h : On X) {st S : St} (hpre : ∃ m,S = st++m) {ob lo : Nat} {v : AV} {zs : List Int} (hw : OutAt S ob lo v zs) (hob : st.length≤ob) (hvb : ∀ b,boxOf v = some b→st.length≤b) {lo2 hi2 : Nat} {vc : AV} {C : CodV} (hC : CodAt st lo2 hi2 vc C) {i : Nat} (hi : i < C.words.length) (hn : C.words.length≤60000) (hops : C.words[i].ops.length≤400) (hp : zs.length≤1000) :
    wpF X 83 [vc,iA i,.fn 84 [] [.ptr ob 0]] S fun r S'=>r = .ret (.tup [])∧∃ v',OutTo S S' ob lo v v' (zs++waysL i C.words[i].catch_ C.words[i].ops):=by
  obtain ⟨s,bl,rfl,hs,f,hb,hbo⟩:=hC
  obtain ⟨m0',hm0⟩:=hpre
  refine wpF_go (fn:=v_words_Ways) (by rw [h.F]; rfl) ?_
  have hbS : ArrAt S lo2 hi2 bl 2 (C.words.mapIdx fun i b=>b.row (f i)):=by rw [hm0]; exact hb.mono _
  have hoS : ArrAt S lo2 hi2 (f i) 7 (C.words[i].ops.map OpV.row):=by rw [hm0]; exact (hbo i hi).mono _
  have hol : ∀ b,boxOf (f i) = some b→b < st.length:=fun b hb=>(hbo i hi).boxlt hb
  have hstS : st.length≤S.length:=by rw [hm0]; simp
  obtain ⟨b1,o1,he1,hn1',_,_⟩:=hbS.get i (by simpa using hi)
  have hn1:=fun L=>hn1' L
  simp only [List.getElem_mapIdx,WrdV.row] at hn1
  have m1:=hoS.len
  have mc:=isCell_len m1
  have mcl:=cellsOf_len m1
  simp only [List.length_map] at m1
  obtain ⟨ct,hct⟩ : ∃ x,C.words[i].catch_ = x:=⟨_,rfl⟩
  obtain ⟨ops,hopsE⟩ : ∃ x,C.words[i].ops = x:=⟨_,rfl⟩
  obtain ⟨ow,how⟩ : ∃ x,f i = x:=⟨_,rfl⟩
  rw [hct,how] at hn1
  rw [hopsE,how] at hoS
  rw [hopsE] at m1 hops ⊢
  rw [how] at mc mcl m1 hol
  rw [hct]
  simp only [v_words_Ways,he1,hn1,mc,mcl,m1,kB,kZ,kD,kE,xn,xi,xm,xe,xf,xg,xh,xl,xk,xj,reduceIte,reduceCtorEq,ya,xz,xr]
  have hw0:=hw.grow [⟨[s,iA C.params,iA C.regs,iA C.code,iA C.spill,bl],0,0⟩,⟨[ow,iA ct],0,1⟩]
  have t0:=OutTo.grow hw [⟨[s,iA C.params,iA C.regs,iA C.code,iA C.spill,bl],0,0⟩,⟨[ow,iA ct],0,1⟩]
  have hWb : (S++[⟨[s,iA C.params,iA C.regs,iA C.code,iA C.spill,bl],0,0⟩,⟨[ow,iA ct],0,1⟩] : St)[S.length + 1]? = some ⟨[ow,iA ct],0,1⟩:=by simp
  have hobl:=hw.lt
  have hwb1 : S.length + 1≠ob:=by omega
  have hwb2 : boxOf v≠some (S.length + 1):=fun e=>by have:=(hw.own.bnd _ e).2; omega
  have ho0:=hoS.mono [⟨[s,iA C.params,iA C.regs,iA C.code,iA C.spill,bl],0,0⟩,⟨[ow,iA ct],0,1⟩]
  have hsep : ∀ b,boxOf ow = some b→b≠ob∧boxOf v≠some b:=fun b hb=>⟨by have:=hol b hb; omega,fun e=>by have:=hol b hb; have:=hvb b e; omega⟩
  generalize (S++[⟨[s,iA C.params,iA C.regs,iA C.code,iA C.spill,bl],0,0⟩,⟨[ow,iA ct],0,1⟩] : St) = S0 at *
  generalize hwbE : S.length + 1 = wb at *
  have hwl:=waysL_len i ct ops
  have fx : ∀ {s' : St} {v' : AV} {p : List Int},OutTo S0 s' ob lo v v' p→(∀ k,St.at1 s' wb k = [ow,iA ct][k]?)∧ArrAt s' lo2 hi2 ow 7 (ops.map OpV.row):=fun t =>
    ⟨fun k=>at1_box (t.at_ hWb hwb1 hwb2) (by decide) k,t.arr ho0 hsep⟩
  refine anyLoop (mB m0) (fun e s'=>∃ v1 acc,e 1 = iA i∧e 2 = .fn 84 [] [.ptr ob 0]∧e 6 = .ptr wb 0∧OutTo S0 s' ob lo v v1 (zs++acc)∧acc++[(i : Int) + 1] = waysL i ct ops) ?_ ?_
  · refine loop_inv (fun n e s'=>∃ (k : Nat) (v1 : AV) (acc : List Int),k + n = ops.length∧e 1 = iA i∧e 2 = .fn 84 [] [.ptr ob 0]∧e 6 = .ptr wb 0∧e 15 = ow∧e 16 = iA ops.length∧e 17 = iA k∧OutTo S0 s' ob lo v v1 (zs++acc)∧acc++waysL i ct (ops.drop k) = waysL i ct ops) ?_ ops.length ?_
    case refine_2=>exact ⟨0,v,[],by omega,rfl,rfl,rfl,rfl,rfl,rfl,by rw [List.append_nil]; exact hw0.to,rfl⟩
    rintro n e s' ⟨k,v1,acc,hkn,k1,k2,k6,k15,k16,k17,t,hacc⟩
    obtain ⟨xw,hoA⟩:=fx t
    simp only [k1,k2,k6,k15,k16,k17,kB,kZ,kD,kE,xn,xi,xm,xe,xf,xg,xh,xl,xk,xj,reduceIte,reduceCtorEq,ya,xz,xr]
    refine condO_intro ?_ ?_<;>intro hc
    case refine_2 =>
      have hk : k = ops.length:=by have:=of_decide_eq_false hc; omega
      subst hk
      rw [List.drop_length] at hacc
      simp only [k1,k2,k6,kB,kZ,kD,kE,xn,xi,xm,xe,xf,xg,xh,xl,xk,xj,reduceIte,reduceCtorEq,ya,xz,xr]
      exact ⟨v1,acc,t,hacc⟩
    have hk : k < ops.length:=by have:=of_decide_eq_true hc; omega
    obtain ⟨b3,o3,he3,hn3',_,_⟩:=hoA.get k (by simpa using hk)
    have hn3:=hn3' []
    simp only [List.getElem_map,List.append_nil] at hn3
    rw [List.drop_eq_getElem_cons hk] at hacc
    obtain ⟨o,hoE⟩ : ∃ o,ops[k] = o:=⟨_,rfl⟩
    rw [hoE] at hacc hn3
    have hal : acc.length≤801:=by
      have:=congrArg List.length hacc
      simp at this
      omega
    simp only [waysL] at hacc
    simp only [k1,k2,k6,k15,k16,k17,he3,hn3,OpV.row,kB,kZ,kD,kE,xn,xi,xm,xe,xf,xg,xh,xl,xk,xj,reduceIte,reduceCtorEq,ya,xz,xr]
    have tg:=OutTo.grow t.out [⟨[iA o.k,iA o.d,iA o.a,iA o.b,iA o.c,iA o.n,iA o.g],0,1⟩]
    have hXb : (s'++[⟨[iA o.k,iA o.d,iA o.a,iA o.b,iA o.c,iA o.n,iA o.g],0,1⟩] : St)[s'.length]? = some ⟨[iA o.k,iA o.d,iA o.a,iA o.b,iA o.c,iA o.n,iA o.g],0,1⟩:=by simp
    have hx1 : s'.length≠ob:=by have:=t.out.lt; omega
    have hx2 : boxOf v1≠some s'.length:=fun e=>by have:=(t.out.own.bnd _ e).2; omega
    have tA:=tg.out.to
    generalize (s'++[⟨[iA o.k,iA o.d,iA o.a,iA o.b,iA o.c,iA o.n,iA o.g],0,1⟩] : St) = S1 at *
    generalize s'.length = xb at *
    have tS:=t.trans tg
    have gx : ∀ {s3 : St} {v3 : AV} {p : List Int},OutTo S1 s3 ob lo v1 v3 p→(∀ k,St.at1 s3 xb k = [iA o.k,iA o.d,iA o.a,iA o.b,iA o.c,iA o.n,iA o.g][k]?)∧St.atN s3 xb 0 7 = some o.row∧(∀ k,St.at1 s3 wb k = [ow,iA ct][k]?):=fun t3 =>
      ⟨fun k=>at1_box (t3.at_ hXb hx1 hx2) (by decide) k,by rw [atN_box (t3.at_ hXb hx1 hx2) (by decide) 0 7 (by simp)]; rfl,(fx (tS.trans t3)).1⟩
    obtain ⟨y1,y7,w1⟩:=gx tA
    try simp only [k1,k2,k6,k15,k16,k17,y1,kB,kZ,kD,kE,xn,xi,xm,xe,xf,xg,xh,xl,xk,xj,reduceIte,reduceCtorEq,ya,xz,xr]
    refine anyG (mS m0) (fun e s3=>∃ v3,e 1 = iA i∧e 2 = .fn 84 [] [.ptr ob 0]∧e 6 = .ptr wb 0∧e 7 = iA k∧e 8 = .ptr xb 0∧e 15 = ow∧e 16 = iA ops.length∧e 17 = iA k∧OutTo S1 s3 ob lo v1 v3 ((zs++acc)++(if exitW o then [o.n] else []))) ?_ ?_
    · have hcall : ∀ {K : Env→St→Post3→Prop} {Q : Post3} {dst : Option Nat} {env : Env},(∀ v' S',OutTo S1 S' ob lo v1 v' ((zs++acc)++[o.n])→K (env.put dst (.tup [])) S' Q)→callO X 84 [iA o.n,iA k,bA false,.ptr ob 0] dst [] K env S1 Q:=fun hK=>callClo h tA.out (by simp; omega) hK
      unfold exitW
      cases h21 : decide (o.k = 21)
      · cases h26 : decide (o.k = 26)
        · simp only [k1,k2,k6,k15,k16,k17,y1,h21,h26,kB,kZ,kD,kE,xn,xi,xm,xe,xf,xg,xh,xl,xk,xj,reduceIte,reduceCtorEq,ya,xz,xr]
          exact ⟨_,by simpa using tA⟩
        · simp only [k1,k2,k6,k15,k16,k17,y1,h21,h26,kB,kZ,kD,kE,xn,xi,xm,xe,xf,xg,xh,xl,xk,xj,reduceIte,reduceCtorEq,ya,xz,xr]
          refine hcall ?_
          intro v' S' t'
          simp only [k1,k2,k6,k15,k16,k17,kB,kZ,kD,kE,xn,xi,xm,xe,xf,xg,xh,xl,xk,xj,reduceIte,reduceCtorEq,ya,xz,xr]
          exact ⟨_,by simpa using t'⟩
      · simp only [k1,k2,k6,k15,k16,k17,y1,h21,kB,kZ,kD,kE,xn,xi,xm,xe,xf,xg,xh,xl,xk,xj,reduceIte,reduceCtorEq,ya,xz,xr]
        refine hcall ?_
        intro v' S' t'
        simp only [k1,k2,k6,k15,k16,k17,kB,kZ,kD,kE,xn,xi,xm,xe,xf,xg,xh,xl,xk,xj,reduceIte,reduceCtorEq,ya,xz,xr]
        exact ⟨_,by simpa using t'⟩
    clear k1 k2 k6 k15 k16 k17 y1 y7 w1
    rintro e s3 ⟨v3,k1,k2,k6,k7,k8,k15,k16,k17,t3⟩
    obtain ⟨A,hA⟩ : ∃ A,(if exitW o then [o.n] else []) = A:=⟨_,rfl⟩
    have hAl : A.length≤1:=by rw [←hA]; split<;>simp
    rw [hA] at t3 hacc
    obtain ⟨y1,y7,w1⟩:=gx t3
    simp only [OpV.row] at y7
    simp only [k1,k2,k6,k7,k8,k15,k16,k17,y7,kB,kZ,kD,kE,xn,xi,xm,xe,xf,xg,xh,xl,xk,xj,reduceIte,reduceCtorEq,ya,xz,xr]
    refine callO_same (j_words_MayTrap h o) ?_
    simp only [k1,k2,k6,k7,k8,k15,k16,k17,kB,kZ,kD,kE,xn,xi,xm,xe,xf,xg,xh,xl,xk,xj,reduceIte,reduceCtorEq,ya,xz,xr]
    refine anyG (mS m0) (fun e s4=>∃ v4,e 1 = iA i∧e 2 = .fn 84 [] [.ptr ob 0]∧e 6 = .ptr wb 0∧e 7 = iA k∧e 8 = .ptr xb 0∧e 15 = ow∧e 16 = iA ops.length∧e 17 = iA k∧OutTo S1 s4 ob lo v1 v4 (((zs++acc)++A)++(if trapsW o && decide (0≤ct) then [ct] else []))) ?_ ?_
    · cases htr : trapsW o
      · simp only [k1,k2,k6,k7,k8,k15,k16,k17,w1,htr,kB,kZ,kD,kE,xn,xi,xm,xe,xf,xg,xh,xl,xk,xj,reduceIte,reduceCtorEq,ya,xz,xr]
        exact ⟨_,by simpa using t3⟩
      · cases hge : decide (0≤ct)
        · simp only [k1,k2,k6,k7,k8,k15,k16,k17,w1,htr,hge,kB,kZ,kD,kE,xn,xi,xm,xe,xf,xg,xh,xl,xk,xj,reduceIte,reduceCtorEq,ya,xz,xr]
          exact ⟨_,by simpa using t3⟩
        · simp only [k1,k2,k6,k7,k8,k15,k16,k17,w1,htr,hge,kB,kZ,kD,kE,xn,xi,xm,xe,xf,xg,xh,xl,xk,xj,reduceIte,reduceCtorEq,ya,xz,xr]
          refine callClo h t3.out (by simp; omega) ?_
          intro v' S' t'
          simp only [k1,k2,k6,k7,k8,k15,k16,k17,kB,kZ,kD,kE,xn,xi,xm,xe,xf,xg,xh,xl,xk,xj,reduceIte,reduceCtorEq,ya,xz,xr]
          exact ⟨_,by simpa using t3.trans t'⟩
    clear k1 k2 k6 k7 k8 k15 k16 k17 y1 y7 w1
    rintro e s4 ⟨v4,k1,k2,k6,k7,k8,k15,k16,k17,t4⟩
    obtain ⟨B,hB⟩ : ∃ B,(if trapsW o && decide (0≤ct) then [ct] else []) = B:=⟨_,rfl⟩
    rw [hB] at t4 hacc
    obtain ⟨y1,y7,w1⟩:=gx t4
    have t5:=tS.trans t4
    simp only [OpV.row] at y7
    simp only [k1,k2,k6,k7,k8,k15,k16,k17,y7,kB,kZ,kD,kE,xn,xi,xm,xe,xf,xg,xh,xl,xk,xj,reduceIte,reduceCtorEq,ya,xz,xr]
    refine callO_same (j_words_Leaves h o) ?_
    cases hlv : leavesW o
    · rw [hlv] at hacc
      have hwr : IntKind.wrap .i64 ((k : Int) + 1) = ((k + 1 : Nat) : Int):=by rw [wrap_small (by omega) (by omega)]; omega
      simp only [k1,k2,k6,k7,k8,k15,k16,k17,hlv,hwr,kB,kZ,kD,kE,xn,xi,xm,xe,xf,xg,xh,xl,xk,xj,reduceIte,reduceCtorEq,ya,xz,xr]
      refine ⟨n - 1,by omega,k + 1,v4,acc++(A++B),by omega,rfl,?_,?_⟩
      · simpa using t5
      · rw [←hacc]
        simp
    · rw [hlv] at hacc
      simp only [k1,k2,k6,k7,k8,k15,k16,k17,hlv,kB,kZ,kD,kE,xn,xi,xm,xe,xf,xg,xh,xl,xk,xj,reduceIte,reduceCtorEq,ya,xz,xr]
      refine ⟨v4,?_⟩
      rw [←hacc]
      simpa using t0.trans t5
  rintro e s' ⟨v1,acc,k1,k2,k6,t,hacc⟩
  obtain ⟨xw,hoA⟩:=fx t
  have hal : acc.length≤801:=by
    have:=congrArg List.length hacc
    simp at this
    omega
  have hwr : IntKind.wrap .i64 ((i : Int) + 1) = (i : Int) + 1:=wrap_small (by omega) (by omega)
  simp only [k1,k2,k6,xw,m1,hwr,kB,kZ,kD,kE,xn,xi,xm,xe,xf,xg,xh,xl,xk,xj,reduceIte,reduceCtorEq,ya,xz,xr]
  refine callClo h t.out (by simp; omega) ?_
  intro v' S' t'
  simp only [kB,kZ,kD,kE,xn,xi,xm,xe,xf,xg,xh,xl,xk,xj,reduceIte,reduceCtorEq,ya,xz,xr]
  refine ⟨v',?_⟩
  rw [←hacc,← List.append_assoc]
  exact t0.trans (t.trans t')
end
end Go.VX.Seat
end
section
set_option maxRecDepth 4000
namespace Go.VX.Seat
open Go.Proofs
theorem putI_at (n : Int) : ∀ (l : List Int) (k : Nat) (hk : k≤l.length),(∀ j (hj : j < l.length),j < k→l[j] < n)→(∀ h : k < l.length,¬ l[k] < n)→putI l n = if ∃ h : k < l.length,l[k] = n then l else l.take k++n :: l.drop k
  | [],0,_,_,_=>by simp [putI]
  | a :: l,0,_,_,h=>by
    have h0 : ¬ a < n:=h (by simp)
    unfold putI
    rw [if_neg h0]
    by_cases e : a = n
    · rw [if_pos e,if_pos ⟨by simp,e⟩]
    · rw [if_neg e,if_neg (fun ⟨_,x⟩=>e x)]
      rfl
  | a :: l,k + 1,hk,hl,h=>by
    have ha : a < n:=hl 0 (by simp) (by omega)
    have ih:=putI_at n l k (by simpa using hk) (fun j hj hjk=>hl (j + 1) (by simpa using hj) (by omega)) (fun hk'=>h (by simpa using hk'))
    unfold putI
    rw [if_pos ha,ih]
    by_cases e : ∃ h : k < l.length,l[k] = n
    · rw [if_pos e,if_pos (let ⟨h1,h2⟩:=e; ⟨by simpa using h1,by simpa using h2⟩)]
    · rw [if_neg e,if_neg (fun ⟨h1,h2⟩=>e ⟨by simpa using h1,by simpa using h2⟩)]
      rfl
theorem putI_len (n : Int) : ∀ l : List Int,(putI l n).length≤l.length + 1
  | []=>by simp [putI]
  | a :: l=>by
    have:=putI_len n l
    unfold putI
    split
    · simp; omega
    · split<;>simp
section
variable {X : Cx}
set_option maxHeartbeats 2000000 in
theorem w_r26_put (h : On X) {S : St} {lo hi : Nat} {v : AV} {l : List Int} (hv : IntsAt S lo hi v l) (hp : l.length≤1000000) (n : Int) :
    wpF X 39 [v,iA n] S fun r S'=>∃ w m lo' hi',r = .ret w∧S' = S++m∧IntsAt S' lo' hi' w (putI l n)∧∀ b,boxOf w = some b→boxOf v = some b∨S.length≤b:=by
  refine wpF_go (fn:=v_r26_put) (by rw [h.F]; rfl) ?_
  have l1:=hv.len
  simp only [List.length_map] at l1
  rw [List.append_nil]
  simp only [v_r26_put,kB,kZ,kD,kE,xn,xi,xm,xe,xf,xg,xh,xl,xk,xj,reduceIte,reduceCtorEq,ya,xz,xr]
  refine anyLoop (mB m0) (fun e s=>∃ k : Nat,s = S∧e 0 = v∧e 1 = iA n∧e 5 = iA k∧k≤l.length∧(∀ j (hj : j < l.length),j < k→l[j] < n)∧∀ h : k < l.length,¬ l[k] < n) ?_ ?_
  · refine loop_inv (fun m e s=>∃ k : Nat,k + m = l.length∧s = S∧e 0 = v∧e 1 = iA n∧e 5 = iA k∧∀ j (hj : j < l.length),j < k→l[j] < n) ?_ l.length ?_
    case refine_2=>exact ⟨0,by omega,rfl,rfl,rfl,rfl,fun j _ hj=>absurd hj (by omega)⟩
    rintro m e s ⟨k,hkm,rfl,k0,k1,k5,hpre⟩
    cases hc : decide ((k : Int) < (l.length : Int))
    · have hk : k = l.length:=by have:=of_decide_eq_false hc; omega
      simp only [k0,k1,k5,l1,hc,kB,kZ,kD,kE,xn,xi,xm,xe,xf,xg,xh,xl,xk,xj,reduceIte,reduceCtorEq,ya,xz,xr]
      exact ⟨k,rfl,by omega,hpre,fun h=>absurd h (by omega)⟩
    have hk : k < l.length:=by have:=of_decide_eq_true hc; omega
    obtain ⟨b1,o1,he1,_,ha1,_⟩:=hv.get k (by simpa using hk)
    have p1:=ha1 [] 0 (by omega)
    simp only [List.getElem_map,Nat.add_zero,List.append_nil,List.getElem?_cons_zero] at p1
    cases hl : decide (l[k] < n)
    · simp only [k0,k1,k5,l1,hc,he1,p1,hl,kB,kZ,kD,kE,xn,xi,xm,xe,xf,xg,xh,xl,xk,xj,reduceIte,reduceCtorEq,ya,xz,xr]
      exact ⟨k,rfl,by omega,hpre,fun _=>of_decide_eq_false hl⟩
    · have hwr : IntKind.wrap .i64 ((k : Int) + 1) = ((k + 1 : Nat) : Int):=by rw [wrap_small (by omega) (by omega)]; omega
      simp only [k0,k1,k5,l1,hc,he1,p1,hl,hwr,kB,kZ,kD,kE,xn,xi,xm,xe,xf,xg,xh,xl,xk,xj,reduceIte,reduceCtorEq,ya,xz,xr]
      refine ⟨m - 1,by omega,k + 1,by omega,rfl,fun j hj hjk=>?_⟩
      by_cases hjk' : j = k
      · subst hjk'; exact of_decide_eq_true hl
      · exact hpre j hj (by omega)
  rintro e s ⟨k,rfl,k0,k1,k5,hkl,hpre,hpost⟩
  have hput:=putI_at n l k hkl hpre hpost
  simp only [k0,k1,k5,l1,kB,kZ,kD,kE,xn,xi,xm,xe,xf,xg,xh,xl,xk,xj,reduceIte,reduceCtorEq,ya,xz,xr]
  refine anyG (mS m0) (fun e s'=>s' = s∧e 0 = v∧e 1 = iA n∧e 5 = iA k∧¬ ∃ h : k < l.length,l[k] = n) ?_ ?_
  · cases hc : decide ((k : Int) < (l.length : Int))
    · have hk : k = l.length:=by have:=of_decide_eq_false hc; omega
      simp only [k0,k1,k5,l1,hc,kB,kZ,kD,kE,xn,xi,xm,xe,xf,xg,xh,xl,xk,xj,reduceIte,reduceCtorEq,ya,xz,xr]
      exact fun ⟨h1,_⟩=>by omega
    have hk : k < l.length:=by have:=of_decide_eq_true hc; omega
    obtain ⟨b1,o1,he1,_,ha1,_⟩:=hv.get k (by simpa using hk)
    have p1:=ha1 [] 0 (by omega)
    simp only [List.getElem_map,Nat.add_zero,List.append_nil,List.getElem?_cons_zero] at p1
    cases hl : decide (l[k] = n)
    · simp only [k0,k1,k5,l1,hc,he1,p1,hl,kB,kZ,kD,kE,xn,xi,xm,xe,xf,xg,xh,xl,xk,xj,reduceIte,reduceCtorEq,ya,xz,xr]
      exact fun ⟨_,h2⟩=>of_decide_eq_false hl h2
    · simp only [k0,k1,k5,l1,hc,he1,p1,hl,kB,kZ,kD,kE,xn,xi,xm,xe,xf,xg,xh,xl,xk,xj,reduceIte,reduceCtorEq,ya,xz,xr]
      rw [hput,if_pos ⟨hk,of_decide_eq_true hl⟩]
      exact ⟨v,[],lo,hi,rfl,(List.append_nil _).symm,hv,fun b hb=>.inl hb⟩
  clear k0 k1 k5
  rintro e s' ⟨rfl,k0,k1,k5,hne⟩
  rw [hput,if_neg hne]
  have hvb : ∀ b,boxOf v = some b→b < s'.length:=fun b hb=>hv.boxlt hb
  simp only [k0,k1,k5,kB,kZ,kD,kE,xn,xi,xm,xe,xf,xg,xh,xl,xk,xj,reduceIte,reduceCtorEq,ya,xz,xr]
  refine opR_pre (vx:=v) (n:=k) (by simp only [kB,kZ,kD,kE,xn,xi,xm,xe,xf,xg,xh,xl,xk,xj,reduceIte,reduceCtorEq,ya,xz,xr]) (by first | (simp only [kB,kZ,kD,kE,xn,xi,xm,xe,xf,xg,xh,xl,xk,xj,reduceIte,reduceCtorEq,ya,xz,xr]; done) | (simp only [kB,kZ,kD,kE,xn,xi,xm,xe,xf,xg,xh,xl,xk,xj,reduceIte,reduceCtorEq,ya,xz,xr]; rw [if_pos (by omega)])) (hv.mono _) (by simpa using hkl) ?_
  intro w1 hw1
  refine ⟨keptA_nil _ _ _,?_⟩
  simp only [k0,k1,k5,kB,kZ,kD,kE,xn,xi,xm,xe,xf,xg,xh,xl,xk,xj,reduceIte,reduceCtorEq,ya,xz,xr]
  refine opR_suf (vx:=v) (n:=k) (by simp only [kB,kZ,kD,kE,xn,xi,xm,xe,xf,xg,xh,xl,xk,xj,reduceIte,reduceCtorEq,ya,xz,xr]) (by first | (simp only [kB,kZ,kD,kE,xn,xi,xm,xe,xf,xg,xh,xl,xk,xj,reduceIte,reduceCtorEq,ya,xz,xr]; done) | (simp only [kB,kZ,kD,kE,xn,xi,xm,xe,xf,xg,xh,xl,xk,xj,reduceIte,reduceCtorEq,ya,xz,xr]; rw [if_pos (by omega)])) (hv.mono _) (by simpa using hkl) ?_
  intro w2 hw2 hb2
  have hrow : ArrAt (s'++[⟨[],0,0⟩,⟨[iA n],0,0⟩]) (s'.length + 1) (s'.length + 2) (.sl (s'.length + 1) 0 1 1 true) 1 [[iA n]]:=ArrAt.ofBox (mode:=0) (ver:=0) (by simp) (by decide) (by simp) rfl
  simp only [kB,kZ,kD,kE,xn,xi,xm,xe,xf,xg,xh,xl,xk,xj,reduceIte,reduceCtorEq,ya,xz,xr]
  have hw1' : ArrAt (s'++[⟨[],0,0⟩,⟨[iA n],0,0⟩]) lo hi w1 1 ((rowsI l).take k):=by
    have:=hw1.mono [⟨[iA n],0,0⟩]
    rwa [List.append_assoc] at this
  refine opR_appendF (b:=s'.length) (z:=⟨[],0,0⟩) (lo:=s'.length) (vy:=w1) (by simp only [kB,kZ,kD,kE,xn,xi,xm,xe,xf,xg,xh,xl,xk,xj,reduceIte,reduceCtorEq,ya,xz,xr]) (by simp only [kB,kZ,kD,kE,xn,xi,xm,xe,xf,xg,xh,xl,xk,xj,reduceIte,reduceCtorEq,ya,xz,xr]) (by simp) (by decide) (by omega) hw1' (by simp; omega) ?_
  intro w3 M3 hown3 hb3
  have hrow3:=hrow.mono M3
  have hw23:=hw2.mono M3
  simp only [List.append_assoc,List.cons_append,List.nil_append] at hown3 hrow3 hw23
  have hb3' : ∀ b,boxOf w3 = some b→s'.length≤b∧b≠s'.length + 1:=fun b hb=>by
    rcases hb3 b hb with e | e
    · omega
    · simp at e; omega
  simp only [kB,kZ,kD,kE,xn,xi,xm,xe,xf,xg,xh,xl,xk,xj,reduceIte,reduceCtorEq,ya,xz,xr]
  refine opR_append (vx:=w3) (vy:=.sl (s'.length + 1) 0 1 1 true) (rows2:=[[iA n]]) (lo:=s'.length) (by simp only [kB,kZ,kD,kE,xn,xi,xm,xe,xf,xg,xh,xl,xk,xj,reduceIte,reduceCtorEq,ya,xz,xr]) (by simp only [kB,kZ,kD,kE,xn,xi,xm,xe,xf,xg,xh,xl,xk,xj,reduceIte,reduceCtorEq,ya,xz,xr]) hown3 (by rw [List.length_append]; omega) hrow3 (by simp; omega) (by rfl) ?_
  intro w4 s4 hag4 hown4 _
  refine ⟨keptA_nil _ _ _,?_⟩
  have hw24:=hw23.agree hag4 (fun b hb y=>by have:=hvb b (by rw [←hb2]; exact hb); have:=(hb3' b y.2).1; omega)
  have hex4:=hag4.ext (a:=s') ⟨_,rfl⟩ (fun b hb y=>by have:=(hb3' b y.2).1; omega)
  simp only [kB,kZ,kD,kE,xn,xi,xm,xe,xf,xg,xh,xl,xk,xj,reduceIte,reduceCtorEq,ya,xz,xr]
  refine opR_append (vx:=w4) (vy:=w2) (by simp only [kB,kZ,kD,kE,xn,xi,xm,xe,xf,xg,xh,xl,xk,xj,reduceIte,reduceCtorEq,ya,xz,xr]) (by simp only [kB,kZ,kD,kE,xn,xi,xm,xe,xf,xg,xh,xl,xk,xj,reduceIte,reduceCtorEq,ya,xz,xr]) hown4 (by obtain ⟨m,rfl⟩:=hex4; simp) hw24 (by simp; omega) ?_ ?_
  · rw [List.all_eq_true]
    intro a ha
    obtain ⟨r,hr,ha⟩:=List.mem_flatten.1 ha
    obtain ⟨x,_,rfl⟩:=List.mem_map.1 (List.mem_of_mem_drop hr)
    rw [List.mem_singleton.1 ha]
    rfl
  intro w5 s5 hag5 hown5 _
  refine ⟨keptA_nil _ _ _,?_⟩
  simp only [kB,kZ,kD,kE,xn,xi,xm,xe,xf,xg,xh,xl,xk,xj,reduceIte,reduceCtorEq,ya,xz,xr]
  obtain ⟨m5,rfl⟩:=hag5.ext hex4 (fun b hb y=>by have:=(hown4.bnd b y.2).1; omega)
  refine ⟨w5,m5,s'.length,(s'++m5 : St).length,rfl,rfl,?_,fun b hb=>.inr (hown5.bnd b hb).1⟩
  have:=hown5.arr
  rw [←List.map_take,← List.map_drop,List.append_assoc] at this
  show ArrAt _ _ _ w5 1 ((l.take k++n :: l.drop k).map _)
  rw [List.map_append,List.map_cons]
  exact this
end
end Go.VX.Seat
end
section
set_option maxRecDepth 4000
namespace Go.VX.Seat
open Go.Proofs
def nextAt (C : CodV) (k : Nat) : List Int:=match C.words[k]? with
  | some w=>(waysL k w.catch_ w.ops).foldl putI []
  | none=>[]
theorem nextAt_eq {C : CodV} {k : Nat} (hk : k < C.words.length) : nextAt C k = (waysL k C.words[k].catch_ C.words[k].ops).foldl putI []:=by
  unfold nextAt
  rw [List.getElem?_eq_getElem hk]
theorem rowsI_flat (l : List Int) : (rowsI l).flatten = l.map fun n=>iA n:=by
  induction l with
  | nil=>rfl
  | cons a r ih=>simp only [List.map_cons,List.flatten_cons,ih]; rfl
section
variable {X : Cx}
set_option maxHeartbeats 2000000 in
theorem w_words_next (h : OnH X) {st : St} {lo2 hi2 : Nat} {vc : AV} {C : CodV} (hC : CodAt st lo2 hi2 vc C) (hz : chkR C = 0) {i : Nat} (hi : i < C.words.length) :
    wpF X 34 [vc,iA i] st fun r S=>∃ w m lo hi,r = .ret w∧S = st++m∧IntsAt S lo hi w (nextAt C i)∧∀ b,boxOf w = some b→st.length≤b:=by
  have hok:=chkR_ok hz
  have hn60:=hok.n60
  have hops:=(wrdsR_zero hok.wds _ (List.getElem_mem hi)).1
  have hcs:=compact_sort (waysL i C.words[i].catch_ C.words[i].ops)
  have hwl:=waysL_len i C.words[i].catch_ C.words[i].ops
  have hWays:=fun {S : St} {ob lo : Nat} (hpre : ∃ m,S = st++m) (hw : OutAt S ob lo (.sc (.slice none 0 0)) []) (hob : st.length≤ob)=>w_Ways h.toOn hpre hw hob (fun b hb=>by cases hb) hC hi hn60.1 hops (by simp)
  rw [nextAt_eq hi]
  obtain ⟨s,bl,rfl,hs,hb⟩:=hC
  refine wpF_go (fn:=v_words_next) (by rw [h.F]; rfl) ?_
  simp only [v_words_next,kB,kZ,kD,kE,xn,xi,xm,xe,xf,xg,xh,xl,xk,xj,reduceIte,reduceCtorEq,ya,xz,xr]
  have hO : OutAt (st++[⟨[s,iA C.params,iA C.regs,iA C.code,iA C.spill,bl],0,0⟩,⟨[.sc (.slice none 0 0)],0,0⟩]) (st.length + 1) (st.length + 2) (.sc (.slice none 0 0)) []:={
    box:=⟨0,by simp⟩
    own:=own_nil _ _ _
    ex:=fun e=>absurd rfl e
    ne:=by intro e; cases e
    lo:=by simp
    nl:=fun _=>rfl }
  refine wpF.mono (hWays ⟨_,rfl⟩ hO (by omega)) ?_
  rintro r S1 ⟨rfl,v1,t⟩
  refine ⟨keptA_nil _ _ _,?_⟩
  rw [List.nil_append] at t
  have hex:=t.ag.ext (a:=st) ⟨_,rfl⟩ (fun b hb y=>by
    rcases y with y | y
    · omega
    · cases y)
  obtain ⟨zs,hzs⟩ : ∃ zs,waysL i C.words[i].catch_ C.words[i].ops = zs:=⟨_,rfl⟩
  rw [hzs] at t hcs hwl ⊢
  have ho:=t.out
  clear t hWays
  obtain ⟨ver,hbx⟩:=ho.box
  have hne:=ho.ne
  have x1:=at1_box hbx (by decide) 0
  simp only [List.getElem?_cons_zero] at x1
  generalize hob : st.length + 1 = ob at *
  simp only [x1,kB,kZ,kD,kE,xn,xi,xm,xe,xf,xg,xh,xl,xk,xj,reduceIte,reduceCtorEq,ya,xz,xr]
  by_cases hz0 : zs = []
  · have hv1:=ho.nl hz0
    subst hv1 hz0
    refine callO_same (.hook (h.srt _ _ _ _ _ (.inl ⟨rfl,rfl,rfl,rfl⟩))) ?_
    simp only [x1,kB,kZ,kD,kE,xn,xi,xm,xe,xf,xg,xh,xl,xk,xj,reduceIte,reduceCtorEq,ya,xz,xr]
    refine callO_same (.hook (h.srt _ _ _ _ _ (.inr (.inr (.inl ⟨rfl,rfl,rfl,rfl⟩))))) ?_
    simp only [kB,kZ,kD,kE,xn,xi,xm,xe,xf,xg,xh,xl,xk,xj,reduceIte,reduceCtorEq,ya,xz,xr]
    obtain ⟨m,rfl⟩:=hex
    exact ⟨_,m,0,0,rfl,rfl,emptyArr _ _ _ _,fun b hb=>by cases hb⟩
  obtain ⟨b,full,ver2,hv1,hb2⟩:=ho.ex (by simpa using hz0)
  simp only [List.length_map] at hv1
  rw [rowsI_flat] at hb2
  subst hv1
  have hbb:=ho.own.bnd b rfl
  have hbo : b≠ob:=fun e=>hne (by rw [←e]; rfl)
  have hlen : (zs.length : Int)≤1000000000:=by omega
  refine callO_ret (.hook (h.srt _ _ _ _ _ (.inr (.inl ⟨rfl,b,full,ver2,zs,hz0,hlen,rfl,hb2,rfl,rfl⟩)))) (keptA_nil _ _ _) ?_
  have hbl:=(List.getElem?_eq_some_iff.1 hb2).1
  have ag2:=Agree.set S1 b ⟨(sortI zs).map fun n=>iA n,0,ver2 + 1⟩
  have hb3 : (S1.set b ⟨(sortI zs).map fun n=>iA n,0,ver2 + 1⟩)[b]? = some ⟨(sortI zs).map fun n=>iA n,0,ver2 + 1⟩:=List.getElem?_set_self hbl
  have hbx3:=ag2.box hbx (fun e=>hbo e.symm)
  have hex3:=ag2.ext hex (fun c hc e=>by omega)
  have hsl : (sortI zs).length = zs.length:=by simp [sortI]
  have hs0 : sortI zs≠[]:=fun e=>hz0 (List.length_eq_zero_iff.1 (by rw [←hsl,e]; rfl))
  generalize (S1.set b ⟨(sortI zs).map fun n=>iA n,0,ver2 + 1⟩ : St) = S3 at *
  have x3:=at1_box hbx3 (by decide) 0
  simp only [List.getElem?_cons_zero] at x3
  rw [←hsl] at hlen x3
  simp only [x3,kB,kZ,kD,kE,xn,xi,xm,xe,xf,xg,xh,xl,xk,xj,reduceIte,reduceCtorEq,ya,xz,xr]
  refine callO_ret (.hook (h.srt _ _ _ _ _ (.inr (.inr (.inr ⟨rfl,b,full,ver2 + 1,sortI zs,hs0,hlen,rfl,hb3,rfl,rfl⟩))))) (keptA_nil _ _ _) ?_
  have hbl3:=(List.getElem?_eq_some_iff.1 hb3).1
  have hcl:=compact_le (sortI zs)
  obtain ⟨cz,hcz⟩ : ∃ cz,Lib.compact (sortI zs) = cz:=⟨_,rfl⟩
  rw [hcz] at hcs hcl ⊢
  have ag4:=Agree.set S3 b ⟨(cz++List.replicate ((sortI zs).length - cz.length) 0).map fun n=>iA n,0,ver2 + 1 + 1⟩
  have hb4 : (S3.set b ⟨(cz++List.replicate ((sortI zs).length - cz.length) 0).map fun n=>iA n,0,ver2 + 1 + 1⟩)[b]? = some ⟨(rowsI (cz++List.replicate ((sortI zs).length - cz.length) 0)).flatten,0,ver2 + 1 + 1⟩:=by
    rw [List.getElem?_set_self hbl3,rowsI_flat]
  have hex4:=ag4.ext hex3 (fun c hc e=>by omega)
  generalize (S3.set b ⟨(cz++List.replicate ((sortI zs).length - cz.length) 0).map fun n=>iA n,0,ver2 + 1 + 1⟩ : St) = S4 at *
  have harr:=ArrAt.ofBox (full:=false) (n:=(cz++List.replicate ((sortI zs).length - cz.length) 0).length) hb4 (by decide) (fun r hr=>by obtain ⟨n,_,rfl⟩:=List.mem_map.1 hr; rfl) (by simp)
  obtain ⟨w,hw,ha⟩:=harr.pre cz.length (by simp)
  simp only [kB,kZ,kD,kE,xn,xi,xm,xe,xf,xg,xh,xl,xk,xj,reduceIte,reduceCtorEq,ya,xz,xr]
  obtain ⟨m,rfl⟩:=hex4
  refine ⟨_,m,b,b + 1,rfl,rfl,?_,fun c hc=>by cases hc; omega⟩
  have hwe : w = .sl b 0 cz.length 1 false:=by
    unfold preA at hw
    simp at hw
    rw [←hw]
  rw [hwe,← List.map_take,List.take_left] at ha
  rw [←hcs]
  exact ha
theorem w_words_Next (h : OnH X) {st : St} (hg : GB st) {lo2 hi2 : Nat} {vc : AV} {C : CodV} (hC : CodAt st lo2 hi2 vc C) (n : Int) :
    wpF X 11 [vc,iA n] st fun r S=>∃ w m e,r = .ret (.tup [w,iA e])∧S = st++m∧(chkR C≠0→e = chkR C∧lenA w = some 0)∧(chkR C = 0→regOkA C.words.length n = false→e = 2∧lenA w = some 0) ∧
      (chkR C = 0→regOkA C.words.length n = true→e = 0∧∃ lo hi,IntsAt S lo hi w (nextAt C n.toNat)):=by
  refine wpF_go (fn:=v_words_Next) (by rw [h.F]; rfl) ?_
  have hm:=fun L=>hC.mono L
  obtain ⟨s,bl,rfl,hs,hb⟩:=hC
  have l2 : lenA bl = some C.words.length:=by
    obtain ⟨f,hb,_⟩:=hb
    have:=hb.len
    simpa using this
  simp only [v_words_Next,kB,kZ,kD,kE,xn,xi,xm,xe,xf,xg,xh,xl,xk,xj,reduceIte,reduceCtorEq,ya,xz,xr]
  have j1:=j_words_Check h (hg.app [⟨[s,iA C.params,iA C.regs,iA C.code,iA C.spill,bl],0,0⟩]) (hm _)
  rw [chk_eq] at j1
  refine callO_same j1 ?_
  simp only [kB,kZ,kD,kE,xn,xi,xm,xe,xf,xg,xh,xl,xk,xj,reduceIte,reduceCtorEq,ya,xz,xr]
  cases hE : decide (chkR C≠0)
  case true =>
    have hne:=of_decide_eq_true hE
    simp only [hE,kB,kZ,kD,kE,xn,xi,xm,xe,xf,xg,xh,xl,xk,xj,reduceIte,reduceCtorEq,ya,xz,xr]
    exact ⟨.sc (.slice none 0 0),_,chkR C,rfl,rfl,fun _=>⟨rfl,rfl⟩,fun e=>absurd e hne,fun e=>absurd e hne⟩
  have hz : chkR C = 0:=Classical.byContradiction fun e=>of_decide_eq_false hE e
  simp only [hE,l2,kB,kZ,kD,kE,xn,xi,xm,xe,xf,xg,xh,xl,xk,xj,reduceIte,reduceCtorEq,ya,xz,xr]
  refine callO_same (j_words_within h.toOn n C.words.length) ?_
  cases hr : regOkA C.words.length n
  · simp only [hr,kB,kZ,kD,kE,xn,xi,xm,xe,xf,xg,xh,xl,xk,xj,reduceIte,reduceCtorEq,ya,xz,xr]
    exact ⟨.sc (.slice none 0 0),_,2,rfl,rfl,fun e=>absurd hz e,fun _ _=>⟨rfl,rfl⟩,fun _ e=>by cases e⟩
  · have hr':=hr
    unfold regOkA at hr'
    simp only [Bool.and_eq_true,decide_eq_true_eq] at hr'
    obtain ⟨k,rfl⟩ : ∃ k : Nat,n = k:=⟨n.toNat,by omega⟩
    simp only [hr,kB,kZ,kD,kE,xn,xi,xm,xe,xf,xg,xh,xl,xk,xj,reduceIte,reduceCtorEq,ya,xz,xr]
    refine wpF.mono (w_words_next h (hm _) hz (i:=k) (by omega)) ?_
    rintro r S ⟨w,m,lo,hi,rfl,rfl,ha,_⟩
    refine ⟨keptA_nil _ _ _,?_⟩
    simp only [kB,kZ,kD,kE,xn,xi,xm,xe,xf,xg,xh,xl,xk,xj,reduceIte,reduceCtorEq,ya,xz,xr]
    rw [List.append_assoc] at ha
    exact ⟨w,_,0,rfl,rfl,fun e=>absurd hz e,fun _ e=>(by cases e),fun _ _=>⟨rfl,lo,hi,ha⟩⟩
end
end Go.VX.Seat
end
section
set_option maxRecDepth 4000
namespace Go.VX.Seat
open Go.Proofs
theorem leavesR_eq (o : OpV) : leavesR o = leavesW o:=by
  unfold leavesR leavesW ownW
  rw [Bool.and_comm]
  congr 1
  rw [Bool.eq_iff_iff]
  simp
  omega
section
variable {X : Cx}
structure IF (k : Nat) (S : St) (lo hi : Nat) (v : AV) (l : List Int) : Prop where
  a : IntsAt S lo hi v l
  f : ∀ b,boxOf v = some b→k≤b
theorem IF.mono {k : Nat} {S : St} {lo hi : Nat} {v : AV} {l : List Int} (h : IF k S lo hi v l) (m : St) : IF k (S++m) lo hi v l:=⟨ArrAt.mono h.a m,h.f⟩
theorem callPut {K : Env→St→Post3→Prop} {Q : Post3} {dst : Option Nat} {env : Env} {k : Nat} {S : St} {lo hi : Nat} {v : AV} {acc : List Int} {n : Int} (h : On X) (hv : IF k S lo hi v (acc.foldl putI [])) (hk : k≤S.length) (hp : (acc.foldl putI []).length≤1000000)
    (hK : ∀ w m lo' hi',IF k (S++m) lo' hi' w ((acc++[n]).foldl putI [])→K (env.put dst w) (S++m) Q) : callO X 39 [v,iA n] dst [] K env S Q:=by
  refine wpF.mono (w_r26_put h hv.a hp n) ?_
  rintro r S' ⟨w,m,lo',hi',rfl,rfl,ha,hfr⟩
  refine ⟨keptA_nil _ _ _,hK w m lo' hi' ⟨?_,fun b hb=>?_⟩⟩
  · rw [List.foldl_append]
    exact ha
  · rcases hfr b hb with e | e
    · exact hv.f b e
    · omega
theorem fold_len : ∀ (l acc : List Int),(l.foldl putI acc).length≤l.length + acc.length
  | [],acc=>by simp
  | a :: l,acc=>by
    have h1:=fold_len l (putI acc a)
    have h2:=putI_len a acc
    simp only [List.foldl_cons,List.length_cons]
    omega
set_option maxHeartbeats 4000000 in
theorem w_r26_Next (h : On X) {st : St} {lo2 hi2 : Nat} {vc : AV} {C : CodV} (hC : CodAt st lo2 hi2 vc C) (hz : chkR C = 0) {i : Nat} (hi : i < C.words.length) :
    wpF X 18 [vc,iA i] st fun r S=>∃ w m lo hi,r = .ret w∧S = st++m∧IntsAt S lo hi w (nextAt C i)∧∀ b,boxOf w = some b→st.length≤b:=by
  have hok:=chkR_ok hz
  have hn60:=hok.n60.1
  have hops:=(wrdsR_zero hok.wds _ (List.getElem_mem hi)).1
  have hwl:=waysL_len i C.words[i].catch_ C.words[i].ops
  rw [nextAt_eq hi]
  obtain ⟨s,bl,rfl,hs,f,hb,hbo⟩:=hC
  refine wpF_go (fn:=v_r26_Next) (by rw [h.F]; rfl) ?_
  obtain ⟨b1,o1,he1,hn1,_,_⟩:=hb.get i (by simpa using hi)
  simp only [List.getElem_mapIdx,WrdV.row] at hn1
  have hoS:=hbo i hi
  have m1:=hoS.len
  have mc:=isCell_len m1
  have mcl:=cellsOf_len m1
  simp only [List.length_map] at m1
  obtain ⟨ct,hct⟩ : ∃ x,C.words[i].catch_ = x:=⟨_,rfl⟩
  obtain ⟨ops,hopsE⟩ : ∃ x,C.words[i].ops = x:=⟨_,rfl⟩
  obtain ⟨ow,how⟩ : ∃ x,f i = x:=⟨_,rfl⟩
  rw [hct,how] at hn1
  rw [hopsE,how] at hoS
  rw [hopsE] at m1 hops
  rw [hct,hopsE] at hwl ⊢
  rw [how] at mc mcl m1
  simp only [v_r26_Next,he1,hn1,mc,mcl,m1,kB,kZ,kD,kE,xn,xi,xm,xe,xf,xg,xh,xl,xk,xj,reduceIte,reduceCtorEq,ya,xz,xr]
  have hWb : BoxAt (st++[⟨[s,iA C.params,iA C.regs,iA C.code,iA C.spill,bl],0,0⟩,⟨[ow,iA ct],0,1⟩]) (st.length + 1) [ow,iA ct]:=BoxAt.of (m:=0) (v:=1) (by simp) (by decide)
  have ho0:=hoS.mono [⟨[s,iA C.params,iA C.regs,iA C.code,iA C.spill,bl],0,0⟩,⟨[ow,iA ct],0,1⟩]
  have hpre : ∃ m,(st++[⟨[s,iA C.params,iA C.regs,iA C.code,iA C.spill,bl],0,0⟩,⟨[ow,iA ct],0,1⟩] : St) = st++m:=⟨_,rfl⟩
  generalize (st++[⟨[s,iA C.params,iA C.regs,iA C.code,iA C.spill,bl],0,0⟩,⟨[ow,iA ct],0,1⟩] : St) = S0 at *
  generalize st.length + 1 = wb at *
  have x1:=hWb.at1
  have hend : ∀ {w : AV} {M : St} {lo hi : Nat} {l : List Int},IF st.length (S0++M) lo hi w l→∃ w' m lo hi,w = w'∧S0++M = st++m∧IntsAt (S0++M) lo hi w' l∧∀ b,boxOf w' = some b→st.length≤b:=fun {w M lo hi l} ha=>let ⟨m,e⟩:=hpre; ⟨w,m++M,lo,hi,rfl,by rw [e,List.append_assoc],ha.a,ha.f⟩
  have hSl : st.length≤S0.length:=by obtain ⟨m,e⟩:=hpre; rw [e]; simp
  refine anyLoop (mB m0) (fun e s'=>∃ v M acc lo hi,s' = S0++M∧e 1 = iA i∧e 5 = v∧IF st.length s' lo hi v (acc.foldl putI [])∧acc++[(i : Int) + 1] = waysL i ct ops) ?_ ?_
  · refine loop_inv (fun n e s'=>∃ (k : Nat) (v : AV) (M : St) (acc : List Int) (lo hi : Nat),k + n = ops.length∧s' = S0++M∧e 1 = iA i∧e 5 = v∧e 6 = .ptr wb 0∧e 7 = iA k∧IF st.length s' lo hi v (acc.foldl putI [])∧acc++waysL i ct (ops.drop k) = waysL i ct ops) ?_ ops.length ?_
    case refine_2=>exact ⟨0,_,[],[],0,0,by omega,(List.append_nil _).symm,rfl,rfl,rfl,rfl,⟨emptyArr _ _ _ _,fun b hb=>by cases hb⟩,rfl⟩
    rintro n e s' ⟨k,v,M,acc,lo,hi',hkn,rfl,k1,k5,k6,k7,hv,hacc⟩
    simp only [k1,k5,k6,k7,x1,m1,kB,kZ,kD,kE,xn,xi,xm,xe,xf,xg,xh,xl,xk,xj,reduceIte,reduceCtorEq,ya,xz,xr]
    refine condO_intro ?_ ?_<;>intro hc
    case refine_2 =>
      have hk : k = ops.length:=by have:=of_decide_eq_false hc; omega
      subst hk
      rw [List.drop_length] at hacc
      simp only [k1,k5,kB,kZ,kD,kE,xn,xi,xm,xe,xf,xg,xh,xl,xk,xj,reduceIte,reduceCtorEq,ya,xz,xr]
      exact ⟨v,M,acc,lo,hi',rfl,rfl,hv,hacc⟩
    have hk : k < ops.length:=by have:=of_decide_eq_true hc; omega
    obtain ⟨b3,o3,he3,hn3',_,_⟩:=(ho0.mono M).get k (by simpa using hk)
    have hn3:=hn3' []
    simp only [List.getElem_map,List.append_nil] at hn3
    rw [List.drop_eq_getElem_cons hk] at hacc
    obtain ⟨o,hoE⟩ : ∃ o,ops[k] = o:=⟨_,rfl⟩
    rw [hoE] at hacc hn3
    have hal : acc.length≤801:=by
      have:=congrArg List.length hacc
      simp at this
      omega
    have hfl:=fold_len acc []
    simp only [waysL] at hacc
    simp only [List.length_nil] at hfl
    simp only [k1,k5,k6,k7,x1,he3,hn3,OpV.row,kB,kZ,kD,kE,xn,xi,xm,xe,xf,xg,xh,xl,xk,xj,reduceIte,reduceCtorEq,ya,xz,xr]
    have hXb : BoxAt (S0++(M++[⟨[iA o.k,iA o.d,iA o.a,iA o.b,iA o.c,iA o.n,iA o.g],0,1⟩])) (S0.length + M.length) [iA o.k,iA o.d,iA o.a,iA o.b,iA o.c,iA o.n,iA o.g]:=BoxAt.of (m:=0) (v:=1) (by rw [←List.append_assoc,← List.length_append]; simp) (by decide)
    have hv1:=hv.mono [⟨[iA o.k,iA o.d,iA o.a,iA o.b,iA o.c,iA o.n,iA o.g],0,1⟩]
    rw [List.append_assoc] at hv1
    generalize (M++[⟨[iA o.k,iA o.d,iA o.a,iA o.b,iA o.c,iA o.n,iA o.g],0,1⟩] : St) = M1 at *
    generalize S0.length + M.length = xb at *
    have y1 : ∀ L k,St.at1 (S0++(M1++L)) xb k = [iA o.k,iA o.d,iA o.a,iA o.b,iA o.c,iA o.n,iA o.g][k]?:=fun L k=>by rw [←List.append_assoc]; exact hXb.at1 L k
    have y7 : ∀ L,St.atN (S0++(M1++L)) xb 0 7 = some [iA o.k,iA o.d,iA o.a,iA o.b,iA o.c,iA o.n,iA o.g]:=fun L=>by rw [←List.append_assoc]; exact hXb.atN L 0 7 (by simp)
    have y10:=y1 []
    have y70:=y7 []
    rw [List.append_nil] at y10 y70
    refine anyG (mS m0) (fun e s3=>∃ v2 M2 lo hi,s3 = S0++(M1++M2)∧e 1 = iA i∧e 5 = v2∧e 6 = .ptr wb 0∧e 7 = iA k∧e 8 = .ptr xb 0∧IF st.length s3 lo hi v2 ((acc++(if exitW o then [o.n] else [])).foldl putI [])) ?_ ?_
    · unfold exitW
      cases h21 : decide (o.k = 21)
      · cases h26 : decide (o.k = 26)
        · simp only [k1,k5,k6,k7,y10,h21,h26,kB,kZ,kD,kE,xn,xi,xm,xe,xf,xg,xh,xl,xk,xj,reduceIte,reduceCtorEq,ya,xz,xr]
          exact ⟨v,[],lo,hi',by rw [List.append_nil],rfl,by simpa using hv1⟩
        · simp only [k1,k5,k6,k7,y10,h21,h26,kB,kZ,kD,kE,xn,xi,xm,xe,xf,xg,xh,xl,xk,xj,reduceIte,reduceCtorEq,ya,xz,xr]
          refine callPut h hv1 (by simp; omega) (by omega) ?_
          intro w m lo3 hi3 ha
          simp only [k1,k5,k6,k7,kB,kZ,kD,kE,xn,xi,xm,xe,xf,xg,xh,xl,xk,xj,reduceIte,reduceCtorEq,ya,xz,xr]
          rw [List.append_assoc] at ha
          exact ⟨w,m,lo3,hi3,rfl,rfl,by simpa using ha⟩
      · simp only [k1,k5,k6,k7,y10,h21,kB,kZ,kD,kE,xn,xi,xm,xe,xf,xg,xh,xl,xk,xj,reduceIte,reduceCtorEq,ya,xz,xr]
        refine callPut h hv1 (by simp; omega) (by omega) ?_
        intro w m lo3 hi3 ha
        simp only [k1,k5,k6,k7,kB,kZ,kD,kE,xn,xi,xm,xe,xf,xg,xh,xl,xk,xj,reduceIte,reduceCtorEq,ya,xz,xr]
        rw [List.append_assoc] at ha
        exact ⟨w,m,lo3,hi3,rfl,rfl,by simpa using ha⟩
    clear k1 k5 k6 k7 y10 y70 hv1
    rintro e s3 ⟨v2,M2,lo3,hi3,rfl,k1,k5,k6,k7,k8,hv2⟩
    obtain ⟨A,hA⟩ : ∃ A,(if exitW o then [o.n] else []) = A:=⟨_,rfl⟩
    have hAl : A.length≤1:=by rw [←hA]; split<;>simp
    rw [hA] at hv2 hacc
    have hfl2:=fold_len (acc++A) []
    simp only [List.length_append,List.length_nil] at hfl2
    simp only [k1,k5,k6,k7,k8,y7,kB,kZ,kD,kE,xn,xi,xm,xe,xf,xg,xh,xl,xk,xj,reduceIte,reduceCtorEq,ya,xz,xr]
    refine callO_same (j_r26_Traps h o) ?_
    simp only [k1,k5,k6,k7,k8,kB,kZ,kD,kE,xn,xi,xm,xe,xf,xg,xh,xl,xk,xj,reduceIte,reduceCtorEq,ya,xz,xr]
    refine anyG (mS m0) (fun e s4=>∃ v4 M4 lo hi,s4 = S0++(M1++M4)∧e 1 = iA i∧e 5 = v4∧e 6 = .ptr wb 0∧e 7 = iA k∧e 8 = .ptr xb 0∧IF st.length s4 lo hi v4 (((acc++A)++(if trapsW o && decide (0≤ct) then [ct] else [])).foldl putI [])) ?_ ?_
    · cases htr : trapsW o
      · simp only [k1,k5,k6,k7,k8,x1,htr,kB,kZ,kD,kE,xn,xi,xm,xe,xf,xg,xh,xl,xk,xj,reduceIte,reduceCtorEq,ya,xz,xr]
        exact ⟨v2,M2,lo3,hi3,rfl,rfl,by simpa using hv2⟩
      · cases hge : decide (0≤ct)
        · simp only [k1,k5,k6,k7,k8,x1,htr,hge,kB,kZ,kD,kE,xn,xi,xm,xe,xf,xg,xh,xl,xk,xj,reduceIte,reduceCtorEq,ya,xz,xr]
          exact ⟨v2,M2,lo3,hi3,rfl,rfl,by simpa using hv2⟩
        · simp only [k1,k5,k6,k7,k8,x1,htr,hge,kB,kZ,kD,kE,xn,xi,xm,xe,xf,xg,xh,xl,xk,xj,reduceIte,reduceCtorEq,ya,xz,xr]
          refine callPut h hv2 (by simp; omega) (by omega) ?_
          intro w m lo4 hi4 ha
          simp only [k1,k5,k6,k7,k8,kB,kZ,kD,kE,xn,xi,xm,xe,xf,xg,xh,xl,xk,xj,reduceIte,reduceCtorEq,ya,xz,xr]
          rw [List.append_assoc,List.append_assoc] at ha
          exact ⟨w,M2++m,lo4,hi4,rfl,rfl,by simpa using ha⟩
    clear k1 k5 k6 k7 k8 hv2
    rintro e s4 ⟨v4,M4,lo4,hi4,rfl,k1,k5,k6,k7,k8,hv4⟩
    obtain ⟨B,hB⟩ : ∃ B,(if trapsW o && decide (0≤ct) then [ct] else []) = B:=⟨_,rfl⟩
    rw [hB] at hv4 hacc
    have j1:=fun S=>j_r26_Leaves (st:=S) h o
    rw [leavesR_eq] at j1
    simp only [OpV.row] at j1
    simp only [k1,k5,k6,k7,k8,y7,kB,kZ,kD,kE,xn,xi,xm,xe,xf,xg,xh,xl,xk,xj,reduceIte,reduceCtorEq,ya,xz,xr]
    refine callO_same (j1 _) ?_
    cases hlv : leavesW o
    · rw [hlv] at hacc
      have hwr : IntKind.wrap .i64 ((k : Int) + 1) = ((k + 1 : Nat) : Int):=by rw [wrap_small (by omega) (by omega)]; omega
      simp only [k1,k5,k6,k7,k8,hlv,hwr,kB,kZ,kD,kE,xn,xi,xm,xe,xf,xg,xh,xl,xk,xj,reduceIte,reduceCtorEq,ya,xz,xr]
      refine ⟨n - 1,by omega,k + 1,v4,M1++M4,acc++(A++B),lo4,hi4,by omega,rfl,rfl,rfl,?_,?_⟩
      · rw [←List.append_assoc acc]; exact hv4
      · rw [←hacc]
        simp
    · rw [hlv] at hacc
      simp only [k1,k5,k6,k7,k8,hlv,kB,kZ,kD,kE,xn,xi,xm,xe,xf,xg,xh,xl,xk,xj,reduceIte,reduceCtorEq,ya,xz,xr]
      have e1 : (acc++A)++B = waysL i ct ops:=by rw [←hacc]; simp
      rw [e1] at hv4
      exact hend hv4
  rintro e s' ⟨v,M,acc,lo,hi',rfl,k1,k5,hv,hacc⟩
  have hal : acc.length≤801:=by
    have:=congrArg List.length hacc
    simp at this
    omega
  have hfl:=fold_len acc []
  simp only [List.length_nil] at hfl
  have hwr : IntKind.wrap .i64 ((i : Int) + 1) = (i : Int) + 1:=wrap_small (by omega) (by omega)
  simp only [k1,k5,hwr,kB,kZ,kD,kE,xn,xi,xm,xe,xf,xg,xh,xl,xk,xj,reduceIte,reduceCtorEq,ya,xz,xr]
  refine callPut h hv (by simp; omega) (by omega) ?_
  intro w m lo' hi'' ha
  rw [hacc] at ha
  simp only [kB,kZ,kD,kE,xn,xi,xm,xe,xf,xg,xh,xl,xk,xj,reduceIte,reduceCtorEq,ya,xz,xr]
  rw [List.append_assoc] at ha
  exact hend ha
end
end Go.VX.Seat
end
section
set_option maxRecDepth 4000
namespace Go.VX.Seat
open Go.Proofs
def emptyW (l : List WrdV) : Nat:=(l.filter fun w=>decide ((w.ops.length : Int) = 0)).length
theorem emptyW_take {l : List WrdV} {i : Nat} (hi : i < l.length) : emptyW (l.take (i + 1)) = emptyW (l.take i) + if decide ((l[i].ops.length : Int) = 0) then 1 else 0:=by
  unfold emptyW
  rw [←List.take_append_getElem hi,List.filter_append,List.length_append]
  congr 1
  cases h : decide ((l[i].ops.length : Int) = 0)<;>simp only [List.filter_cons,List.filter_nil,h,Bool.false_eq_true,if_false,if_true,List.length_nil,List.length_cons]
theorem emptyW_le (l : List WrdV) : emptyW l≤l.length:=List.length_filter_le _ _
section
variable {X : Cx}
set_option maxHeartbeats 2000000 in
theorem w_words_Density (h : OnH X) {st : St} (hg : GB st) {lo2 hi2 : Nat} {vc : AV} {C : CodV} (hC : CodAt st lo2 hi2 vc C) :
    wpF X 13 [vc] st fun r S=>(∃ m,S = st++m)∧(chkR C≠0→r = .ret (.tup [iA 0,iA 0,iA (chkR C)]))∧(chkR C = 0→r = .ret (.tup [iA (totW C.words : Int),iA (emptyW C.words : Int),iA 0])):=by
  refine wpF_go (fn:=v_words_Density) (by rw [h.F]; rfl) ?_
  have hm:=fun L=>hC.mono L
  obtain ⟨s,bl,rfl,hs,f,hb,hbo⟩:=hC
  have l2 : lenA bl = some C.words.length:=by
    have:=hb.len
    simpa using this
  simp only [v_words_Density,kB,kZ,kD,kE,xn,xi,xm,xe,xf,xg,xh,xl,xk,xj,reduceIte,reduceCtorEq,ya,xz,xr]
  have j1:=j_words_Check h (hg.app [⟨[s,iA C.params,iA C.regs,iA C.code,iA C.spill,bl],0,0⟩]) (hm _)
  rw [chk_eq] at j1
  refine callO_same j1 ?_
  simp only [kB,kZ,kD,kE,xn,xi,xm,xe,xf,xg,xh,xl,xk,xj,reduceIte,reduceCtorEq,ya,xz,xr]
  cases hE : decide (chkR C≠0)
  case true =>
    have hne:=of_decide_eq_true hE
    simp only [hE,kB,kZ,kD,kE,xn,xi,xm,xe,xf,xg,xh,xl,xk,xj,reduceIte,reduceCtorEq,ya,xz,xr]
    exact ⟨⟨_,rfl⟩,fun _=>(by first | trivial | rfl),fun e=>absurd e hne⟩
  have hz : chkR C = 0:=Classical.byContradiction fun e=>of_decide_eq_false hE e
  have hok:=chkR_ok hz
  have htl:=hok.tot
  have hn60:=hok.n60
  simp only [hE,l2,kB,kZ,kD,kE,xn,xi,xm,xe,xf,xg,xh,xl,xk,xj,reduceIte,reduceCtorEq,ya,xz,xr]
  refine loop_inv (fun n e s'=>∃ (i : Nat) (M : St),i + n = C.words.length∧s' = st++M∧e 6 = iA (totW (C.words.take i) : Int)∧e 7 = iA (emptyW (C.words.take i) : Int)∧e 16 = bl∧e 17 = iA C.words.length∧e 18 = iA i) ?_ C.words.length ?_
  case refine_2=>exact ⟨0,_,by omega,rfl,rfl,rfl,rfl,rfl,rfl⟩
  rintro n e s' ⟨i,M,hin,rfl,k6,k7,k16,k17,k18⟩
  simp only [k6,k7,k16,k17,k18,kB,kZ,kD,kE,xn,xi,xm,xe,xf,xg,xh,xl,xk,xj,reduceIte,reduceCtorEq,ya,xz,xr]
  refine condO_intro ?_ ?_<;>intro hc
  · have hil : i < C.words.length:=by have:=of_decide_eq_true hc; omega
    obtain ⟨b1,o1,he1,hn1',_,_⟩:=(hb.mono M).get i (by simpa using hil)
    have hn1:=hn1' []
    simp only [List.getElem_mapIdx,WrdV.row,List.append_nil] at hn1
    have m1:=(hbo i hil).len
    have mc:=isCell_len m1
    have mcl:=cellsOf_len m1
    simp only [List.length_map] at m1
    have htk:=totW_take hil
    have htl2:=totW_le C.words (i + 1)
    have het:=emptyW_take hil
    have hel:=emptyW_le (C.words.take i)
    simp only [List.length_take] at hel
    have hwr : IntKind.wrap .i64 ((i : Int) + 1) = ((i + 1 : Nat) : Int):=by rw [wrap_small (by omega) (by omega)]; omega
    have hwt : IntKind.wrap .i64 ((totW (C.words.take i) : Int) + (C.words[i].ops.length : Int)) = (totW (C.words.take (i + 1)) : Int):=by rw [wrap_small (by omega) (by omega)]; omega
    cases hz0 : decide ((C.words[i].ops.length : Int) = 0)
    · rw [hz0] at het
      simp only [Bool.false_eq_true,if_false,Nat.add_zero] at het
      simp only [k6,k7,k16,k17,k18,he1,hn1,mc,mcl,m1,hwr,hwt,hz0,kB,kZ,kD,kE,xn,xi,xm,xe,xf,xg,xh,xl,xk,xj,reduceIte,reduceCtorEq,ya,xz,xr]
      exact ⟨n - 1,by omega,i + 1,_,by omega,rfl,rfl,by rw [het],rfl⟩
    · rw [hz0] at het
      simp only [if_true] at het
      have hwe : IntKind.wrap .i64 ((emptyW (C.words.take i) : Int) + 1) = (emptyW (C.words.take (i + 1)) : Int):=by rw [wrap_small (by omega) (by omega)]; omega
      simp only [k6,k7,k16,k17,k18,he1,hn1,mc,mcl,m1,hwr,hwt,hwe,hz0,kB,kZ,kD,kE,xn,xi,xm,xe,xf,xg,xh,xl,xk,xj,reduceIte,reduceCtorEq,ya,xz,xr]
      exact ⟨n - 1,by omega,i + 1,_,by omega,rfl,rfl,rfl,rfl⟩
  · have hi : i = C.words.length:=by have:=of_decide_eq_false hc; omega
    subst hi
    rw [List.take_length] at k6 k7
    simp only [k6,k7,kB,kZ,kD,kE,xn,xi,xm,xe,xf,xg,xh,xl,xk,xj,reduceIte,reduceCtorEq,ya,xz,xr]
    exact ⟨⟨_,rfl⟩,fun e=>absurd hz e,fun _=>(by first | trivial | rfl)⟩
set_option maxHeartbeats 2000000 in
theorem j_r26_Density (h : On X) {st : St} {lo2 hi2 : Nat} {vc : AV} {C : CodV} (hC : CodAt st lo2 hi2 vc C) (hz : chkR C = 0) :
    J X.P X.F X.H (.call 16 [vc] st (.ret (.tup [iA (totW C.words : Int),iA (emptyW C.words : Int)])) st):=by
  refine pure_intro (by rw [h.F]; rfl) rfl ?_
  have hok:=chkR_ok hz
  have htl:=hok.tot
  have hn60:=hok.n60
  obtain ⟨s,bl,rfl,hs,f,hb,hbo⟩:=hC
  have l2 : lenA bl = some C.words.length:=by
    have:=hb.len
    simpa using this
  simp only [v_r26_Density,kB,kZ,kD,kE,xn,xi,xm,xe,xf,xg,xh,xl,xk,xj,reduceIte,reduceCtorEq,ya,xz,xr]
  refine loop_inv (fun n e s'=>∃ i : Nat,i + n = C.words.length∧s' = st++[⟨[s,iA C.params,iA C.regs,iA C.code,iA C.spill,bl],0,0⟩]∧e 1 = .ptr (st.length + 0) 0∧e 4 = iA (totW (C.words.take i) : Int)∧e 5 = iA (emptyW (C.words.take i) : Int)∧e 6 = iA i) ?_ C.words.length ?_
  case refine_2=>exact ⟨0,by omega,rfl,rfl,rfl,rfl,rfl⟩
  rintro n e s' ⟨i,hin,rfl,k1,k4,k5,k6⟩
  simp only [k1,k4,k5,k6,l2,kB,kZ,kD,kE,xn,xi,xm,xe,xf,xg,xh,xl,xk,xj,reduceIte,reduceCtorEq,ya,xz,xr]
  refine condO_intro ?_ ?_<;>intro hc
  · have hil : i < C.words.length:=by have:=of_decide_eq_true hc; omega
    obtain ⟨b1,o1,he1,_,ha1,_⟩:=hb.get i (by simpa using hil)
    have p1:=fun L=>ha1 L 0 (by omega)
    simp only [List.getElem_mapIdx,WrdV.row,List.getElem?_cons_zero] at p1
    have m1:=(hbo i hil).len
    simp only [List.length_map] at m1
    have htk:=totW_take hil
    have htl2:=totW_le C.words (i + 1)
    have het:=emptyW_take hil
    have hel:=emptyW_le (C.words.take i)
    simp only [List.length_take] at hel
    have hwr : IntKind.wrap .i64 ((i : Int) + 1) = ((i + 1 : Nat) : Int):=by rw [wrap_small (by omega) (by omega)]; omega
    have hwt : IntKind.wrap .i64 ((totW (C.words.take i) : Int) + (C.words[i].ops.length : Int)) = (totW (C.words.take (i + 1)) : Int):=by rw [wrap_small (by omega) (by omega)]; omega
    cases hz0 : decide ((C.words[i].ops.length : Int) = 0)
    · rw [hz0] at het
      simp only [Bool.false_eq_true,if_false,Nat.add_zero] at het
      simp only [k1,k4,k5,k6,he1,p1,m1,hwr,hwt,hz0,kB,kZ,kD,kE,xn,xi,xm,xe,xf,xg,xh,xl,xk,xj,reduceIte,reduceCtorEq,ya,xz,xr]
      exact ⟨n - 1,by omega,i + 1,by omega,rfl,by rw [het],rfl⟩
    · rw [hz0] at het
      simp only [if_true] at het
      have hwe : IntKind.wrap .i64 ((emptyW (C.words.take i) : Int) + 1) = (emptyW (C.words.take (i + 1)) : Int):=by rw [wrap_small (by omega) (by omega)]; omega
      simp only [k1,k4,k5,k6,he1,p1,m1,hwr,hwt,hwe,hz0,kB,kZ,kD,kE,xn,xi,xm,xe,xf,xg,xh,xl,xk,xj,reduceIte,reduceCtorEq,ya,xz,xr]
      exact ⟨n - 1,by omega,i + 1,by omega,rfl,rfl,rfl⟩
  · have hi : i = C.words.length:=by have:=of_decide_eq_false hc; omega
    subst hi
    rw [List.take_length] at k4 k5
    simp only [k4,k5,kB,kZ,kD,kE,xn,xi,xm,xe,xf,xg,xh,xl,xk,xj,reduceIte,reduceCtorEq,ya,xz,xr]
    first | exact ⟨_,rfl⟩ | exact ⟨rfl,_,rfl⟩ | exact ⟨trivial,_,rfl⟩ | exact ⟨[],(List.append_nil _).symm⟩
end
end Go.VX.Seat
end
section
set_option maxRecDepth 4000
namespace Go.VX.Seat
open Go.Proofs
theorem waysL_mem (word c x : Int) : ∀ l : List OpV,x ∈ waysL word c l→(∃ o ∈ l,exitW o = true∧x = o.n)∨(0≤c∧x = c)∨(x = word + 1∧l.any leavesW = false)
  | [],h=>by
    simp only [waysL,List.mem_singleton] at h
    exact .inr (.inr ⟨h,rfl⟩)
  | o :: r,h=>by
    simp only [waysL,List.mem_append] at h
    rcases h with h | h | h
    · cases he : exitW o
      · rw [he] at h; simp at h
      · rw [he] at h
        simp at h
        exact .inl ⟨o,List.mem_cons_self ..,he,h⟩
    · cases ht : trapsW o && decide (0≤c)
      · rw [ht] at h; simp at h
      · rw [ht] at h
        simp at h
        simp only [Bool.and_eq_true,decide_eq_true_eq] at ht
        exact .inr (.inl ⟨ht.2,h⟩)
    · cases hl : leavesW o
      · rw [hl] at h
        simp only [Bool.false_eq_true,if_false] at h
        rcases waysL_mem word c x r h with ⟨p,hp,h1,h2⟩ | h1 | ⟨h1,h2⟩
        · exact .inl ⟨p,List.mem_cons_of_mem _ hp,h1,h2⟩
        · exact .inr (.inl h1)
        · exact .inr (.inr ⟨h1,by rw [List.any_cons,hl,h2]; rfl⟩)
      · rw [hl] at h; simp at h
theorem wrdsR_catch {C : CodV} : ∀ {l : List WrdV},wrdsR C l = 0→∀ w ∈ l,w.catch_ < (C.words.length : Int)
  | [],_,w,hw=>by cases hw
  | v :: r,h,w,hw=>by
    unfold wrdsR at h
    cases hc : decide (v.catch_ < -1) || decide ((C.words.length : Int)≤v.catch_)
    · rw [hc] at h
      simp only [Bool.false_eq_true,if_false] at h
      rcases List.mem_cons.1 hw with rfl | hw
      · rw [Bool.or_eq_false_iff] at hc
        have:=of_decide_eq_false hc.2
        omega
      · refine wrdsR_catch (l:=r) ?_ w hw
        cases h4 : decide (400 < (v.ops.length : Int))
        · rw [h4] at h
          simp only [Bool.false_eq_true,if_false] at h
          cases h5 : decide (opsR C v.ops≠0)
          · rw [h5] at h; simpa using h
          · rw [h5] at h
            exact absurd h (of_decide_eq_true h5)
        · rw [h4] at h; simp at h
    · rw [hc] at h; simp at h
theorem wrongE_exit {C : CodV} {o : OpV} (h : wrongE C o = 0) (he : exitW o = true) : 0≤o.n∧o.n < (C.words.length : Int):=by
  have hk : o.k = 21∨o.k = 26:=by
    unfold exitW at he
    simpa using he
  unfold wrongE at h
  cases h1 : decide (o.k < 1) || decide (28 < o.k)
  · rw [h1] at h
    simp only [Bool.false_eq_true,if_false] at h
    split at h
    · cases h
    · cases h2 : usN o.k && decide (o.k≠1) && (decide (o.n < 0) || decide (manyR C o.k≤o.n))
      · have hu : usN o.k = true:=by rcases hk with e | e<;>rw [e]<;>rfl
        have hn1 : decide (o.k≠1) = true:=decide_eq_true (by omega)
        have hm : manyR C o.k = (C.words.length : Int):=by unfold manyR; rcases hk with e | e<;>rw [e]<;>rfl
        rw [hu,hn1,hm] at h2
        simp only [Bool.true_and,Bool.or_eq_false_iff,decide_eq_false_iff_not] at h2
        omega
      · rw [h2] at h; simp at h
  · rw [h1] at h; simp at h
theorem nextAt_rng {C : CodV} (hz : chkR C = 0) {k : Nat} (hk : k < C.words.length) : ∀ x ∈ nextAt C k,0≤x∧x < (C.words.length : Int):=fun x hx=>by
  have hok:=chkR_ok hz
  rw [nextAt_eq hk,(fold_putI _ [] List.Pairwise.nil).2 x] at hx
  have hx : x ∈ waysL k C.words[k].catch_ C.words[k].ops:=by simpa using hx
  have hops:=opsR_zero (wrdsR_zero hok.wds _ (List.getElem_mem hk)).2
  rcases waysL_mem _ _ _ _ hx with ⟨o,ho,he,rfl⟩ | ⟨h0,rfl⟩ | ⟨rfl,hl⟩
  · exact wrongE_exit (hops o ho) he
  · exact ⟨h0,wrdsR_catch hok.wds _ (List.getElem_mem hk)⟩
  · refine ⟨by omega,?_⟩
    have hne : k≠C.words.length - 1:=fun e=>by
      have hlst:=hok.lst
      unfold lastRW at hlst
      rw [←e,List.getElem?_eq_getElem hk] at hlst
      simp only [Option.map_some,Option.getD_some] at hlst
      rw [←leaves_eq,hl] at hlst
      cases hlst
    omega
inductive ReachC (C : CodV) : Nat→Prop
  | zero : ReachC C 0
  | step {k t : Nat} : ReachC C k→(t : Int) ∈ nextAt C k→ReachC C t
structure MetI (C : CodV) (out : List Bool) (work : List Nat) (k : Nat) (L : List Int) : Prop where
  len : out.length = C.words.length
  zero : out[0]? = some true
  sound : ∀ i,out[i]? = some true→ReachC C i
  wk : ∀ x ∈ work,out[x]? = some true
  closed : ∀ i,out[i]? = some true→i ∉ work→i≠k→∀ t : Nat,(t : Int) ∈ nextAt C i→out[t]? = some true
  cur : ∀ t : Nat,(t : Int) ∈ L→out[t]? = some true
theorem MetI.pop {C : CodV} {out : List Bool} {work work' : List Nat} (h : MetI C out work C.words.length []) {k : Nat} (h1 : ∀ x ∈ work',x ∈ work) (h2 : ∀ x ∈ work,x = k∨x ∈ work') : MetI C out work' k [] where
  len:=h.len
  zero:=h.zero
  sound:=h.sound
  wk:=fun x hx=>h.wk x (h1 x hx)
  closed:=fun i hi hw hk=>h.closed i hi (fun hw'=>(h2 i hw').elim hk hw) (fun e=>by
    have:=(List.getElem?_eq_some_iff.1 hi).1
    rw [h.len] at this
    omega)
  cur:=fun t ht=>by cases ht
theorem MetI.seen {C : CodV} {out : List Bool} {work : List Nat} {k : Nat} {L : List Int} (h : MetI C out work k L) {t : Nat} (ht : out[t]? = some true) : MetI C out work k (L++[(t : Int)]) :=
  ⟨h.len,h.zero,h.sound,h.wk,h.closed,fun x hx=>by
    rcases List.mem_append.1 hx with hx | hx
    · exact h.cur x hx
    · have:=List.mem_singleton.1 hx
      have : x = t:=by omega
      rw [this]; exact ht⟩
theorem MetI.push {C : CodV} {out : List Bool} {work : List Nat} {k : Nat} {L : List Int} (h : MetI C out work k L) (hk : ReachC C k) {t : Nat} (ht : (t : Int) ∈ nextAt C k) (htl : t < C.words.length) : MetI C (out.set t true) (work++[t]) k (L++[(t : Int)]):=by
  have hs : (out.set t true)[t]? = some true:=List.getElem?_set_self (by rw [h.len]; exact htl)
  have hup : ∀ i : Nat,out[i]? = some true→(out.set t true)[i]? = some true:=fun i hi=>by
    by_cases e : t = i
    · rw [←e]; exact hs
    · rw [List.getElem?_set_ne e]; exact hi
  have hdn : ∀ i : Nat,(out.set t true)[i]? = some true→i = t∨out[i]? = some true:=fun i hi=>by
    by_cases e : t = i
    · exact .inl e.symm
    · rw [List.getElem?_set_ne e] at hi; exact .inr hi
  refine ⟨by rw [List.length_set,h.len],hup 0 h.zero,fun i hi=>?_,fun x hx=>?_,fun i hi hw hk' u hu=>?_,fun x hx=>?_⟩
  · rcases hdn i hi with rfl | e
    · exact .step hk ht
    · exact h.sound i e
  · rcases List.mem_append.1 hx with hx | hx
    · exact hup x (h.wk x hx)
    · rw [List.mem_singleton.1 hx]; exact hs
  · rcases hdn i hi with rfl | e
    · exact absurd (List.mem_append.2 (.inr (List.mem_singleton.2 rfl))) hw
    · exact hup u (h.closed i e (fun hw'=>hw (List.mem_append.2 (.inl hw'))) hk' u hu)
  · rcases List.mem_append.1 hx with hx | hx
    · exact hup x (h.cur x hx)
    · have:=List.mem_singleton.1 hx
      have : x = t:=by omega
      rw [this]; exact hs
theorem MetI.done {C : CodV} {out : List Bool} {work : List Nat} {k : Nat} (h : MetI C out work k (nextAt C k)) : MetI C out work C.words.length [] :=
  ⟨h.len,h.zero,h.sound,h.wk,fun i hi hw _ t ht=>by
    by_cases e : i = k
    · subst e; exact h.cur t ht
    · exact h.closed i hi hw e t ht,fun t ht=>by cases ht⟩
theorem MetI.start {C : CodV} (hn : 0 < C.words.length) : MetI C ((List.replicate C.words.length false).set 0 true) [0] C.words.length []:=by
  have h0 : ∀ i : Nat,((List.replicate C.words.length false).set 0 true)[i]? = some true→i = 0:=fun i hi=>by
    by_cases e : (0 : Nat) = i
    · exact e.symm
    · rw [List.getElem?_set_ne e,List.getElem?_replicate] at hi
      split at hi<;>cases hi
  refine ⟨by simp,List.getElem?_set_self (by simpa using hn),fun i hi=>by rw [h0 i hi]; exact .zero,fun x hx=>?_,fun i hi hw=>?_,fun t ht=>by cases ht⟩
  · rw [List.mem_singleton.1 hx]
    exact List.getElem?_set_self (by simpa using hn)
  · exact absurd (by rw [h0 i hi]; exact List.mem_singleton.2 rfl) hw
theorem MetI.all {C : CodV} {out : List Bool} (h : MetI C out [] C.words.length []) : ∀ i,ReachC C i→out[i]? = some true:=fun i hi=>by
  induction hi with
  | zero=>exact h.zero
  | @step k t _ ht ih =>
    exact h.closed k ih (by simp) (fun e=>by
      have:=(List.getElem?_eq_some_iff.1 ih).1
      rw [h.len] at this
      omega) t ht
theorem MetI.same {C : CodV} {out out' : List Bool} (h : MetI C out [] C.words.length []) (h' : MetI C out' [] C.words.length []) : out = out':=by
  refine List.ext_getElem (by rw [h.len,h'.len]) fun i h1 h2=>?_
  have a : out[i] = true↔out'[i] = true:=by
    constructor
    · intro e
      have:=h'.all i (h.sound i (by rw [List.getElem?_eq_getElem h1,e]))
      rw [List.getElem?_eq_getElem h2] at this
      exact Option.some.inj this
    · intro e
      have:=h.all i (h'.sound i (by rw [List.getElem?_eq_getElem h2,e]))
      rw [List.getElem?_eq_getElem h1] at this
      exact Option.some.inj this
  exact Bool.eq_iff_iff.2 a
def leftW (out : List Bool) : Nat:=(out.filter fun b=>!b).length
theorem leftW_set : ∀ {out : List Bool} {t : Nat},out[t]? = some false→leftW (out.set t true) + 1 = leftW out
  | [],t,h=>by simp at h
  | b :: r,0,h=>by
    simp at h
    subst h
    simp [leftW]
  | b :: r,t + 1,h=>by
    have ih:=leftW_set (out:=r) (t:=t) (by simpa using h)
    unfold leftW at *
    simp only [List.set_cons_succ,List.filter_cons]
    cases b<;>simp<;>omega
end Go.VX.Seat
end
section
set_option maxRecDepth 4000
namespace Go.VX.Seat
open Go.Proofs
abbrev nI (l : List Nat) : List Int:=l.map Int.ofNat
structure WkAt (S : St) (lo : Nat) (w : AV) (work : List Nat) : Prop where
  arr : ArrAt S lo S.length w 1 (rowsI (nI work))
  bnd : ∀ b,boxOf w = some b→lo≤b∧b < S.length
  m0 : ∀ b,boxOf w = some b→∃ x : Box,S[b]? = some x∧x.mode = 0
theorem WkAt.own {S : St} {lo : Nat} {w : AV} {work : List Nat} (h : WkAt S lo w work) : OwnS S lo w 1 (rowsI (nI work)) :=
  ⟨h.arr,h.bnd,fun b o n e full hv=>by
    obtain ⟨x,hx,hm⟩:=h.m0 b (by rw [hv]; rfl)
    exact .inr (by rw [hx]; simp [hm])⟩
theorem WkAt.agree {Y : Nat→Prop} {S S' : St} {lo : Nat} {w : AV} {work : List Nat} (h : WkAt S lo w work) (ha : Agree Y S S') (hy : ∀ b,lo≤b→b < S.length→¬ Y b) : WkAt S' lo w work where
  arr:=(h.arr.agree ha fun b hb=>hy b (h.bnd b hb).1 (h.bnd b hb).2).wide ha.len
  bnd:=fun b hb=>⟨(h.bnd b hb).1,Nat.lt_of_lt_of_le (h.bnd b hb).2 ha.len⟩
  m0:=fun b hb=>let ⟨x,hx,hm⟩:=h.m0 b hb; ⟨x,ha.box hx (hy b (h.bnd b hb).1 (h.bnd b hb).2),hm⟩
structure MetS (st s : St) (crow : List AV) (out : List Bool) (w : AV) (work : List Nat) : Prop where
  pre : ∃ m,s = st++m
  c : s[st.length]? = some ⟨crow,0,0⟩
  o : ∃ ver,s[st.length + 1]? = some ⟨out.map fun b=>bA b,0,ver⟩
  wk : WkAt s (st.length + 2) w work
theorem MetS.grow {st s : St} {crow : List AV} {out : List Bool} {w : AV} {work : List Nat} (h : MetS st s crow out w work) (L : St) : MetS st (s++L) crow out w work where
  pre:=let ⟨m,e⟩:=h.pre; ⟨m++L,by rw [e,List.append_assoc]⟩
  c:=by rw [List.getElem?_append_left (List.getElem?_eq_some_iff.1 h.c).1]; exact h.c
  o:=let ⟨ver,hb⟩:=h.o; ⟨ver,by rw [List.getElem?_append_left (List.getElem?_eq_some_iff.1 hb).1]; exact hb⟩
  wk:=h.wk.agree (Agree.app (fun _=>False) s L) fun _ _ _ y=>y
theorem MetS.mark {st s : St} {crow : List AV} {out : List Bool} {w : AV} {work : List Nat} (h : MetS st s crow out w work) {t : Nat} (ht : t < out.length) : ∃ s2,St.put s (st.length + 1) t [bA true] = some s2∧MetS st s2 crow (out.set t true) w work∧Agree (fun n=>n = st.length + 1) s s2:=by
  obtain ⟨ver,hb⟩:=h.o
  have hput:=put_box (o:=t) (vs:=[bA true]) hb (by simp; omega) rfl
  have hag:=Agree.set s (st.length + 1) ⟨splice (out.map fun b=>bA b) t [bA true],0,ver + 1⟩
  refine ⟨_,hput,⟨hag.ext h.pre fun b hb e=>by omega,hag.box h.c (by omega),⟨ver + 1,?_⟩,h.wk.agree hag fun b hb _ e=>by omega⟩,hag⟩
  rw [List.getElem?_set_self (List.getElem?_eq_some_iff.1 hb).1,List.map_set,List.set_eq_take_append_cons_drop,if_pos (by simpa using ht)]
  simp [splice]
theorem MetS.at_ {st s : St} {crow : List AV} {out : List Bool} {w : AV} {work : List Nat} (h : MetS st s crow out w work) {t : Nat} (ht : t < out.length) : St.at1 s (st.length + 1) t = some (bA out[t]):=by
  obtain ⟨ver,hb⟩:=h.o
  rw [at1_box hb (by decide) t,List.getElem?_map,List.getElem?_eq_getElem ht]
  rfl
theorem elem_out {b n t : Nat} (ht : t < n) : elemA (.sl b 0 n 1 true) 1 (t : Int) = some (.ptr b t):=by
  rw [elemA_sl,if_pos ⟨by omega,by omega,rfl⟩]
  simp
section
variable {X : Cx}
theorem opR_work {K : Env→St→Post3→Prop} {Q : Post3} {d : Option Nat} {env : Env} {st s : St} {crow : List AV} {out : List Bool} {w : AV} {work : List Nat} {t : Nat} {x y : VOpd} (h : MetS st s crow out w work) (hl : work.length≤1000000) (ex : x.ev env = w) (ey : y.ev env = .sl s.length 0 1 1 true)
    (hK : ∀ w' s',MetS st s' crow out w' (work++[t])→Agree (fun b=>boxOf w = some b) s s'→(∀ b,boxOf w' = some b→s.length≤b)→K (env.put d w') s' Q) :
    opR X K d [] env (s++[⟨[iA (t : Int)],0,0⟩]) Q (vop X.P (.append 1 8 x y) env (s++[⟨[iA (t : Int)],0,0⟩])):=by
  have hg:=h.grow [⟨[iA (t : Int)],0,0⟩]
  have hc:=(List.getElem?_eq_some_iff.1 h.c).1
  obtain ⟨ver,ho⟩:=h.o
  have hol:=(List.getElem?_eq_some_iff.1 ho).1
  have hrow : ArrAt (s++[⟨[iA (t : Int)],0,0⟩]) s.length (s.length + 1) (.sl s.length 0 1 1 true) 1 [[iA (t : Int)]]:=ArrAt.ofBox (mode:=0) (ver:=0) (by simp) (by decide) (by simp) rfl
  refine opR_append (vx:=w) (vy:=.sl s.length 0 1 1 true) (rows:=rowsI (nI work)) (rows2:=[[iA (t : Int)]]) (lo:=st.length + 2) ex ey hg.wk.own (by simp; omega) hrow (by simp; omega) (by rfl) ?_
  intro w' s' hag hown hcase
  refine ⟨keptA_nil _ _ _,?_⟩
  rcases hcase with ⟨e,_⟩ | ⟨_,hb,hex⟩
  · cases e
  have hlow : ∀ b,b < st.length + 2→¬ ([[iA (t : Int)]]≠[]∧boxOf w = some b):=fun b hb y=>by have:=(hg.wk.bnd b y.2).1; omega
  refine hK w' s' ⟨hag.ext hg.pre fun b hb=>hlow b (by omega),hag.box hg.c (hlow _ (by omega)),?_,?_,hown.bnd,fun b hb2=>?_⟩ ?_ (fun b hb2=>by rw [hb] at hb2; cases hb2; simp)
  · obtain ⟨ver,ho⟩:=hg.o
    exact ⟨ver,hag.box ho (hlow _ (by omega))⟩
  · show ArrAt _ _ _ w' 1 ((nI (work++[t])).map _)
    have:=hown.arr
    simpa using this
  · obtain ⟨b',full,ver,hv,hbx⟩:=hex (by simp)
    rw [hv] at hb2
    cases hb2
    exact ⟨_,hbx,rfl⟩
  · exact ((Agree.app (fun _=>False) s _).trans hag).mono fun n _ y=>y.elim (fun y=>y.elim) fun y=>y.2
end
end Go.VX.Seat
end
section
set_option maxRecDepth 4000
namespace Go.VX.Seat
open Go.Proofs
theorem leftW_le (out : List Bool) : leftW out≤out.length:=List.length_filter_le _ _
section
variable {X : Cx}
set_option maxHeartbeats 4000000 in
theorem w_Met (h : OnH X) {st : St} {lo2 hi2 : Nat} {vc : AV} {C : CodV} (hC : CodAt st lo2 hi2 vc C) (hz : chkR C = 0) :
    wpF X 35 [vc] st fun r S=>∃ w m lo hi out,r = .ret w∧S = st++m∧ArrAt S lo hi w 1 (out.map fun b=>[bA b])∧MetI C out [] C.words.length []:=by
  have hok:=chkR_ok hz
  have hn60:=hok.n60
  have hCm:=fun m=>hC.mono m
  obtain ⟨s,bl,rfl,hs,f,hb,hbo⟩:=hC
  have l2 : lenA bl = some C.words.length:=by
    have:=hb.len
    simpa using this
  refine wpF_go (fn:=v_words_Met) (by rw [h.F]; rfl) ?_
  simp only [v_words_Met,l2,kB,kZ,kD,kE,xn,xi,xm,xe,xf,xg,xh,xl,xk,xj,reduceIte,reduceCtorEq,ya,xz,xr]
  rw [if_pos (show (0 : Int)≤(C.words.length : Int) by omega)]
  dsimp only
  rw [if_pos ⟨Nat.le_refl _,by omega⟩]
  refine ⟨keptA_nil _ _ _,?_⟩
  rw [beq_self_eq_true,List.flatten_replicate_singleton]
  have hM0 : MetS st (st++[⟨[s,iA C.params,iA C.regs,iA C.code,iA C.spill,bl],0,0⟩,⟨List.replicate C.words.length (.sc (.bool false)),0,0⟩]) [s,iA C.params,iA C.regs,iA C.code,iA C.spill,bl] (List.replicate C.words.length false) (.sc (.slice none 0 0)) []:={
    pre:=⟨_,rfl⟩
    c:=by simp
    o:=⟨0,by simp⟩
    wk:=⟨emptyArr _ _ _ _,fun b hb=>(by cases hb),fun b hb=>(by cases hb)⟩ }
  have hel : ∀ t : Nat,t < C.words.length→elemA (.sl (st.length + 1) 0 C.words.length 1 true) 1 (t : Int) = some (.ptr (st.length + 1) t):=fun t ht=>elem_out ht
  have hov : boxOf (.sl (st.length + 1) 0 C.words.length 1 true) = some (st.length + 1):=rfl
  have hfin : ∀ {S : St} {out : List Bool} {w : AV} {work : List Nat},MetS st S [s,iA C.params,iA C.regs,iA C.code,iA C.spill,bl] out w work→out.length = C.words.length→∃ m lo hi,S = st++m∧ArrAt S lo hi (.sl (st.length + 1) 0 C.words.length 1 true) 1 (out.map fun b=>[bA b]):=fun {S out w work} hM hl=>by
    obtain ⟨m,e⟩:=hM.pre
    obtain ⟨ver,ho⟩:=hM.o
    have hfl : (out.map fun b=>[bA b]).flatten = out.map fun b=>bA b:=by
      clear hM hl ho
      induction out with
      | nil=>rfl
      | cons a r ih=>simp only [List.map_cons,List.flatten_cons,ih]; rfl
    rw [←hfl] at ho
    exact ⟨m,_,_,e,ArrAt.ofBox ho (by decide) (fun r hr=>by obtain ⟨n,_,rfl⟩:=List.mem_map.1 hr; rfl) (by simp [hl])⟩
  generalize AV.sl (st.length + 1) 0 C.words.length 1 true = ov at *
  generalize (st++[⟨[s,iA C.params,iA C.regs,iA C.code,iA C.spill,bl],0,0⟩,⟨List.replicate C.words.length (.sc (.bool false)),0,0⟩] : St) = S0 at *
  obtain ⟨S1,hp1,hM1,_⟩:=hM0.mark (t:=0) (by simp; omega)
  have he0 : elemA ov 1 (0 : Int) = some (.ptr (st.length + 1) 0):=hel 0 (by omega)
  have hI1 : MetI C ((List.replicate C.words.length false).set 0 true) [0] C.words.length []:=MetI.start (by omega)
  simp only [he0,hp1,kB,kZ,kD,kE,xn,xi,xm,xe,xf,xg,xh,xl,xk,xj,reduceIte,reduceCtorEq,ya,xz,xr]
  have hl1 : st.length + 2≤S1.length:=by
    obtain ⟨ver,ho⟩:=hM1.o
    have:=(List.getElem?_eq_some_iff.1 ho).1
    omega
  have hM2 : MetS st (S1++[⟨[iA 0],0,0⟩]) [s,iA C.params,iA C.regs,iA C.code,iA C.spill,bl] ((List.replicate C.words.length false).set 0 true) (.sl S1.length 0 1 1 true) [0]:={
    pre:=(hM1.grow _).pre
    c:=(hM1.grow _).c
    o:=(hM1.grow _).o
    wk:={
      arr:=(ArrAt.ofBox (mode:=0) (ver:=0) (rows:=[[iA 0]]) (by simp) (by decide) (by simp) rfl).wide' hl1 (by simp)
      bnd:=fun b hb=>by cases hb; simp; omega
      m0:=fun b hb=>by cases hb; exact ⟨⟨[iA 0],0,0⟩,by simp,rfl⟩ } }
  refine loop_inv (fun n e s'=>∃ (out : List Bool) (w : AV) (work : List Nat),e 1 = .ptr (st.length + 0) 0∧e 3 = ov∧e 4 = w∧n = 2 * leftW out + work.length∧n≤200000∧MetS st s' [s,iA C.params,iA C.regs,iA C.code,iA C.spill,bl] out w work∧MetI C out work C.words.length []) ?_ (2 * leftW ((List.replicate C.words.length false).set 0 true) + 1) ?_
  case refine_2=>exact ⟨_,_,[0],rfl,rfl,rfl,rfl,by have:=leftW_le ((List.replicate C.words.length false).set 0 true); simp at this; omega,hM2,hI1⟩
  clear hM2 hI1 hM1 hp1 hM0 he0 hl1
  rintro n e s' ⟨out,w,work,k1,k3,k4,hn,hn2,hM,hI⟩
  have lw:=hM.wk.arr.len
  simp only [List.length_map] at lw
  simp only [k1,k3,k4,lw,kB,kZ,kD,kE,xn,xi,xm,xe,xf,xg,xh,xl,xk,xj,reduceIte,reduceCtorEq,ya,xz,xr]
  refine condO_intro ?_ ?_<;>intro hc
  case refine_2 =>
    have hw0 : work = []:=List.length_eq_zero_iff.1 (by have:=of_decide_eq_false hc; omega)
    subst hw0
    obtain ⟨m,lo,hi,e1,ha⟩:=hfin hM hI.len
    simp only [k1,k3,k4,kB,kZ,kD,kE,xn,xi,xm,xe,xf,xg,xh,xl,xk,xj,reduceIte,reduceCtorEq,ya,xz,xr]
    exact ⟨ov,m,lo,hi,out,rfl,e1,ha,hI⟩
  have hne : work≠[]:=fun e1=>by rw [e1] at hc; simp at hc
  obtain ⟨W,k,rfl⟩ : ∃ W k,work = W++[k]:=⟨work.dropLast,work.getLast hne,(List.dropLast_concat_getLast hne).symm⟩
  have hkN : k < C.words.length:=by
    have:=(List.getElem?_eq_some_iff.1 (hI.wk k (by simp))).1
    rwa [hI.len] at this
  have hRk:=hI.sound k (hI.wk k (by simp))
  have hWn : 2 * leftW out + W.length + 1 = n:=by rw [hn]; simp; omega
  have hwl : IntKind.wrap .i64 (((W++[k]).length : Int) - 1) = (W.length : Int):=by
    have e1 : ((W++[k]).length : Int) - 1 = (W.length : Int):=by rw [List.length_append,List.length_singleton]; omega
    rw [e1,wrap_small (by omega) (by omega)]
  obtain ⟨b1,o1,he1,_,ha1,_⟩:=hM.wk.arr.get W.length (by simp)
  have p1:=ha1 [] 0 (by omega)
  have hgk : (rowsI (nI (W++[k])))[W.length]'(by simp) = [iA (k : Int)]:=by simp
  rw [hgk] at p1
  simp only [Nat.add_zero,List.append_nil,List.getElem?_cons_zero] at p1
  have hI2:=hI.pop (k:=k) (work':=W) (fun x hx=>by simp [hx]) (fun x hx=>by
    rcases List.mem_append.1 hx with h1 | h1
    · exact .inr h1
    · exact .inl (List.mem_singleton.1 h1))
  simp only [k1,k3,k4,lw,hwl,he1,p1,kB,kZ,kD,kE,xn,xi,xm,xe,xf,xg,xh,xl,xk,xj,reduceIte,reduceCtorEq,ya,xz,xr]
  refine opR_preW (vx:=w) (n:=W.length) (by simp only [kB,kZ,kD,kE,xn,xi,xm,xe,xf,xg,xh,xl,xk,xj,reduceIte,reduceCtorEq,ya,xz,xr]) (by first | (simp only [kB,kZ,kD,kE,xn,xi,xm,xe,xf,xg,xh,xl,xk,xj,reduceIte,reduceCtorEq,ya,xz,xr]; done) | (simp only [kB,kZ,kD,kE,xn,xi,xm,xe,xf,xg,xh,xl,xk,xj,reduceIte,reduceCtorEq,ya,xz,xr]; rw [if_pos (by omega)])) hM.wk.arr (by simp) ?_
  intro w1 hw1 hb1
  refine ⟨keptA_nil _ _ _,?_⟩
  have hM1 : MetS st s' [s,iA C.params,iA C.regs,iA C.code,iA C.spill,bl] out w1 W:={
    pre:=hM.pre
    c:=hM.c
    o:=hM.o
    wk:={
      arr:=by
        have : (rowsI (nI (W++[k]))).take W.length = rowsI (nI W):=by simp
        rw [this] at hw1
        exact hw1
      bnd:=fun b hb=>hM.wk.bnd b (by rw [←hb1]; exact hb)
      m0:=fun b hb=>hM.wk.m0 b (by rw [←hb1]; exact hb) } }
  have xc : St.atN s' (st.length + 0) 0 6 = some [s,iA C.params,iA C.regs,iA C.code,iA C.spill,bl]:=by
    rw [Nat.add_zero,atN_box hM.c (by decide) 0 6 (by simp)]
    rfl
  have hCs : CodAt s' lo2 hi2 (.agg [s,iA C.params,iA C.regs,iA C.code,iA C.spill,bl]) C:=by
    obtain ⟨mm,hmm⟩:=hM.pre
    rw [hmm]
    exact hCm mm
  simp only [k1,k3,k4,xc,kB,kZ,kD,kE,xn,xi,xm,xe,xf,xg,xh,xl,xk,xj,reduceIte,reduceCtorEq,ya,xz,xr]
  refine wpF.mono (w_words_next h hCs hz hkN) ?_
  rintro r S ⟨nl,m,lo3,hi3,rfl,rfl,hnl,hnf⟩
  refine ⟨keptA_nil _ _ _,?_⟩
  have hM3:=hM1.grow m
  have hrng:=nextAt_rng hz hkN
  have hnb : ∀ b,boxOf nl = some b→boxOf w1≠some b∧b≠st.length + 1:=fun b hb=>by
    have h1:=hnf b hb
    refine ⟨fun e1=>?_,fun e1=>?_⟩
    · have:=(hM1.wk.bnd b e1).2; omega
    · obtain ⟨ver,ho⟩:=hM1.o
      have:=(List.getElem?_eq_some_iff.1 ho).1
      omega
  have ln:=hnl.len
  simp only [List.length_map] at ln
  have hnwl : (nextAt C k).length≤1000:=by
    rw [nextAt_eq hkN]
    have h1:=fold_len (waysL k C.words[k].catch_ C.words[k].ops) []
    have h2:=waysL_len k C.words[k].catch_ C.words[k].ops
    have h3:=(wrdsR_zero hok.wds _ (List.getElem_mem hkN)).1
    simp at h1
    omega
  clear hM hI hM1 hw1 xc hCs p1 he1 lw hc hne hgk ha1 hn
  generalize (s'++m : St) = S2 at *
  generalize hLE : nextAt C k = L at *
  simp only [k1,k3,k4,ln,kB,kZ,kD,kE,xn,xi,xm,xe,xf,xg,xh,xl,xk,xj,reduceIte,reduceCtorEq,ya,xz,xr]
  refine loop_inv (fun n2 e s2=>∃ (j : Nat) (out2 : List Bool) (w2 : AV) (work2 : List Nat),j + n2 = L.length∧e 1 = .ptr (st.length + 0) 0∧e 3 = ov∧e 4 = w2∧e 31 = nl∧e 32 = iA L.length∧e 33 = iA j∧MetS st s2 [s,iA C.params,iA C.regs,iA C.code,iA C.spill,bl] out2 w2 work2∧MetI C out2 work2 k (L.take j)∧IntsAt s2 lo3 hi3 nl L∧(∀ b,boxOf nl = some b→boxOf w2≠some b∧b≠st.length + 1)∧2 * leftW out2 + work2.length + 1≤n) ?_ L.length ?_
  case refine_2=>exact ⟨0,out,w1,W,by omega,by simp only [k1,kB,kZ,kD,kE,xn,xi,xm,xe,xf,xg,xh,xl,xk,xj,reduceIte,reduceCtorEq,ya,xz,xr],by simp only [k3,kB,kZ,kD,kE,xn,xi,xm,xe,xf,xg,xh,xl,xk,xj,reduceIte,reduceCtorEq,ya,xz,xr],rfl,rfl,rfl,rfl,hM3,hI2,hnl,hnb,by omega⟩
  clear hM3 hI2 hnl hnb k1 k3 k4
  rintro n2 e s2 ⟨j,out2,w2,work2,hjn,k1,k3,k4,k31,k32,k33,hM,hI,hnl,hnb,hms⟩
  simp only [k1,k3,k4,k31,k32,k33,kB,kZ,kD,kE,xn,xi,xm,xe,xf,xg,xh,xl,xk,xj,reduceIte,reduceCtorEq,ya,xz,xr]
  refine condO_intro ?_ ?_<;>intro hc
  case refine_2 =>
    have hj : j = L.length:=by have:=of_decide_eq_false hc; omega
    subst hj
    rw [List.take_length,← hLE] at hI
    simp only [k1,k3,k4,kB,kZ,kD,kE,xn,xi,xm,xe,xf,xg,xh,xl,xk,xj,reduceIte,reduceCtorEq,ya,xz,xr]
    exact ⟨2 * leftW out2 + work2.length,by omega,out2,w2,work2,rfl,rfl,by omega,hM,hI.done⟩
  have hj : j < L.length:=by have:=of_decide_eq_true hc; omega
  obtain ⟨b1,o1,he1,_,ha1,_⟩:=hnl.get j (by simpa using hj)
  have p1:=ha1 [] 0 (by omega)
  simp only [List.getElem_map,Nat.add_zero,List.append_nil,List.getElem?_cons_zero] at p1
  have hr:=hrng _ (List.getElem_mem hj)
  have htk : L.take (j + 1) = L.take j++[L[j]]:=(List.take_append_getElem hj).symm
  have hmem:=List.getElem_mem hj
  obtain ⟨t,ht⟩ : ∃ t : Nat,L[j] = (t : Int):=⟨L[j].toNat,by omega⟩
  rw [ht] at p1 hr htk hmem
  have htN : t < C.words.length:=by omega
  have hto : t < out2.length:=by rw [hI.len]; exact htN
  have x1:=hM.at_ hto
  have het:=hel t htN
  have hwr : IntKind.wrap .i64 ((j : Int) + 1) = ((j + 1 : Nat) : Int):=by rw [wrap_small (by omega) (by omega)]; omega
  cases hb : out2[t]
  · rw [hb] at x1
    have hgf : out2[t]? = some false:=by rw [List.getElem?_eq_getElem hto,hb]
    have hlf:=leftW_set hgf
    obtain ⟨s3,hp3,hM3,ag3⟩:=hM.mark hto
    have hnl3:=hnl.agree ag3 (fun b hb e=>(hnb b hb).2 e)
    simp only [k1,k3,k4,k31,k32,k33,he1,p1,het,x1,hp3,kB,kZ,kD,kE,xn,xi,xm,xe,xf,xg,xh,xl,xk,xj,reduceIte,reduceCtorEq,ya,xz,xr]
    refine opR_work (t:=t) hM3 (by omega) (by simp only [kB,kZ,kD,kE,xn,xi,xm,xe,xf,xg,xh,xl,xk,xj,reduceIte,reduceCtorEq,ya,xz,xr]) (by simp only [kB,kZ,kD,kE,xn,xi,xm,xe,xf,xg,xh,xl,xk,xj,reduceIte,reduceCtorEq,ya,xz,xr]) ?_
    intro w4 s4 hM4 ag4 hf4
    have hnl4:=hnl3.agree ag4 (fun b hb y=>(hnb b hb).1 y)
    simp only [k1,k3,k4,k31,k32,k33,hwr,kB,kZ,kD,kE,xn,xi,xm,xe,xf,xg,xh,xl,xk,xj,reduceIte,reduceCtorEq,ya,xz,xr]
    refine ⟨n2 - 1,by omega,j + 1,out2.set t true,w4,work2++[t],by omega,rfl,rfl,hM4,?_,hnl4,fun b hb=>⟨fun e1=>?_,(hnb b hb).2⟩,by simp; omega⟩
    · rw [htk]
      exact hI.push hRk (by rw [hLE]; exact hmem) htN
    · have h1:=hf4 b e1
      have h2:=hnl3.boxlt hb
      omega
  · rw [hb] at x1
    have hgt : out2[t]? = some true:=by rw [List.getElem?_eq_getElem hto,hb]
    simp only [k1,k3,k4,k31,k32,k33,he1,p1,het,x1,hwr,kB,kZ,kD,kE,xn,xi,xm,xe,xf,xg,xh,xl,xk,xj,reduceIte,reduceCtorEq,ya,xz,xr]
    refine ⟨n2 - 1,by omega,j + 1,out2,w2,work2,by omega,rfl,rfl,hM,?_,hnl,hnb,hms⟩
    rw [htk]
    exact hI.seen hgt
end
end Go.VX.Seat
end
section
set_option maxRecDepth 4000
namespace Go.VX.Seat
open Go.Proofs
section
variable {X : Cx}
set_option maxHeartbeats 4000000 in
theorem w_r26_Reached (h : On X) {st : St} {lo2 hi2 : Nat} {vc : AV} {C : CodV} (hC : CodAt st lo2 hi2 vc C) (hz : chkR C = 0) :
    wpF X 17 [vc] st fun r S=>∃ w m lo hi out,r = .ret w∧S = st++m∧ArrAt S lo hi w 1 (out.map fun b=>[bA b])∧MetI C out [] C.words.length []:=by
  have hok:=chkR_ok hz
  have hn60:=hok.n60
  have hCm:=fun m=>hC.mono m
  obtain ⟨s,bl,rfl,hs,f,hb,hbo⟩:=hC
  have l2 : lenA bl = some C.words.length:=by
    have:=hb.len
    simpa using this
  refine wpF_go (fn:=v_r26_Reached) (by rw [h.F]; rfl) ?_
  simp only [v_r26_Reached,l2,kB,kZ,kD,kE,xn,xi,xm,xe,xf,xg,xh,xl,xk,xj,reduceIte,reduceCtorEq,ya,xz,xr]
  rw [if_pos (show (0 : Int)≤(C.words.length : Int) by omega)]
  dsimp only
  rw [if_pos ⟨Nat.le_refl _,by omega⟩]
  refine ⟨keptA_nil _ _ _,?_⟩
  rw [beq_self_eq_true,List.flatten_replicate_singleton]
  have hM0 : MetS st (st++[⟨[s,iA C.params,iA C.regs,iA C.code,iA C.spill,bl],0,0⟩,⟨List.replicate C.words.length (.sc (.bool false)),0,0⟩]) [s,iA C.params,iA C.regs,iA C.code,iA C.spill,bl] (List.replicate C.words.length false) (.sc (.slice none 0 0)) []:={
    pre:=⟨_,rfl⟩
    c:=by simp
    o:=⟨0,by simp⟩
    wk:=⟨emptyArr _ _ _ _,fun b hb=>(by cases hb),fun b hb=>(by cases hb)⟩ }
  have hel : ∀ t : Nat,t < C.words.length→elemA (.sl (st.length + 1) 0 C.words.length 1 true) 1 (t : Int) = some (.ptr (st.length + 1) t):=fun t ht=>elem_out ht
  have hov : boxOf (.sl (st.length + 1) 0 C.words.length 1 true) = some (st.length + 1):=rfl
  have hfin : ∀ {S : St} {out : List Bool} {w : AV} {work : List Nat},MetS st S [s,iA C.params,iA C.regs,iA C.code,iA C.spill,bl] out w work→out.length = C.words.length→∃ m lo hi,S = st++m∧ArrAt S lo hi (.sl (st.length + 1) 0 C.words.length 1 true) 1 (out.map fun b=>[bA b]):=fun {S out w work} hM hl=>by
    obtain ⟨m,e⟩:=hM.pre
    obtain ⟨ver,ho⟩:=hM.o
    have hfl : (out.map fun b=>[bA b]).flatten = out.map fun b=>bA b:=by
      clear hM hl ho
      induction out with
      | nil=>rfl
      | cons a r ih=>simp only [List.map_cons,List.flatten_cons,ih]; rfl
    rw [←hfl] at ho
    exact ⟨m,_,_,e,ArrAt.ofBox ho (by decide) (fun r hr=>by obtain ⟨n,_,rfl⟩:=List.mem_map.1 hr; rfl) (by simp [hl])⟩
  generalize AV.sl (st.length + 1) 0 C.words.length 1 true = ov at *
  generalize (st++[⟨[s,iA C.params,iA C.regs,iA C.code,iA C.spill,bl],0,0⟩,⟨List.replicate C.words.length (.sc (.bool false)),0,0⟩] : St) = S0 at *
  obtain ⟨S1,hp1,hM1,_⟩:=hM0.mark (t:=0) (by simp; omega)
  have he0 : elemA ov 1 (0 : Int) = some (.ptr (st.length + 1) 0):=hel 0 (by omega)
  have hI1 : MetI C ((List.replicate C.words.length false).set 0 true) [0] C.words.length []:=MetI.start (by omega)
  simp only [he0,hp1,kB,kZ,kD,kE,xn,xi,xm,xe,xf,xg,xh,xl,xk,xj,reduceIte,reduceCtorEq,ya,xz,xr]
  have hl1 : st.length + 2≤S1.length:=by
    obtain ⟨ver,ho⟩:=hM1.o
    have:=(List.getElem?_eq_some_iff.1 ho).1
    omega
  have hM2 : MetS st (S1++[⟨[iA 0],0,0⟩]) [s,iA C.params,iA C.regs,iA C.code,iA C.spill,bl] ((List.replicate C.words.length false).set 0 true) (.sl S1.length 0 1 1 true) [0]:={
    pre:=(hM1.grow _).pre
    c:=(hM1.grow _).c
    o:=(hM1.grow _).o
    wk:={
      arr:=(ArrAt.ofBox (mode:=0) (ver:=0) (rows:=[[iA 0]]) (by simp) (by decide) (by simp) rfl).wide' hl1 (by simp)
      bnd:=fun b hb=>by cases hb; simp; omega
      m0:=fun b hb=>by cases hb; exact ⟨⟨[iA 0],0,0⟩,by simp,rfl⟩ } }
  refine loop_inv (fun n e s'=>∃ (out : List Bool) (w : AV) (work : List Nat),e 1 = .ptr (st.length + 0) 0∧e 3 = ov∧e 4 = w∧n = 2 * leftW out + work.length∧n≤200000∧MetS st s' [s,iA C.params,iA C.regs,iA C.code,iA C.spill,bl] out w work∧MetI C out work C.words.length []) ?_ (2 * leftW ((List.replicate C.words.length false).set 0 true) + 1) ?_
  case refine_2=>exact ⟨_,_,[0],rfl,rfl,rfl,rfl,by have:=leftW_le ((List.replicate C.words.length false).set 0 true); simp at this; omega,hM2,hI1⟩
  clear hM2 hI1 hM1 hp1 hM0 he0 hl1
  rintro n e s' ⟨out,w,work,k1,k3,k4,hn,hn2,hM,hI⟩
  have lw:=hM.wk.arr.len
  simp only [List.length_map] at lw
  simp only [k1,k3,k4,lw,kB,kZ,kD,kE,xn,xi,xm,xe,xf,xg,xh,xl,xk,xj,reduceIte,reduceCtorEq,ya,xz,xr]
  refine condO_intro ?_ ?_<;>intro hc
  case refine_2 =>
    have hw0 : work = []:=List.length_eq_zero_iff.1 (by have:=of_decide_eq_false hc; omega)
    subst hw0
    obtain ⟨m,lo,hi,e1,ha⟩:=hfin hM hI.len
    simp only [k1,k3,k4,kB,kZ,kD,kE,xn,xi,xm,xe,xf,xg,xh,xl,xk,xj,reduceIte,reduceCtorEq,ya,xz,xr]
    exact ⟨ov,m,lo,hi,out,rfl,e1,ha,hI⟩
  have hne : work≠[]:=fun e1=>by rw [e1] at hc; simp at hc
  obtain ⟨k,W,rfl⟩ : ∃ k W,work = k :: W:=by
    cases work with
    | nil=>exact absurd rfl hne
    | cons k W=>exact ⟨k,W,rfl⟩
  have hkN : k < C.words.length:=by
    have:=(List.getElem?_eq_some_iff.1 (hI.wk k (by simp))).1
    rwa [hI.len] at this
  have hRk:=hI.sound k (hI.wk k (by simp))
  have hWn : 2 * leftW out + W.length + 1 = n:=by rw [hn]; simp; omega
  obtain ⟨b1,o1,he1,_,ha1,_⟩:=hM.wk.arr.get 0 (by simp)
  have p1:=ha1 [] 0 (by omega)
  have hgk : (rowsI (nI (k :: W)))[0]'(by simp) = [iA (k : Int)]:=by simp
  rw [hgk] at p1
  simp only [Nat.add_zero,List.append_nil,List.getElem?_cons_zero] at p1
  have he1' : elemA w 1 (0 : Int) = some (.ptr b1 o1):=he1
  have hI2:=hI.pop (k:=k) (work':=W) (fun x hx=>by simp [hx]) (fun x hx=>by
    rcases List.mem_cons.1 hx with h1 | h1
    · exact .inl h1
    · exact .inr h1)
  have xc : St.atN s' (st.length + 0) 0 6 = some [s,iA C.params,iA C.regs,iA C.code,iA C.spill,bl]:=by
    rw [Nat.add_zero,atN_box hM.c (by decide) 0 6 (by simp)]
    rfl
  have hCs : CodAt s' lo2 hi2 (.agg [s,iA C.params,iA C.regs,iA C.code,iA C.spill,bl]) C:=by
    obtain ⟨mm,hmm⟩:=hM.pre
    rw [hmm]
    exact hCm mm
  simp only [k1,k3,k4,lw,he1',p1,xc,kB,kZ,kD,kE,xn,xi,xm,xe,xf,xg,xh,xl,xk,xj,reduceIte,reduceCtorEq,ya,xz,xr]
  refine wpF.mono (w_r26_Next h hCs hz hkN) ?_
  rintro r S ⟨nl,m,lo3,hi3,rfl,rfl,hnl,hnf⟩
  refine ⟨keptA_nil _ _ _,?_⟩
  have hMm:=hM.grow m
  simp only [k1,k3,k4,kB,kZ,kD,kE,xn,xi,xm,xe,xf,xg,xh,xl,xk,xj,reduceIte,reduceCtorEq,ya,xz,xr]
  refine opR_suf (vx:=w) (n:=1) (by simp only [k4,kB,kZ,kD,kE,xn,xi,xm,xe,xf,xg,xh,xl,xk,xj,reduceIte,reduceCtorEq,ya,xz,xr]) (by first | (simp only [kB,kZ,kD,kE,xn,xi,xm,xe,xf,xg,xh,xl,xk,xj,reduceIte,reduceCtorEq,ya,xz,xr]; done) | (simp only [kB,kZ,kD,kE,xn,xi,xm,xe,xf,xg,xh,xl,xk,xj,reduceIte,reduceCtorEq,ya,xz,xr]; rw [if_pos (by omega)]; rfl)) hMm.wk.arr (by simp) ?_
  intro w1 hw1 hb1
  have hM3 : MetS st (s'++m) [s,iA C.params,iA C.regs,iA C.code,iA C.spill,bl] out w1 W:={
    pre:=hMm.pre
    c:=hMm.c
    o:=hMm.o
    wk:={
      arr:=by
        have : (rowsI (nI (k :: W))).drop 1 = rowsI (nI W):=by simp
        rw [this] at hw1
        exact hw1
      bnd:=fun b hb=>hMm.wk.bnd b (by rw [←hb1]; exact hb)
      m0:=fun b hb=>hMm.wk.m0 b (by rw [←hb1]; exact hb) } }
  have hrng:=nextAt_rng hz hkN
  have hnb : ∀ b,boxOf nl = some b→boxOf w1≠some b∧b≠st.length + 1:=fun b hb=>by
    have h1:=hnf b hb
    refine ⟨fun e1=>?_,fun e1=>?_⟩
    · have:=(hM.wk.bnd b (by rw [←hb1]; exact e1)).2; omega
    · obtain ⟨ver,ho⟩:=hM.o
      have:=(List.getElem?_eq_some_iff.1 ho).1
      omega
  have ln:=hnl.len
  simp only [List.length_map] at ln
  have hnwl : (nextAt C k).length≤1000:=by
    rw [nextAt_eq hkN]
    have h1:=fold_len (waysL k C.words[k].catch_ C.words[k].ops) []
    have h2:=waysL_len k C.words[k].catch_ C.words[k].ops
    have h3:=(wrdsR_zero hok.wds _ (List.getElem_mem hkN)).1
    simp at h1
    omega
  clear hM hI hMm hw1 hb1 xc hCs p1 he1 he1' lw hc hne hgk ha1 hn
  generalize (s'++m : St) = S2 at *
  generalize hLE : nextAt C k = L at *
  simp only [k1,k3,k4,ln,kB,kZ,kD,kE,xn,xi,xm,xe,xf,xg,xh,xl,xk,xj,reduceIte,reduceCtorEq,ya,xz,xr]
  refine loop_inv (fun n2 e s2=>∃ (j : Nat) (out2 : List Bool) (w2 : AV) (work2 : List Nat),j + n2 = L.length∧e 1 = .ptr (st.length + 0) 0∧e 3 = ov∧e 4 = w2∧e 5 = nl∧e 6 = iA j∧MetS st s2 [s,iA C.params,iA C.regs,iA C.code,iA C.spill,bl] out2 w2 work2∧MetI C out2 work2 k (L.take j)∧IntsAt s2 lo3 hi3 nl L∧(∀ b,boxOf nl = some b→boxOf w2≠some b∧b≠st.length + 1)∧2 * leftW out2 + work2.length + 1≤n) ?_ L.length ?_
  case refine_2=>exact ⟨0,out,w1,W,by omega,by simp only [k1,kB,kZ,kD,kE,xn,xi,xm,xe,xf,xg,xh,xl,xk,xj,reduceIte,reduceCtorEq,ya,xz,xr],by simp only [k3,kB,kZ,kD,kE,xn,xi,xm,xe,xf,xg,xh,xl,xk,xj,reduceIte,reduceCtorEq,ya,xz,xr],by simp only [kB,kZ,kD,kE,xn,xi,xm,xe,xf,xg,xh,xl,xk,xj,reduceIte,reduceCtorEq,ya,xz,xr],by simp only [kB,kZ,kD,kE,xn,xi,xm,xe,xf,xg,xh,xl,xk,xj,reduceIte,reduceCtorEq,ya,xz,xr],rfl,hM3,hI2,hnl,hnb,by omega⟩
  clear hM3 hI2 hnl hnb k1 k3 k4 ln
  rintro n2 e s2 ⟨j,out2,w2,work2,hjn,k1,k3,k4,k5,k6,hM,hI,hnl,hnb,hms⟩
  have ln:=hnl.len
  simp only [List.length_map] at ln
  simp only [k1,k3,k4,k5,k6,ln,kB,kZ,kD,kE,xn,xi,xm,xe,xf,xg,xh,xl,xk,xj,reduceIte,reduceCtorEq,ya,xz,xr]
  refine condO_intro ?_ ?_<;>intro hc
  case refine_2 =>
    have hj : j = L.length:=by have:=of_decide_eq_false hc; omega
    subst hj
    rw [List.take_length,← hLE] at hI
    simp only [k1,k3,k4,kB,kZ,kD,kE,xn,xi,xm,xe,xf,xg,xh,xl,xk,xj,reduceIte,reduceCtorEq,ya,xz,xr]
    exact ⟨2 * leftW out2 + work2.length,by omega,out2,w2,work2,rfl,rfl,by omega,hM,hI.done⟩
  have hj : j < L.length:=by have:=of_decide_eq_true hc; omega
  obtain ⟨b1,o1,he1,_,ha1,_⟩:=hnl.get j (by simpa using hj)
  have p1:=ha1 [] 0 (by omega)
  simp only [List.getElem_map,Nat.add_zero,List.append_nil,List.getElem?_cons_zero] at p1
  have hr:=hrng _ (List.getElem_mem hj)
  have htk : L.take (j + 1) = L.take j++[L[j]]:=(List.take_append_getElem hj).symm
  have hmem:=List.getElem_mem hj
  obtain ⟨t,ht⟩ : ∃ t : Nat,L[j] = (t : Int):=⟨L[j].toNat,by omega⟩
  rw [ht] at p1 hr htk hmem
  have htN : t < C.words.length:=by omega
  have hto : t < out2.length:=by rw [hI.len]; exact htN
  have x1:=hM.at_ hto
  have het:=hel t htN
  have hwr : IntKind.wrap .i64 ((j : Int) + 1) = ((j + 1 : Nat) : Int):=by rw [wrap_small (by omega) (by omega)]; omega
  cases hb : out2[t]
  · rw [hb] at x1
    have hgf : out2[t]? = some false:=by rw [List.getElem?_eq_getElem hto,hb]
    have hlf:=leftW_set hgf
    obtain ⟨s3,hp3,hM3,ag3⟩:=hM.mark hto
    have hnl3:=hnl.agree ag3 (fun b hb e=>(hnb b hb).2 e)
    obtain ⟨b3,o3,he3,_,ha3,_⟩:=hnl3.get j (by simpa using hj)
    have p3:=ha3 [] 0 (by omega)
    simp only [List.getElem_map,Nat.add_zero,List.append_nil,List.getElem?_cons_zero] at p3
    rw [ht] at p3
    simp only [k1,k3,k4,k5,k6,ln,he1,p1,het,x1,hp3,kB,kZ,kD,kE,xn,xi,xm,xe,xf,xg,xh,xl,xk,xj,reduceIte,reduceCtorEq,ya,xz,xr]
    rw [he1] at he3
    cases he3
    simp only [k1,k3,k4,k5,k6,ln,he1,p3,kB,kZ,kD,kE,xn,xi,xm,xe,xf,xg,xh,xl,xk,xj,reduceIte,reduceCtorEq,ya,xz,xr]
    refine opR_work (t:=t) hM3 (by omega) (by simp only [kB,kZ,kD,kE,xn,xi,xm,xe,xf,xg,xh,xl,xk,xj,reduceIte,reduceCtorEq,ya,xz,xr]) (by simp only [kB,kZ,kD,kE,xn,xi,xm,xe,xf,xg,xh,xl,xk,xj,reduceIte,reduceCtorEq,ya,xz,xr]) ?_
    intro w4 s4 hM4 ag4 hf4
    have hnl4:=hnl3.agree ag4 (fun b hb y=>(hnb b hb).1 y)
    simp only [k1,k3,k4,k5,k6,ln,hwr,kB,kZ,kD,kE,xn,xi,xm,xe,xf,xg,xh,xl,xk,xj,reduceIte,reduceCtorEq,ya,xz,xr]
    refine ⟨n2 - 1,by omega,j + 1,out2.set t true,w4,work2++[t],by omega,rfl,rfl,hM4,?_,hnl4,fun b hb=>⟨fun e1=>?_,(hnb b hb).2⟩,by simp; omega⟩
    · rw [htk]
      exact hI.push hRk (by rw [hLE]; exact hmem) htN
    · have h1:=hf4 b e1
      have h2:=hnl3.boxlt hb
      omega
  · rw [hb] at x1
    have hgt : out2[t]? = some true:=by rw [List.getElem?_eq_getElem hto,hb]
    simp only [k1,k3,k4,k5,k6,ln,he1,p1,het,x1,hwr,kB,kZ,kD,kE,xn,xi,xm,xe,xf,xg,xh,xl,xk,xj,reduceIte,reduceCtorEq,ya,xz,xr]
    refine ⟨n2 - 1,by omega,j + 1,out2,w2,work2,by omega,rfl,rfl,hM,?_,hnl,hnb,hms⟩
    rw [htk]
    exact hI.seen hgt
end
end Go.VX.Seat
end
section
set_option maxRecDepth 4000
namespace Go.VX.Seat
open Go.Proofs
section
variable {X : Cx}
def MarkAt (S : St) (w : AV) (C : CodV) : Prop:=∃ lo hi out,ArrAt S lo hi w 1 (out.map fun b=>[bA b])∧MetI C out [] C.words.length []
theorem MarkAt.mono {S : St} {w : AV} {C : CodV} (h : MarkAt S w C) (L : St) : MarkAt (S++L) w C:=let ⟨lo,hi,out,h1,h2⟩:=h; ⟨lo,hi,out,h1.mono L,h2⟩
theorem w_words_Reached (h : OnH X) {st : St} (hg : GB st) {lo2 hi2 : Nat} {vc : AV} {C : CodV} (hC : CodAt st lo2 hi2 vc C) :
    wpF X 12 [vc] st fun r S=>∃ w m,r = .ret (.tup [w,iA (chkR C)])∧S = st++m∧(chkR C≠0→lenA w = some 0)∧(chkR C = 0→MarkAt S w C):=by
  refine wpF_go (fn:=v_words_Reached) (by rw [h.F]; rfl) ?_
  have hm:=fun L=>hC.mono L
  obtain ⟨s,bl,rfl,hs,hb⟩:=hC
  simp only [v_words_Reached,kB,kZ,kD,kE,xn,xi,xm,xe,xf,xg,xh,xl,xk,xj,reduceIte,reduceCtorEq,ya,xz,xr]
  have j1:=j_words_Check h (hg.app [⟨[s,iA C.params,iA C.regs,iA C.code,iA C.spill,bl],0,0⟩]) (hm _)
  rw [chk_eq] at j1
  refine callO_same j1 ?_
  simp only [kB,kZ,kD,kE,xn,xi,xm,xe,xf,xg,xh,xl,xk,xj,reduceIte,reduceCtorEq,ya,xz,xr]
  cases hE : decide (chkR C≠0)
  case true =>
    have hne:=of_decide_eq_true hE
    simp only [hE,kB,kZ,kD,kE,xn,xi,xm,xe,xf,xg,xh,xl,xk,xj,reduceIte,reduceCtorEq,ya,xz,xr]
    exact ⟨.sc (.slice none 0 0),_,rfl,rfl,fun _=>rfl,fun e=>absurd e hne⟩
  have hz : chkR C = 0:=Classical.byContradiction fun e=>of_decide_eq_false hE e
  simp only [hE,kB,kZ,kD,kE,xn,xi,xm,xe,xf,xg,xh,xl,xk,xj,reduceIte,reduceCtorEq,ya,xz,xr]
  refine wpF.mono (w_Met h (hm _) hz) ?_
  rintro r S ⟨w,m,lo,hi,out,rfl,rfl,ha,hI⟩
  refine ⟨keptA_nil _ _ _,?_⟩
  simp only [kB,kZ,kD,kE,xn,xi,xm,xe,xf,xg,xh,xl,xk,xj,reduceIte,reduceCtorEq,ya,xz,xr]
  rw [List.append_assoc] at ha
  exact ⟨w,_,by rw [hz],rfl,fun e=>absurd hz e,fun _=>⟨lo,hi,out,ha,hI⟩⟩
end
end Go.VX.Seat
end
section
set_option maxRecDepth 4000
namespace Go.VX.Seat
open Go.Proofs
theorem c_neqb26 (a : Bool) (ox oy : Operand) : closed Tryz.prog (do eqGuard .neq 4 ox oy (.bool a) (.bool a); binOp .neq 4 (.bool a) (.bool a)) = some (.bool false):=by cases a<;>kernel_rfl
structure FaN (st S : St) (cb ob : Nat) (cc co : List AV) (C : CodV) : Prop where
  c : ∃ lo hi,CodAt S lo hi (.agg co) C
  cb : BoxAt S cb cc
  ob : BoxAt S ob co
  g : GB S
  pre : ∃ m,S = st++m
theorem FaN.app {st S : St} {cb ob : Nat} {cc co : List AV} {C : CodV} (h : FaN st S cb ob cc co C) (L : St) : FaN st (S++L) cb ob cc co C where
  c:=let ⟨lo,hi,x⟩:=h.c; ⟨lo,hi,x.mono L⟩
  cb:=h.cb.ext (Ext.of _ _)
  ob:=h.ob.ext (Ext.of _ _)
  g:=h.g.app L
  pre:=let ⟨m,x⟩:=h.pre; ⟨m++L,by rw [x,List.append_assoc]⟩
section
variable {X : Cx} {st : St}
set_option maxHeartbeats 8000000 in
theorem w_WordsNexts (h : OnH X) (hg : GB st) {lo hi : Nat} {v : AV} {U0 : CodV} (hv : CodAt st lo hi v U0) (n : Int) :
    wpF X 3 [v,iA n] st fun r s=>r = .ret (bA true)∧∃ m,s = st++m:=by
  refine wpF_go (fn:=v_l26_WordsNexts) (by rw [h.F]; rfl) ?_
  have hm:=fun L=>hv.mono L
  obtain ⟨s,bl,rfl,hs,hb⟩:=hv
  clear hs hb
  have hcU : ∀ {S : St},(∃ m,S = st++m)→wpF X 10 [.agg [s,iA U0.params,iA U0.regs,iA U0.code,iA U0.spill,bl]] S fun r s=>∃ w,r = .ret w∧(∃ m,s = S++m)∧∃ lo hi,S.length≤lo∧CodAt s lo hi w (cut26 U0):=fun {S} e=>by
    obtain ⟨m,rfl⟩:=e
    exact w_l26_cut h.toOn (hm m)
  generalize cut26 U0 = C at *
  simp only [v_l26_WordsNexts,kB,kZ,kD,kE,xn,xi,xm,xe,xf,xg,xh,xl,xk,xj,reduceIte,reduceCtorEq,ya,xz,xr]
  refine callO_codB (hcU ⟨_,rfl⟩) ?_
  intro w1 m1 lo1 hi1 g1 c1
  obtain ⟨sz1,bl1,e1,hs1,hb1⟩:=c1
  have hsc1:=isCell_len hs1.len
  have hsl1:=cellsOf_len hs1.len
  have hbc1 : bl1.isCell = true:=let ⟨_,hb,_⟩:=hb1; isCell_len hb.len
  have c1 : CodAt _ lo1 hi1 w1 C:=⟨sz1,bl1,e1,hs1,hb1⟩
  have hl1 : lenA bl1 = some C.words.length:=by
    obtain ⟨_,hb,_⟩:=hb1
    simpa using hb.len
  clear hs1 hb1
  subst e1
  have gS:=hg.app ([⟨[s,iA U0.params,iA U0.regs,iA U0.code,iA U0.spill,bl],0,0⟩]++m1)
  have hpre : ∃ m,(st++[⟨[s,iA U0.params,iA U0.regs,iA U0.code,iA U0.spill,bl],0,0⟩]++m1 : St) = st++m:=⟨_,List.append_assoc _ _ _⟩
  have cB : BoxAt (st++[⟨[s,iA U0.params,iA U0.regs,iA U0.code,iA U0.spill,bl],0,0⟩]++m1) (st.length + 0) [s,iA U0.params,iA U0.regs,iA U0.code,iA U0.spill,bl]:=(BoxAt.of (m:=0) (v:=0) (by simp) (by decide) : BoxAt (st++[⟨[s,iA U0.params,iA U0.regs,iA U0.code,iA U0.spill,bl],0,0⟩]) (st.length + 0) [s,iA U0.params,iA U0.regs,iA U0.code,iA U0.spill,bl]).ext (Ext.of _ _)
  rw [←List.append_assoc] at gS
  generalize (st++[⟨[s,iA U0.params,iA U0.regs,iA U0.code,iA U0.spill,bl],0,0⟩]++m1 : St) = S1 at *
  rw [←List.append_nil S1]
  simp only [hsc1,hsl1,hbc1,kB,kZ,kD,kE,xn,xi,xm,xe,xf,xg,xh,xl,xk,xj,reduceIte,reduceCtorEq,ya,xz,xr]
  have hF0 : FaN st (S1++[⟨[sz1,iA C.params,iA C.regs,iA C.code,iA C.spill,bl1],0,1⟩]) (st.length + 0) (S1.length + 0) _ _ C:=⟨⟨_,_,c1.mono _⟩,cB.ext (Ext.of _ _),BoxAt.of (m:=0) (v:=1) (by simp) (by decide),gS.app _,let ⟨m,e⟩:=hpre; ⟨m++[⟨[sz1,iA C.params,iA C.regs,iA C.code,iA C.spill,bl1],0,1⟩],by rw [e,List.append_assoc]⟩⟩
  clear c1 cB gS hpre hm g1
  generalize (S1++[⟨[sz1,iA C.params,iA C.regs,iA C.code,iA C.spill,bl1],0,1⟩] : St) = S2 at *
  generalize st.length + 0 = cb at *
  generalize S1.length + 0 = ob at *
  have cx:=hF0.cb.atN [] 0 6 (by simp)
  simp only [List.append_nil] at cx
  simp only [cx,kB,kZ,kD,kE,xn,xi,xm,xe,xf,xg,xh,xl,xk,xj,reduceIte,reduceCtorEq,ya,xz,xr]
  refine callO_codB (hcU hF0.pre) ?_
  intro w2 m2 lo2 hi2 _ c2
  have hF1:=hF0.app m2
  clear hF0 cx
  generalize (S2++m2 : St) = S3 at *
  simp only [kB,kZ,kD,kE,xn,xi,xm,xe,xf,xg,xh,xl,xk,xj,reduceIte,reduceCtorEq,ya,xz,xr]
  refine wpF.mono (w_words_Next h hF1.g c2 n) ?_
  rintro r S ⟨w3,m3,e3,rfl,rfl,hn1,hn2,hn3⟩
  refine ⟨keptA_nil _ _ _,?_⟩
  have hF3:=hF1.app m3
  clear hF1 c2
  generalize (S3++m3 : St) = S4 at *
  have cx:=hF3.cb.atN [] 0 6 (by simp)
  simp only [List.append_nil] at cx
  simp only [cx,kB,kZ,kD,kE,xn,xi,xm,xe,xf,xg,xh,xl,xk,xj,reduceIte,reduceCtorEq,ya,xz,xr]
  refine callO_codB (hcU hF3.pre) ?_
  intro w5 m5 lo5 hi5 _ c5
  have hF5:=hF3.app m5
  have hn5 : chkR C = 0→regOkA C.words.length n = true→e3 = 0∧∃ lo hi,IntsAt (S4++m5) lo hi w3 (nextAt C n.toNat):=fun a b=>let ⟨x,lo,hi,y⟩:=hn3 a b; ⟨x,lo,hi,ArrAt.mono y _⟩
  clear hF3 cx hn3
  generalize (S4++m5 : St) = S5 at *
  simp only [kB,kZ,kD,kE,xn,xi,xm,xe,xf,xg,xh,xl,xk,xj,reduceIte,reduceCtorEq,ya,xz,xr]
  refine wpF.mono (w_words_Reached h hF5.g c5) ?_
  rintro r S ⟨w6,m6,rfl,rfl,hr1,hr2⟩
  refine ⟨keptA_nil _ _ _,?_⟩
  have hF6:=hF5.app m6
  have hn6 : chkR C = 0→regOkA C.words.length n = true→e3 = 0∧∃ lo hi,IntsAt (S5++m6) lo hi w3 (nextAt C n.toNat):=fun a b=>let ⟨x,lo,hi,y⟩:=hn5 a b; ⟨x,lo,hi,ArrAt.mono y _⟩
  clear hF5 c5 hn5
  generalize (S5++m6 : St) = S6 at *
  have cx:=hF6.cb.atN [] 0 6 (by simp)
  simp only [List.append_nil] at cx
  simp only [cx,kB,kZ,kD,kE,xn,xi,xm,xe,xf,xg,xh,xl,xk,xj,reduceIte,reduceCtorEq,ya,xz,xr]
  refine callO_codB (hcU hF6.pre) ?_
  intro w7 m7 lo7 hi7 _ c7
  have hF7:=hF6.app m7
  have hn7 : chkR C = 0→regOkA C.words.length n = true→e3 = 0∧∃ lo hi,IntsAt (S6++m7) lo hi w3 (nextAt C n.toNat):=fun a b=>let ⟨x,lo,hi,y⟩:=hn6 a b; ⟨x,lo,hi,ArrAt.mono y _⟩
  have hr7 : chkR C = 0→MarkAt (S6++m7) w6 C:=fun a=>(hr2 a).mono _
  clear hF6 cx hn6 hr2
  generalize (S6++m7 : St) = S7 at *
  simp only [kB,kZ,kD,kE,xn,xi,xm,xe,xf,xg,xh,xl,xk,xj,reduceIte,reduceCtorEq,ya,xz,xr]
  refine wpF.mono (w_words_Density h hF7.g c7) ?_
  rintro r S8 ⟨⟨m8,rfl⟩,hd1,hd2⟩
  have hd : ∃ x y : Int,r = .ret (.tup [iA x,iA y,iA (chkR C)])∧(chkR C≠0→x = 0∧y = 0)∧(chkR C = 0→x = (totW C.words : Int)∧y = (emptyW C.words : Int)):=by
    by_cases hz : chkR C = 0
    · exact ⟨_,_,by rw [hd2 hz,hz],fun e=>absurd hz e,fun _=>⟨rfl,rfl⟩⟩
    · exact ⟨0,0,hd1 hz,fun _=>⟨rfl,rfl⟩,fun e=>absurd e hz⟩
  clear hd1 hd2
  obtain ⟨x,y,rfl,hd1,hd2⟩:=hd
  refine ⟨keptA_nil _ _ _,?_⟩
  have hF8:=hF7.app m8
  have hn8 : chkR C = 0→regOkA C.words.length n = true→e3 = 0∧∃ lo hi,IntsAt (S7++m8) lo hi w3 (nextAt C n.toNat):=fun a b=>let ⟨x,lo,hi,y⟩:=hn7 a b; ⟨x,lo,hi,ArrAt.mono y _⟩
  have hr8 : chkR C = 0→MarkAt (S7++m8) w6 C:=fun a=>(hr7 a).mono _
  clear hF7 c7 hn7 hr7
  generalize (S7++m8 : St) = S8 at *
  have ox:=hF8.ob.atN [] 0 6 (by simp)
  simp only [List.append_nil] at ox
  obtain ⟨loC,hiC,hC⟩:=hF8.c
  simp only [ox,kB,kZ,kD,kE,xn,xi,xm,xe,xf,xg,xh,xl,xk,xj,reduceIte,reduceCtorEq,ya,xz,xr]
  refine callO_same (j_r26_Check h.toOn hC) ?_
  simp only [kB,kZ,kD,kE,xn,xi,xm,xe,xf,xg,xh,xl,xk,xj,reduceIte,reduceCtorEq,ya,xz,xr]
  cases hE : decide (chkR C≠0)
  case true =>
    have hne:=of_decide_eq_true hE
    obtain ⟨rfl,l3⟩:=hn1 hne
    obtain ⟨rfl,rfl⟩:=hd1 hne
    have l6:=hr1 hne
    simp only [hE,l3,l6,decide_true,kB,kZ,kD,kE,xn,xi,xm,xe,xf,xg,xh,xl,xk,xj,reduceIte,reduceCtorEq,ya,xz,xr]
    refine callO_same (.hook (h.alive _ hF8.g)) ?_
    simp only [kB,kZ,kD,kE,xn,xi,xm,xe,xf,xg,xh,xl,xk,xj,reduceIte,reduceCtorEq,ya,xz,xr]
    exact hF8.pre
  have hz : chkR C = 0:=Classical.byContradiction fun e=>of_decide_eq_false hE e
  obtain ⟨rfl,rfl⟩:=hd2 hz
  clear hn1 hr1 hd1 hd2
  have e9 : decide ((chkR C)≠0) = false:=hE
  simp only [hE,ox,kB,kZ,kD,kE,xn,xi,xm,xe,xf,xg,xh,xl,xk,xj,reduceIte,reduceCtorEq,ya,xz,xr]
  refine callO_same (j_r26_Density h.toOn hC hz) ?_
  simp only [ox,kB,kZ,kD,kE,xn,xi,xm,xe,xf,xg,xh,xl,xk,xj,reduceIte,reduceCtorEq,ya,xz,xr]
  refine wpF.mono (w_r26_Reached h.toOn hC hz) ?_
  rintro r S ⟨w9,m9,lo9,hi9,out9,rfl,rfl,ha9,hI9⟩
  refine ⟨keptA_nil _ _ _,?_⟩
  have hF9:=hF8.app m9
  have hn9 : regOkA C.words.length n = true→e3 = 0∧∃ lo hi,IntsAt (S8++m9) lo hi w3 (nextAt C n.toNat):=fun b=>let ⟨x,lo,hi,y⟩:=hn8 hz b; ⟨x,lo,hi,ArrAt.mono y _⟩
  obtain ⟨lo6,hi6,out6,ha6,hI6⟩:=(hr8 hz).mono m9
  have hoo:=hI6.same hI9
  subst hoo
  replace hn2:=hn2 hz
  clear hF8 ox hC hn8 hr8 hI6
  generalize (S8++m9 : St) = S9 at *
  have l6:=ha6.len
  have l9:=ha9.len
  simp only [List.length_map] at l6 l9
  have lO:=hI9.len
  have n60:=(chkR_ok hz).n60
  have nxx : ∀ x : Int,decide (x≠x) = false:=fun x=>decide_eq_false fun e=>e rfl
  rw [hz]
  simp only [l6,l9,nxx,kB,kZ,kD,kE,xn,xi,xm,xe,xf,xg,xh,xl,xk,xj,reduceIte,reduceCtorEq,ya,xz,xr]
  refine anyLoop (mB m0) (fun e s=>s = S9∧e 1 = iA n∧e 5 = .ptr ob 0∧e 6 = w3∧e 7 = iA e3) ?_ ?_
  · refine loop_inv (fun k e s=>∃ j : Nat,j + k = out6.length∧s = S9∧e 1 = iA n∧e 5 = .ptr ob 0∧e 6 = w3∧e 7 = iA e3∧e 8 = w6∧e 16 = w9∧e 17 = iA j) ?_ out6.length ?_
    case refine_2=>exact ⟨0,by omega,rfl,rfl,rfl,rfl,rfl,rfl,rfl,rfl⟩
    rintro k e s ⟨j,hjk,rfl,k1,k5,k6,k7,k8,k16,k17⟩
    simp only [k1,k5,k6,k7,k8,k16,k17,l6,kB,kZ,kD,kE,xn,xi,xm,xe,xf,xg,xh,xl,xk,xj,reduceIte,reduceCtorEq,ya,xz,xr]
    refine condO_intro ?_ ?_<;>intro hc
    case refine_2 =>
      simp only [k1,k5,k6,k7,kB,kZ,kD,kE,xn,xi,xm,xe,xf,xg,xh,xl,xk,xj,reduceIte,reduceCtorEq,ya,xz,xr]
    have hj : j < out6.length:=by have:=of_decide_eq_true hc; omega
    obtain ⟨b1,o1,q1,_,p1',_⟩:=ha6.get j (by simpa using hj)
    obtain ⟨b2,o2,q2,_,p2',_⟩:=ha9.get j (by simpa using hj)
    have p1:=p1' [] 0 (by omega)
    have p2:=p2' [] 0 (by omega)
    simp only [List.getElem_map,Nat.add_zero,List.append_nil,List.getElem?_cons_zero] at p1 p2
    have hwr : IntKind.wrap .i64 ((j : Int) + 1) = ((j + 1 : Nat) : Int):=by rw [wrap_small (by omega) (by omega)]; omega
    simp only [k1,k5,k6,k7,k8,k16,k17,q1,q2,p1,p2,h.P,c_neqb26,hwr,kB,kZ,kD,kE,xn,xi,xm,xe,xf,xg,xh,xl,xk,xj,reduceIte,reduceCtorEq,ya,xz,xr]
    exact ⟨k - 1,by omega,j + 1,by omega,rfl⟩
  rintro e s ⟨rfl,k1,k5,k6,k7⟩
  have ox:=hF9.ob.atN [] 0 6 (by simp)
  simp only [List.append_nil] at ox
  have o5:=hF9.ob.at1 [] 5
  simp only [List.append_nil,List.getElem?_cons_succ,List.getElem?_cons_zero] at o5
  obtain ⟨loC,hiC,hC⟩:=hF9.c
  have hend : ∀ L,∃ m,s++L = st++m:=fun L=>let ⟨m,e⟩:=hF9.pre; ⟨m++L,by rw [e,List.append_assoc]⟩
  cases h0 : decide (n < 0)
  case true =>
    have hr : regOkA C.words.length n = false:=by
      have:=of_decide_eq_true h0
      unfold regOkA
      rw [Bool.and_eq_false_iff]
      exact .inl (decide_eq_false (by omega))
    obtain ⟨rfl,l3⟩:=hn2 hr
    simp only [k1,k5,k6,k7,h0,l3,decide_true,kB,kZ,kD,kE,xn,xi,xm,xe,xf,xg,xh,xl,xk,xj,reduceIte,reduceCtorEq,ya,xz,xr]
    refine callO_same (.hook (h.alive _ hF9.g)) ?_
    simp only [kB,kZ,kD,kE,xn,xi,xm,xe,xf,xg,xh,xl,xk,xj,reduceIte,reduceCtorEq,ya,xz,xr]
    exact hF9.pre
  cases h1 : decide ((C.words.length : Int)≤n)
  case true =>
    have hr : regOkA C.words.length n = false:=by
      have:=of_decide_eq_true h1
      unfold regOkA
      rw [Bool.and_eq_false_iff]
      exact .inr (decide_eq_false (by omega))
    obtain ⟨rfl,l3⟩:=hn2 hr
    simp only [k1,k5,k6,k7,h0,h1,l3,o5,hl1,decide_true,kB,kZ,kD,kE,xn,xi,xm,xe,xf,xg,xh,xl,xk,xj,reduceIte,reduceCtorEq,ya,xz,xr]
    refine callO_same (.hook (h.alive _ hF9.g)) ?_
    simp only [kB,kZ,kD,kE,xn,xi,xm,xe,xf,xg,xh,xl,xk,xj,reduceIte,reduceCtorEq,ya,xz,xr]
    exact hF9.pre
  have hn0:=of_decide_eq_false h0
  have hnl:=of_decide_eq_false h1
  have hr : regOkA C.words.length n = true:=by
    unfold regOkA
    rw [Bool.and_eq_true]
    exact ⟨decide_eq_true (by omega),decide_eq_true (by omega)⟩
  obtain ⟨rfl,lo3,hi3,h3⟩:=hn9 hr
  obtain ⟨i,rfl⟩ : ∃ i : Nat,n = i:=⟨n.toNat,by omega⟩
  rw [Int.toNat_natCast] at h3
  simp only [k1,k5,k6,k7,h0,h1,ox,o5,hl1,kB,kZ,kD,kE,xn,xi,xm,xe,xf,xg,xh,xl,xk,xj,reduceIte,reduceCtorEq,ya,xz,xr]
  refine wpF.mono (w_r26_Next h.toOn hC hz (i:=i) (by omega)) ?_
  rintro r S ⟨w10,m10,lo10,hi10,rfl,rfl,h10,_⟩
  refine ⟨keptA_nil _ _ _,?_⟩
  replace h3:=ArrAt.mono h3 m10
  have g10:=hF9.g.app m10
  replace hend:=hend m10
  have hLl : (nextAt C i).length≤1000000:=by
    have hkN : i < C.words.length:=by omega
    rw [nextAt_eq hkN]
    have q1:=fold_len (waysL i C.words[i].catch_ C.words[i].ops) []
    have q2:=waysL_len i C.words[i].catch_ C.words[i].ops
    have q3:=(wrdsR_zero (chkR_ok hz).wds _ (List.getElem_mem hkN)).1
    simp at q1
    omega
  generalize nextAt C i = L at *
  clear ha6 ha9 hC o5 ox hF9 hn9
  generalize (s++m10 : St) = S10 at *
  have l3:=ArrAt.len h3
  have l10:=ArrAt.len h10
  simp only [List.length_map] at l3 l10
  simp only [k1,k5,k6,k7,l3,l10,nxx,kB,kZ,kD,kE,xn,xi,xm,xe,xf,xg,xh,xl,xk,xj,reduceIte,reduceCtorEq,ya,xz,xr]
  refine loop_inv (fun k e s=>∃ j : Nat,j + k = L.length∧s = S10∧e 6 = w3∧e 18 = w10∧e 19 = iA j) ?_ L.length ?_
  case refine_2=>exact ⟨0,by omega,rfl,k6,rfl,rfl⟩
  clear k1 k5 k6 k7
  rintro k e s ⟨j,hjk,rfl,k6,k18,k19⟩
  simp only [k6,k18,k19,l3,kB,kZ,kD,kE,xn,xi,xm,xe,xf,xg,xh,xl,xk,xj,reduceIte,reduceCtorEq,ya,xz,xr]
  refine condO_intro ?_ ?_<;>intro hc
  case refine_2 =>
    simp only [kB,kZ,kD,kE,xn,xi,xm,xe,xf,xg,xh,xl,xk,xj,reduceIte,reduceCtorEq,ya,xz,xr]
    refine callO_same (.hook (h.alive _ g10)) ?_
    simp only [kB,kZ,kD,kE,xn,xi,xm,xe,xf,xg,xh,xl,xk,xj,reduceIte,reduceCtorEq,ya,xz,xr]
    exact hend
  have hj : j < L.length:=by have:=of_decide_eq_true hc; omega
  obtain ⟨b1,o1,q1,_,p1',_⟩:=ArrAt.get h3 j (by simpa using hj)
  obtain ⟨b2,o2,q2,_,p2',_⟩:=ArrAt.get h10 j (by simpa using hj)
  have p1:=p1' [] 0 (by omega)
  have p2:=p2' [] 0 (by omega)
  simp only [List.getElem_map,Nat.add_zero,List.append_nil,List.getElem?_cons_zero] at p1 p2
  have hwr : IntKind.wrap .i64 ((j : Int) + 1) = ((j + 1 : Nat) : Int):=by rw [wrap_small (by omega) (by omega)]; omega
  simp only [k6,k18,k19,q1,q2,p1,p2,nxx,hwr,kB,kZ,kD,kE,xn,xi,xm,xe,xf,xg,xh,xl,xk,xj,reduceIte,reduceCtorEq,ya,xz,xr]
  exact ⟨k - 1,by omega,j + 1,by omega,rfl⟩
end
end Go.VX.Seat
end
