/- A part of the proofs of the statements of one layer: R3n. No condition is added here. -/
import Derived.ProofKit
import Derived.LaidMore
import Derived.LaidLaws
import Derived.OpenShut
import Derived.Stop.Joined
import Derived.Test.YtcemloapifojkaaGreatDoorXC18
set_option linter.unusedVariables false
set_option linter.unusedSimpArgs false
section
set_option maxRecDepth 4000
namespace Go.VX
mutual
def flatD {H : Type} : DataW H→List Value
  | .lit (.int k n)=>[.int k n]
  | .lit (.string l)=>[.string ⟨l.toArray⟩]
  | .agg ds=>flatDs ds
  | _=>[]
def flatDs {H : Type} : List (DataW H)→List Value
  | []=>[]
  | d :: r=>flatD d++flatDs r
end
theorem flatDs_eq {H : Type} : ∀ (l : List (DataW H)),flatDs l = (l.map flatD).flatten
  | []=>by simp [flatDs]
  | d :: r=>by simp only [flatDs,List.map_cons,List.flatten_cons,flatDs_eq r]
def tilesFs (sz : TypeId→Nat) (ok : TypeId→Bool) (tot : Nat) : List Field→Nat→Bool
  | [],o=>Nat.beq o tot
  | f :: fs,o=>Nat.beq f.offset o && ok f.type && tilesFs sz ok tot fs (o + sz f.type)
def tiles (P : Program) : Nat→TypeId→Bool
  | 0,_=>false
  | n + 1,t=>match P.underlying t with
    | some (.int _)=>true
    | some .string=>true
    | some (.struct fs)=>tilesFs P.cellsOf (tiles P n) (P.cellsOf t) fs.toList 0
    | some (.array m e)=>tiles P n e && Nat.beq (m * P.cellsOf e) (P.cellsOf t)
    | _=>false
theorem tilesFs_piece {sz : TypeId→Nat} {ok : TypeId→Bool} {tot : Nat} {cs : List Value} (hl : cs.length = tot) : ∀ (fs : List Field) (o : Nat),tilesFs sz ok tot fs o = true→(fs.map fun f=>(cs.drop f.offset).take (sz f.type)).flatten = cs.drop o
  | [],o,h=>by
    have : o = tot:=Nat.eq_of_beq_eq_true h
    rw [List.map_nil,List.flatten_nil,List.drop_eq_nil_of_le (by omega)]
  | f :: fs,o,h=>by
    simp only [tilesFs,Bool.and_eq_true] at h
    have e : f.offset = o:=Nat.eq_of_beq_eq_true h.1.1
    rw [List.map_cons,List.flatten_cons,tilesFs_piece hl fs _ h.2,e,← List.drop_drop,List.take_append_drop]
theorem tilesFs_ok {sz : TypeId→Nat} {ok : TypeId→Bool} {tot : Nat} : ∀ (fs : List Field) (o : Nat),tilesFs sz ok tot fs o = true→∀ f ∈ fs,ok f.type = true
  | [],o,h,f,hf=>by cases hf
  | g :: fs,o,h,f,hf=>by
    simp only [tilesFs,Bool.and_eq_true] at h
    rcases List.mem_cons.1 hf with rfl | hf
    · exact h.1.2
    · exact tilesFs_ok fs _ h.2 f hf
theorem pieces_row {cs : List Value} {s : Nat} : ∀ (k n : Nat),cs.length = (k + n) * s→((List.range' k n).map fun i=>(cs.drop (i * s)).take s).flatten = cs.drop (k * s)
  | k,0,h=>by simp at h; rw [List.drop_eq_nil_of_le (by omega)]; rfl
  | k,n + 1,h=>by
    rw [List.range'_succ,List.map_cons,List.flatten_cons,pieces_row (k + 1) n (by rw [h]; congr 1; omega),show (k + 1) * s = k * s + s by rw [Nat.succ_mul],← List.drop_drop,List.take_append_drop]
section
variable {H : Type} {enc : TypeId × Value→H} {P : Program} {W : World}
theorem trod_flat {hd : Nat→Bool} {sp : Bool} : ∀ (n : Nat) (t : TypeId) (m : Nat) (cs : List Value) (x : DataW H × List MemPlace),tiles P n t = true→DataW.trod enc P W 0 hd sp m t cs = some x→flatD x.1 = cs
  | 0,t,m,cs,x,h,_=>by cases h
  | n + 1,t,m,cs,x,h,ht=>by
    unfold tiles at h
    split at h
    · rename_i k hu
      obtain ⟨v,rfl,rfl,_⟩:=DataW.trod_int hu ht
      rfl
    · rename_i hu
      obtain ⟨s,rfl,rfl,_⟩:=DataW.trod_string hu ht
      simp [flatD]
    · rename_i fs hu
      obtain ⟨xs,m',_,rfl,hl,hx,hf⟩:=DataW.trod_struct hu ht
      have hp:=tilesFs_piece hl fs.toList 0 h
      have hok:=tilesFs_ok fs.toList 0 h
      simp only [List.drop_zero] at hp
      rw [flatD,flatDs_eq,List.map_map,← hp]
      congr 1
      refine List.ext_getElem (by simpa using hx) fun i h1 h2=>?_
      simp only [List.length_map,Array.length_toList] at h1 h2
      have:=hf i fs[i] (Array.getElem?_eq_getElem (by omega))
      rw [List.getElem?_eq_getElem (by omega)] at this
      simp only [List.getElem_map,Function.comp_apply,Array.getElem_toList]
      exact trod_flat n _ m' _ _ (hok _ (by simp)) this
    · rename_i k e hu
      simp only [Bool.and_eq_true] at h
      obtain ⟨xs,m',_,rfl,hl,hx,hf⟩:=DataW.trod_array hu ht
      have hs : k * P.cellsOf e = P.cellsOf t:=Nat.eq_of_beq_eq_true h.2
      have hp:=pieces_row (cs:=cs) (s:=P.cellsOf e) 0 k (by rw [hl,← hs,Nat.zero_add])
      simp only [Nat.zero_mul,List.drop_zero] at hp
      rw [flatD,flatDs_eq,List.map_map,← hp]
      congr 1
      refine List.ext_getElem (by simpa using hx) fun i h1 h2=>?_
      simp only [List.length_map,List.length_range'] at h1 h2
      have:=hf i h2
      rw [List.getElem?_eq_getElem (by omega)] at this
      simp only [List.getElem_map,Function.comp_apply,List.getElem_range',Nat.zero_add,Nat.one_mul]
      exact trod_flat n _ m' _ _ h.1 this
    · cases h
def layA {H : Type} : DataW H→List AV
  | .iface _ _=>[.err]
  | d=>(flatD d).map AV.sc
def layT {H : Type} (P : Program) (t : TypeId) : DataW H→Bool
  | .iface _ _=>match P.underlying t with | some (.interface _)=>true | _=>false
  | _=>tiles P 8 t
def layV : AV→Bool
  | .sc v=>cellVal v
  | .err=>true
  | _=>false
theorem lay_if {H : Type} {enc : TypeId × Value→H} {P : Program} {W : World} {sp : Nat→Bool} {t : TypeId} {m : Nat} {cs : List Value} {nm : String} {d : DataW H} {p : List MemPlace} (ht : layT P t (.iface nm d : DataW H) = true) (h : DataW.trod enc P W 0 sp false m t cs = some (.iface nm d,p)) : ∃ u v,cs = [.iface u v]:=by
  have ht' : (match P.underlying t with | some (.interface _)=>true | _=>false) = true:=ht
  split at ht'
  · rename_i ms hu
    obtain ⟨_,u,v,e,_⟩:=iface_of_trod hu h
    exact ⟨u,v,e⟩
  · cases ht'
theorem lay_flat {H : Type} {enc : TypeId × Value→H} {P : Program} {W : World} {sp : Nat→Bool} {t : TypeId} {m : Nat} {cs : List Value} {x : DataW H × List MemPlace} (ht : layT P t x.1 = true) (h : DataW.trod enc P W 0 sp false m t cs = some x) : (∃ u v,cs = [.iface u v]∧layA x.1 = [.err])∨layA x.1 = cs.map AV.sc:=by
  obtain ⟨d,p⟩:=x
  cases d with
  | iface nm d =>
    obtain ⟨u,v,e⟩:=lay_if ht h
    exact .inl ⟨u,v,e,rfl⟩
  | _=>exact .inr (by rw [←trod_flat 8 t m cs _ ht h]; rfl)
theorem laidVars_mem {W : World} : ∀ {l : List (String × DataW Unit)} {ps : List MemPlace},DataW.LaidVars P W l ps→∀ x ∈ l,∃ g t cs fuel p,P.globalNamed x.1 = some g∧(P.globals[g]?).map (·.type) = some t∧W.var? P x.1 = some cs∧DataW.trod (fun _=>()) P W 0 (fun _=>true) false fuel t cs.toList = some (x.2,p)
  | [],_,_,x,hx=>by cases hx
  | (n,d) :: r,ps,h,x,hx=>by
    obtain ⟨g,t,cs,fuel,p,q,h1,h2,h3,h4,h5,_⟩:=h
    rcases List.mem_cons.1 hx with rfl | hx
    · exact ⟨g,t,cs,fuel,p,h1,h2,h3,h4⟩
    · exact laidVars_mem h5 x hx
theorem var_lt {W : World} {n : String} {g : Nat} {cs : Array Value} (hg : P.globalNamed n = some g) (h : W.var? P n = some cs) : g < W.heap.size:=by
  unfold World.var? at h
  rw [hg] at h
  simp only [Option.bind_some] at h
  cases hh : W.heap[g]? with
  | none=>rw [hh] at h; simp at h
  | some o=>exact (Array.getElem?_eq_some_iff.1 hh).1
end
namespace Seat
open Go.Proofs Go.ChangeShapes
theorem own : ownKnob Go.Proofs.Tryz.prog.godebug = none:=by kernel_rfl
theorem glS_cells : glS.map (·.cells) = glI.map fun i=>match i.bind fun i=>laidL[i]? with | some x=>layA x.2 | none=>[]:=by kernel_rfl
theorem glS_val : (glS.all fun x=>x.cells.all layV) = true:=by kernel_rfl
noncomputable def tyOf (g : Nat) : Option TypeId:=(Go.Proofs.Tryz.prog.globals[g]?).map (·.type)
theorem gl_ok : (([1,0,2,3,8,9] : List Nat).zip glI).all (fun x=>match x.2.bind fun i=>laidL[i]? with
    | some y=>(match Go.Proofs.Tryz.prog.globalNamed y.1 with | some g=>Nat.beq g x.1 | none=>false) && (match tyOf x.1 with | some t=>layT Go.Proofs.Tryz.prog t y.2 | none=>false)
    | none=>true) = true:=by kernel_rfl
theorem gl_max : laidL.any (fun x=>match Go.Proofs.Tryz.prog.globalNamed x.1 with | some g=>([1,0,2,3,8,9] : List Nat).all fun k=>Nat.ble k g | none=>false) = true:=by kernel_rfl
theorem glI_len : glI.length = glS.length:=rfl
section
variable {W : World}
theorem laid_plain (h : laidMetH Go.Proofs.Tryz.prog laidL W) : ∃ ps,DataW.LaidVars Go.Proofs.Tryz.prog W laidL ps:=by
  rw [MakeChecks.laidMetH_plain _ _ _ (by kernel_rfl)] at h
  obtain ⟨ps,h,_⟩:=h
  exact ⟨ps,h⟩
theorem gl_lt (h : laidMetH Go.Proofs.Tryz.prog laidL W) {j g : Nat} (hg : ([1,0,2,3,8,9] : List Nat)[j]? = some g) : g < W.heap.size:=by
  obtain ⟨ps,h⟩:=laid_plain h
  have:=gl_max
  rw [List.any_eq_true] at this
  obtain ⟨x,hx,hm⟩:=this
  obtain ⟨g',t,cs,fuel,p,h1,h2,h3,h4⟩:=laidVars_mem h x hx
  rw [h1] at hm
  have:=var_lt h1 h3
  have h5:=List.all_eq_true.1 hm g (List.mem_of_getElem? hg)
  have:=Nat.le_of_ble_eq_true h5
  omega
theorem gl_cells (h : laidMetH Go.Proofs.Tryz.prog laidL W) {j g : Nat} {b : Box} (hg : ([1,0,2,3,8,9] : List Nat)[j]? = some g) (hb : glS[j]? = some b) :
    ∀ (o : Nat) (a : AV),b.cells[o]? = some a→∃ v,W.cell? ⟨g,o,none⟩ = some v∧∀ K,VRel K a v:=by
  obtain ⟨ps,h⟩:=laid_plain h
  intro o a ho
  have hj : j < glI.length:=by rw [glI_len]; exact (List.getElem?_eq_some_iff.1 hb).1
  obtain ⟨i,hi⟩ : ∃ i,glI[j]? = some i:=⟨_,List.getElem?_eq_getElem hj⟩
  have hc : b.cells = (match i.bind fun i=>laidL[i]? with | some x=>layA x.2 | none=>[]):=by
    have:=congrArg (fun l=>l[j]?) glS_cells
    simp only [List.getElem?_map,hb,hi,Option.map_some,Option.some.injEq] at this
    exact this
  have hz:=List.all_eq_true.1 gl_ok (g,i) (List.mem_of_getElem? (i:=j) (by rw [List.getElem?_zip_eq_some]; exact ⟨hg,hi⟩))
  cases hx : i.bind fun i=>laidL[i]? with
  | none =>
    simp only [hx] at hc
    rw [hc] at ho
    simp at ho
  | some x =>
    simp only [hx] at hc hz
    rw [Bool.and_eq_true] at hz
    have hmem : x ∈ laidL:=by
      cases i with
      | none=>simp at hx
      | some i=>exact List.mem_of_getElem? hx
    obtain ⟨g',t,cs,fuel,p,h1,h2,h3,h4⟩:=laidVars_mem h x hmem
    rw [h1] at hz
    have e : g' = g:=Nat.eq_of_beq_eq_true hz.1
    subst e
    have ht : tyOf g' = some t:=h2
    rw [ht] at hz
    have hf:=lay_flat hz.2 h4
    have hval:=List.all_eq_true.1 (List.all_eq_true.1 glS_val b (List.mem_of_getElem? hb)) a (List.mem_of_getElem? ho)
    rw [hc] at ho
    rcases hf with ⟨u,v,e1,e2⟩ | hf
    · rw [e2] at ho
      cases o with
      | succ o=>simp at ho
      | zero =>
        simp only [List.getElem?_cons_zero,Option.some.injEq] at ho
        subst ho
        refine ⟨.iface u v,?_,fun K=>.err⟩
        rw [World.var?_cell h1 h3 0,← Array.getElem?_toList,e1]
        rfl
    rw [hf,List.getElem?_map,Array.getElem?_toList] at ho
    cases hv : cs[o]? with
    | none=>rw [hv] at ho; cases ho
    | some v =>
      rw [hv] at ho
      simp only [Option.map_some,Option.some.injEq] at ho
      subst ho
      exact ⟨v,by rw [World.var?_cell h1 h3 o]; exact hv,fun K=>.sc hval⟩
theorem glS_tab : (glS.all fun x=>match x.cells[0]? with | some (AV.sc (Value.int IntKind.u64 n))=>!(decide (n = 1)) || Nat.beq x.cells.length 20 | _=>true) = true:=by kernel_rfl
theorem gl_size (h : laidMetH Go.Proofs.Tryz.prog laidL W) {j g : Nat} {b : Box} (hg : ([1,0,2,3,8,9] : List Nat)[j]? = some g) (hb : glS[j]? = some b) : GSz W.heap.size W g b.cells.length:=by
  have hlt:=gl_lt h hg
  obtain ⟨ps,h⟩:=laid_plain h
  have hj : j < glI.length:=by rw [glI_len]; exact (List.getElem?_eq_some_iff.1 hb).1
  obtain ⟨i,hi⟩ : ∃ i,glI[j]? = some i:=⟨_,List.getElem?_eq_getElem hj⟩
  have hc : b.cells = (match i.bind fun i=>laidL[i]? with | some x=>layA x.2 | none=>[]):=by
    have:=congrArg (fun l=>l[j]?) glS_cells
    simp only [List.getElem?_map,hb,hi,Option.map_some,Option.some.injEq] at this
    exact this
  have hz:=List.all_eq_true.1 gl_ok (g,i) (List.mem_of_getElem? (i:=j) (by rw [List.getElem?_zip_eq_some]; exact ⟨hg,hi⟩))
  have htab:=List.all_eq_true.1 glS_tab b (List.mem_of_getElem? hb)
  cases hx : i.bind fun i=>laidL[i]? with
  | none =>
    simp only [hx] at hc
    exact .inl (by rw [hc]; rfl)
  | some x =>
    simp only [hx] at hc hz
    rw [Bool.and_eq_true] at hz
    have hmem : x ∈ laidL:=by
      cases i with
      | none=>simp at hx
      | some i=>exact List.mem_of_getElem? hx
    obtain ⟨g',t,cs,fuel,p,h1,h2,h3,h4⟩:=laidVars_mem h x hmem
    rw [h1] at hz
    have e : g' = g:=Nat.eq_of_beq_eq_true hz.1
    subst e
    have ht : tyOf g' = some t:=h2
    rw [ht] at hz
    have hf:=lay_flat hz.2 h4
    have hlen : b.cells.length = cs.size:=by
      rw [hc]
      rcases hf with ⟨u,v,e1,e2⟩ | hf
      · rw [e2,← Array.length_toList,e1]; rfl
      · rw [hf]; simp
    have hv:=h3
    unfold World.var? at hv
    rw [h1] at hv
    simp only [Option.bind_some] at hv
    split at hv
    · rename_i c el lv hh
      cases hv
      refine .inr ⟨hlt,_,_,_,hh,fun h0=>?_⟩
      have : b.cells[0]? = some (.sc (.int .u64 1)):=by
        rcases hf with ⟨u,v,e1,e2⟩ | hf
        · rw [←Array.getElem?_toList,e1] at h0; cases h0
        · rw [hc,hf,List.getElem?_map,Array.getElem?_toList,h0]; rfl
      rw [this] at htab
      have:=Nat.eq_of_beq_eq_true (by simpa using htab)
      omega
    · cases hv
def K0 : KM:=fun b=>match ([1,0,2,3,8,9] : List Nat)[b]?,glS[b]? with
  | some g,some x=>some ⟨g,0,x.cells.length⟩
  | _,_=>none
theorem K0_some {b : Nat} {kb : KB} {x : Box} (h : K0 b = some kb) (hx : glS[b]? = some x) : ∃ g,([1,0,2,3,8,9] : List Nat)[b]? = some g∧kb = ⟨g,0,x.cells.length⟩:=by
  unfold K0 at h
  rw [hx] at h
  split at h
  · rename_i g y h1 h2
    cases h2
    exact ⟨g,h1,(Option.some.inj h).symm⟩
  · cases h
theorem ent0 (h : laidMetH Go.Proofs.Tryz.prog laidL W) : Ent [1,0,2,3,8,9] W K0 glS where
  ro:=fun b x hx=>(glS_in hx).1
  rel:={
    below:=⟨rfl,rfl,rfl,Nat.le_refl _,fun _ _=>rfl⟩
    dom:=fun b kb hk=>by
      unfold K0 at hk
      split at hk
      · rename_i g y h1 h2
        exact (List.getElem?_eq_some_iff.1 h2).1
      · cases hk
    lt:=fun b x kb h1 h2 h3=>by
      obtain ⟨g,hg,rfl⟩:=K0_some h3 h1
      exact gl_lt h hg
    cell:=fun b x kb h1 h2 h3 o a h4=>by
      obtain ⟨g,hg,rfl⟩:=K0_some h3 h1
      obtain ⟨v,hv,hr⟩:=gl_cells h hg h1 o a h4
      exact ⟨v,by rw [Nat.zero_add]; exact hv,hr _⟩
    live:=fun b x kb h1 h2 h3=>absurd h2 (by rw [(glS_in h1).1]; decide)
    excl:=fun b x kb b' x' kb' h1 h2 h3 h4 h5 h6 h7=>absurd h2 (by rw [(glS_in h1).1]; decide)
    fit:=fun b x kb h1 h2 h3=>by
      obtain ⟨g,hg,rfl⟩:=K0_some h3 h1
      simp
    glob:=fun j g hg=>by
      have hj : j < glS.length:=by rw [←glS_len]; exact (List.getElem?_eq_some_iff.1 hg).1
      exact ⟨⟨g,0,(glS[j]).cells.length⟩,by unfold K0; rw [hg,List.getElem?_eq_getElem hj],rfl,rfl,gl_size h hg (List.getElem?_eq_getElem hj)⟩
    fo:=Fo.none fun b x hx=>by rw [(glS_in hx).1]; decide }
theorem GB.add (L : St) : GB (glS++L):=fun j x hx=>by
  rw [List.getElem?_append_left (List.getElem?_eq_some_iff.1 hx).1]; exact hx
end
end Seat
end Go.VX
end
