/- A part of the proofs of the statements of one layer: V16, V17, W1, W1b, W2, W3, W4. No condition is added here. -/
import Derived.LoopN
import Derived.Test.YtcemloapifojkaaGreatDoorXC5
set_option linter.unusedVariables false
set_option linter.unusedSimpArgs false
section
namespace Go.VX
open Go.RowKit (Below)

def ancTab (needs : Nat→List Nat) : Nat→List (List Nat)
  | 0=>[]
  | n + 1=>ancTab needs n++[((needs n).flatMap fun k=>k :: (ancTab needs n).getD k []).eraseDups]
def ancOf (tab : List (List Nat)) (i o : Nat) : Bool:=(tab.getD i []).contains o
def pairB (ops : Array Oper) (anc : Nat→Nat→Bool) (x y : VOper) : Bool :=
  (!hvy ops x || anc y.idx x.idx) &&
  (hvy ops y || match y.dst with | some t=>!(names ops x).contains t && x.dst != some t | none=>true) &&
  (!hvy ops y || match y.dst with | some t=>!((names ops x).contains t || x.dst == some t) || anc y.idx x.idx | none=>true) &&
  (match x.dst with | some t=>!(names ops y).contains t || anc y.idx x.idx | none=>true) &&
  (!hvy ops y || match x.op.addr with | some u=>y.keep.any (opdEq u) || anc y.idx x.idx | none=>true) &&
  x.idx != y.idx
def pairsB (ops : Array Oper) (anc : Nat→Nat→Bool) : List VOper→Bool
  | []=>true
  | x :: r=>r.all (pairB ops anc x) && pairsB ops anc r
def selfB (ops : Array Oper) (o : VOper) : Bool:=hvy ops o || match o.dst with | some t=>!(names ops o).contains t | none=>true
def needsB (ops : Array Oper) : List Nat→List VOper→Bool
  | _,[]=>true
  | seen,o :: r=>(needsOf ops o.idx).all seen.contains && needsB ops (seen++[o.idx]) r
def regOk (ops : Array Oper) (anc : Nat→Nat→Bool) (l : List VOper) : Bool :=
  pairsB ops anc l && l.all (selfB ops) && needsB ops [] l && (List.range ops.size).all fun i=>l.any (·.idx == i)
def addKeep (ops : Array Oper) (anc : Nat→Nat→Bool) : List VOper→List VOper→List VOper
  | _,[]=>[]
  | before,o :: r =>
    (if hvy ops o then { o with keep:=before.filterMap fun x=>if anc o.idx x.idx then none else x.op.addr } else o) :: addKeep ops anc (before++[o]) r
def prepDraw (P : Program) (gl : List Nat) (nt : Nat) (ops : Array Oper) : Option VC :=
  let tab:=ancTab (needsOf ops) ops.size
  let order:=canon (heavyAt P gl ops) (needsOf ops) ops.size ops.size []
  match prepList P gl nt ops order with
  | some l =>
    let l':=addKeep ops (ancOf tab) [] l
    if regOk ops (ancOf tab) l' then some (.reg l') else none
  | none=>none
def prepCode (P : Program) (gl : List Nat) (nt : Nat) : Code→Option VC
  | .skip=>some .skip
  | .region _ ops draw=>if draw then prepDraw P gl nt ops else match prepList P gl nt ops (List.range ops.size) with
    | some l=>some (.reg l)
    | none=>none
  | .seq a b=>match prepCode P gl nt a,prepCode P gl nt b with
    | some x,some y=>some (.seq x y)
    | _,_=>none
  | .cond c a b=>match po gl c,prepCode P gl nt a,prepCode P gl nt b with
    | some c,some x,some y=>some (.cond c x y)
    | _,_,_=>none
  | .block id a=>match prepCode P gl nt a with
    | some x=>some (.block id x)
    | none=>none
  | .loop a=>match prepCode P gl nt a with
    | some x=>some (.loop x)
    | none=>none
  | .exit id=>some (.exit id)
  | .ret=>some .ret
  | _=>none
def prepRes (P : Program) : List ResultVar→Option (List VRes)
  | []=>some []
  | .tmp t :: r=>match prepRes P r with
    | some rs=>some (.tmp t :: rs)
    | none=>none
  | .cell a t :: r=>match tiOf P t,prepRes P r with
    | some ti,some rs=>some (.cell a ti.agg? :: rs)
    | _,_=>none
def prepFun (P : Program) (gl : List Nat) (f : Func) : Option VFun :=
  match f.body with
  | some c=>match prepCode P gl f.ntmps c,prepRes P f.results.toList with
    | some b,some r=>some ⟨b,r⟩
    | _,_=>none
  | none=>none

section
variable {P : Program} {n0 : Nat} {wi : World} {gl : List Nat} {K : KM} {st st1 : St} {w : World} {env : Env}

theorem anc_ok (ops : Array Oper) : ∀ (n i o : Nat),o ∈ (ancTab (needsOf ops) n).getD i []→∀ listed : Array Bool,(∀ j,listed.getD j false = true→∀ k ∈ needsOf ops j,listed.getD k false = true)→(∀ k ∈ needsOf ops i,listed.getD k false = true)→listed.getD o false = true
  | 0,i,o,h,_,_,_=>by simp [ancTab] at h
  | n + 1,i,o,h,listed,hc,hn=>by
    have hlen : ∀ m,(ancTab (needsOf ops) m).length = m:=by
      intro m
      induction m with
      | zero=>rfl
      | succ m ih=>simp [ancTab,ih]
    unfold ancTab at h
    rw [List.getD_eq_getElem?_getD] at h
    by_cases hi : i < n
    · rw [List.getElem?_append_left (by rw [hlen]; exact hi),← List.getD_eq_getElem?_getD] at h
      exact anc_ok ops n i o h listed hc hn
    · by_cases hi2 : i = n
      · subst hi2
        rw [List.getElem?_append_right (by rw [hlen]; exact Nat.le_refl _)] at h
        simp only [hlen,Nat.sub_self,List.getElem?_cons_zero,Option.getD_some,List.mem_eraseDups,List.mem_flatMap,List.mem_cons] at h
        obtain ⟨k,hk,h⟩:=h
        have hkl:=hn k hk
        rcases h with rfl | h
        · exact hkl
        · exact anc_ok ops i k o h listed hc (hc k hkl)
      · rw [List.getElem?_eq_none (by simp [hlen]; omega)] at h
        simp at h
theorem ancOf_ok (ops : Array Oper) (n : Nat) : AncOk ops (ancOf (ancTab (needsOf ops) n)):=⟨fun i o h listed hc hn=>anc_ok ops n i o (by simpa [ancOf] using h) listed hc hn⟩

theorem pairB_ok {ops : Array Oper} {anc : Nat→Nat→Bool} {x y : VOper} (h : pairB ops anc x y = true) : Pair ops anc x y∧x.idx≠y.idx:=by
  unfold pairB at h
  simp only [Bool.and_eq_true,Bool.or_eq_true,Bool.not_eq_true',bne_iff_ne] at h
  obtain ⟨⟨⟨⟨⟨h1,h2⟩,h3⟩,h4⟩,h5⟩,h6⟩:=h
  refine ⟨⟨fun hh=>?_,fun hh t ht=>?_,fun hh t ht hor=>?_,fun t ht hm=>?_,fun hh u hu=>?_⟩,h6⟩
  · rcases h1 with h1 | h1
    · rw [hh] at h1; cases h1
    · exact h1
  · rcases h2 with h2 | h2
    · rw [hh] at h2; cases h2
    · rw [ht] at h2
      simp only [Bool.and_eq_true,Bool.not_eq_true',bne_iff_ne] at h2
      exact ⟨fun hm=>by rw [List.contains_iff_mem.2 hm] at h2; exact absurd h2.1 (by simp),h2.2⟩
  · rcases h3 with h3 | h3
    · rw [hh] at h3; cases h3
    · rw [ht] at h3
      simp only [Bool.or_eq_true,Bool.not_eq_true',Bool.or_eq_false_iff] at h3
      rcases h3 with ⟨h3,h3'⟩ | h3
      · rcases hor with hm | hm
        · rw [List.contains_iff_mem.2 hm] at h3; cases h3
        · rw [hm] at h3'; simp at h3'
      · exact h3
  · rw [ht] at h4
    simp only [Bool.or_eq_true,Bool.not_eq_true'] at h4
    rcases h4 with h4 | h4
    · rw [List.contains_iff_mem.2 hm] at h4; cases h4
    · exact h4
  · rcases h5 with h5 | h5
    · rw [hh] at h5; cases h5
    · rw [hu] at h5
      simpa [Bool.or_eq_true] using h5
theorem pairsB_ok {ops : Array Oper} {anc : Nat→Nat→Bool} : ∀ {l : List VOper},pairsB ops anc l = true→l.Pairwise (Pair ops anc)∧(l.map (·.idx)).Nodup
  | [],_=>⟨.nil,by simp⟩
  | x :: r,h=>by
    simp only [pairsB,Bool.and_eq_true] at h
    obtain ⟨h1,h2⟩:=pairsB_ok h.2
    have h3:=List.all_eq_true.1 h.1
    refine ⟨List.pairwise_cons.2 ⟨fun y hy=>(pairB_ok (h3 y hy)).1,h1⟩,?_⟩
    rw [List.map_cons,List.nodup_cons]
    refine ⟨fun hm=>?_,h2⟩
    obtain ⟨y,hy,he⟩:=List.mem_map.1 hm
    exact (pairB_ok (h3 y hy)).2 he.symm
theorem needsB_ok {ops : Array Oper} : ∀ {l : List VOper} {seen : List Nat},needsB ops seen l = true→∀ (k : Nat) (o : VOper),l[k]? = some o→∀ j ∈ needsOf ops o.idx,j ∈ seen∨∃ o' ∈ l.take k,o'.idx = j
  | [],_,_,k,o,h,_,_=>by simp at h
  | x :: r,seen,hb,k,o,h,j,hj=>by
    simp only [needsB,Bool.and_eq_true] at hb
    cases k with
    | zero =>
      simp at h; subst h
      have:=List.all_eq_true.1 hb.1 j hj
      exact .inl (by simpa using this)
    | succ k =>
      rcases needsB_ok hb.2 k o (by simpa using h) j hj with h1 | ⟨o',h1,h2⟩
      · rcases List.mem_append.1 h1 with h1 | h1
        · exact .inl h1
        · simp at h1; exact .inr ⟨x,by simp,h1.symm⟩
      · exact .inr ⟨o',by simp [h1],h2⟩

theorem prepOper_ok {nt : Nat} {ops : Array Oper} {i : Nat} {o : VOper} (h : prepOper P gl nt ops i = some o) : o.idx = i∧o.keep = []∧IsOp P gl nt ops o (opr ops o):=by
  unfold prepOper at h
  split at h
  · rename_i r hr
    split at h
    · rename_i hd
      split at h
      · rename_i v g hv hg
        simp at h; subst h
        have hopr : opr ops ⟨i,r.dst,v,g,[]⟩ = r:=by
          unfold opr
          simp [Array.getD_eq_getD_getElem?,hr]
        refine ⟨rfl,rfl,?_⟩
        rw [hopr]
        exact ⟨hr,rfl,fun d hd'=>by rw [show r.dst = some d from hd'] at hd; simpa [pDst] using hd,hv,hg⟩
      · cases h
    · cases h
  · cases h
theorem prepList_ok {nt : Nat} {ops : Array Oper} : ∀ {is : List Nat} {l : List VOper},prepList P gl nt ops is = some l→l.map (·.idx) = is∧∀ o ∈ l,o.keep = []∧IsOp P gl nt ops o (opr ops o)
  | [],l,h=>by simp [prepList] at h; subst h; exact ⟨rfl,fun o ho=>by cases ho⟩
  | i :: r,l,h=>by
    unfold prepList at h
    split at h
    · rename_i o os h1 h2
      simp at h; subst h
      obtain ⟨e1,e2,e3⟩:=prepOper_ok h1
      obtain ⟨e4,e5⟩:=prepList_ok h2
      refine ⟨by rw [List.map_cons,e1,e4],fun p hp=>?_⟩
      rcases List.mem_cons.1 hp with rfl | hp
      · exact ⟨e2,e3⟩
      · exact e5 p hp
    · cases h
theorem addKeep_ok {nt : Nat} {ops : Array Oper} {anc : Nat→Nat→Bool} : ∀ {l before : List VOper},(∀ o ∈ l,IsOp P gl nt ops o (opr ops o))→∀ o ∈ addKeep ops anc before l,IsOp P gl nt ops o (opr ops o)
  | [],_,_,o,ho=>by cases ho
  | x :: r,before,h,o,ho=>by
    unfold addKeep at ho
    rcases List.mem_cons.1 ho with rfl | ho
    · have hx:=h x (by simp)
      split
      · exact ⟨hx.at_,hx.dst,hx.lt,hx.op,hx.guard⟩
      · exact hx
    · exact addKeep_ok (fun o ho=>h o (List.mem_cons_of_mem _ ho)) o ho

theorem lin_start {nt : Nat} {ops : Array Oper} {anc : Nat→Nat→Bool} {l : List VOper} (hop : ∀ o ∈ l,IsOp P gl nt ops o (opr ops o)) (h : regOk ops anc l = true) : LInv P gl anc ops nt l (Array.replicate ops.size false):=by
  unfold regOk at h
  simp only [Bool.and_eq_true] at h
  obtain ⟨⟨⟨h1,h2⟩,h3⟩,h4⟩:=h
  obtain ⟨p1,p2⟩:=pairsB_ok h1
  have hno : ∀ j,(Array.replicate ops.size false).getD j false = false:=fun j=>by
    simp only [Array.getD_eq_getD_getElem?,Array.getElem?_replicate]
    split<;>rfl
  refine ⟨hop,fun o ho hl t ht hm=>?_,p1,fun i hi=>?_,p2,by simp,fun j hj=>(by rw [hno] at hj; cases hj),fun k o ho j hj=>?_⟩
  · have:=List.all_eq_true.1 h2 o ho
    unfold selfB at this
    rw [hl,ht] at this
    simp at this
    exact this hm
  · constructor
    · intro _
      have:=List.all_eq_true.1 h4 i (List.mem_range.2 hi)
      obtain ⟨o,ho,he⟩:=List.any_eq_true.1 this
      exact ⟨o,ho,by simpa using he⟩
    · intro _
      simp [Array.getD_eq_getD_getElem?,Array.getElem?_replicate,hi]
  · rcases needsB_ok h3 k o ho j hj with h5 | h5
    · cases h5
    · exact .inr h5
end
end Go.VX
end
section
namespace Go.VX
open Go.RowKit (Below)

section
variable {P : Program} {n0 : Nat} {wi : World} {gl : List Nat} {K : KM} {st st1 : St} {w : World} {env : Env}

structure FunOk (P : Program) (gl : List Nat) (f : FuncId) (fn : VFun) : Prop where
  ok : ∃ gf c, P.funcs[f]? = some gf ∧ gf.body = some c ∧ (gf.name == "runtime.NumGoroutine") = false ∧ prepFun P gl gf = some fn
theorem FunOk.callable {f : FuncId} {fn : VFun} (h : FunOk P gl f fn) : Callable P f:=by
  obtain ⟨gf,c,h1,h2,h3,_⟩:=h.ok
  exact ⟨gf,h1,h3,by rw [h2]; rfl⟩

def SoundCode (P : Program) (gl : List Nat) (c : VC) (env : Env) (st : St) (x : VX) (env' : Env) (st' : St) : Prop :=
  ∀ (ro : Option Nat) code nt,prepCode P gl nt code = some c→∀ n0 wi K w a Q,WRel n0 wi gl K st w→n0≤wi.heap.size→nt≤a.tmps.size→EnvRel K env a.tmps→Post n0 wi gl K st a x env' st' Q→code.wpIn (WF ro) 0 P Q a w
def SoundLoop (P : Program) (gl : List Nat) (c : VC) (env : Env) (st : St) (x : VX) (env' : Env) (st' : St) : Prop :=
  ∃ n,∀ (ro : Option Nat) code nt,prepCode P gl nt code = some c→∀ n0 wi K w a Q,WRel n0 wi gl K st w→n0≤wi.heap.size→nt≤a.tmps.size→EnvRel K env a.tmps→Post n0 wi gl K st a x env' st' Q→Code.roundsIn (WF ro) 0 P code Q n a w
def Sound (P : Program) (gl : List Nat) : Jdg→Prop
  | .code c env st x env' st'=>SoundCode P gl c env st x env' st'∧∀ b,c = .loop b→SoundLoop P gl b env st x env' st'
  | .ops l env st x env' st'=>SoundSeq P gl l env st x env' st'∧∀ anc ops nt,AncOk ops anc→SoundDraw P gl anc ops nt l env st x env' st'
  | .call f args st r st'=>SoundCall P gl f args st r st'

theorem po_ev (hW : WRel n0 wi gl K st w) {a : Act} (he : EnvRel K env a.tmps) {y : Operand} {x : VOpd} (h : po gl y = some x) : VRel K (x.ev env) (a.eval y) :=
  opds_ok hW he.but (l:=[y]) (fun t _=>by simp) y (by simp) x h

theorem prepDraw_reg {nt : Nat} {ops : Array Oper} {c : VC} (h : prepDraw P gl nt ops = some c) : ∃ l,c = .reg l:=by
  unfold prepDraw at h
  simp only at h
  split at h
  · split at h
    · simp at h; exact ⟨_,h.symm⟩
    · cases h
  · cases h
def PrepInv (P : Program) (gl : List Nat) (nt : Nat) (code : Code) : VC→Prop
  | .skip=>code = .skip
  | .reg _=>∃ id ops draw,code = .region id ops draw
  | .seq a b=>∃ x y,code = .seq x y∧prepCode P gl nt x = some a∧prepCode P gl nt y = some b
  | .cond q a b=>∃ o x y,code = .cond o x y∧po gl o = some q∧prepCode P gl nt x = some a∧prepCode P gl nt y = some b
  | .block id a=>∃ x,code = .block id x∧prepCode P gl nt x = some a
  | .loop a=>∃ x,code = .loop x∧prepCode P gl nt x = some a
  | .exit id=>code = .exit id
  | .ret=>code = .ret
theorem prep_inv {nt : Nat} {code : Code} {c : VC} (h : prepCode P gl nt code = some c) : PrepInv P gl nt code c:=by
  cases code with
  | region id ops draw =>
    have : ∃ l,c = .reg l:=by
      simp only [prepCode] at h
      split at h
      · exact prepDraw_reg h
      · split at h
        · simp at h; exact ⟨_,h.symm⟩
        · cases h
    obtain ⟨l,rfl⟩:=this
    exact ⟨id,ops,draw,rfl⟩
  | seq a b =>
    simp only [prepCode] at h
    split at h
    · rename_i x y hx hy
      simp at h; subst h; exact ⟨_,_,rfl,hx,hy⟩
    · cases h
  | cond c a b =>
    simp only [prepCode] at h
    split at h
    · rename_i q x y hq hx hy
      simp at h; subst h; exact ⟨_,_,_,rfl,hq,hx,hy⟩
    · cases h
  | block id a =>
    simp only [prepCode] at h
    split at h
    · rename_i x hx
      simp at h; subst h; exact ⟨_,rfl,hx⟩
    · cases h
  | loop a =>
    simp only [prepCode] at h
    split at h
    · rename_i x hx
      simp at h; subst h; exact ⟨_,rfl,hx⟩
    · cases h
  | skip=>simp [prepCode] at h; subst h; exact rfl
  | exit id=>simp [prepCode] at h; subst h; exact rfl
  | ret=>simp [prepCode] at h; subst h; exact rfl
  | _=>simp [prepCode] at h

theorem code_region {l : List VOper} {x : VX} {env' : Env} {st' : St} (hm : P.follows .mixedOrders = true) (h : Sound P gl (.ops l env st x env' st')) : SoundCode P gl (.reg l) env st x env' st':=by
  intro ro code nt hc n0 wi K w a Q hW hn hnt he hQ
  obtain ⟨id,ops,draw,rfl⟩:=prep_inv hc
  simp only [prepCode] at hc
  split at hc
  · rename_i hd
    rw [hd]
    unfold prepDraw at hc
    simp only at hc
    split at hc
    · rename_i l0 hl0
      split at hc
      · rename_i hok
        simp at hc; subst hc
        obtain ⟨_,hops⟩:=prepList_ok hl0
        have hops2:=addKeep_ok (anc:=ancOf (ancTab (needsOf ops) ops.size)) (before:=[]) (fun o ho=>(hops o ho).2)
        have hlin:=lin_start hops2 hok
        have hlen : (addKeep ops (ancOf (ancTab (needsOf ops) ops.size)) [] l0).length = ops.size:=by
          have h1 : ((addKeep ops (ancOf (ancTab (needsOf ops) ops.size)) [] l0).map (·.idx)).length≤(List.range ops.size).length:=by
            refine List.Nodup.length_le_of_subset hlin.nodup fun i hi=>?_
            obtain ⟨o,ho,rfl⟩:=List.mem_map.1 hi
            exact List.mem_range.2 (Array.getElem?_eq_some_iff.1 (hlin.isop o ho).at_).1
          have h2 : (List.range ops.size).length≤((addKeep ops (ancOf (ancTab (needsOf ops) ops.size)) [] l0).map (·.idx)).length:=by
            refine List.Nodup.length_le_of_subset List.nodup_range fun i hi=>?_
            have hi:=List.mem_range.1 hi
            obtain ⟨o,ho,he⟩:=(hlin.idxs i hi).1 (by simp [Array.getD_eq_getD_getElem?,Array.getElem?_replicate,hi])
            exact List.mem_map.2 ⟨o,ho,he⟩
          simp at h1 h2
          omega
        refine wpIn_region_any hm ?_
        refine h.2 _ ops nt (ancOf_ok ops ops.size) ro n0 wi K st a [] (Array.replicate ops.size false) K a _ Q ops.size ⟨by simpa using hlin,fun d hd=>(by cases hd),?_,hW.drawn _,fun d hd=>(by cases hd),List.Pairwise.nil,fun d hd=>(by cases hd),Fr.refl K st,hnt,rfl,rfl⟩ hn (by simp [hlen]) hQ
        exact he.but
      · cases hc
    · cases hc
  · rename_i hd
    split at hc
    · rename_i l0 hl0
      simp at hc; subst hc
      obtain ⟨hi,hops⟩:=prepList_ok hl0
      have hdf : draw = false:=by simpa using hd
      rw [hdf]
      refine wpIn_region ?_
      rw [←hi]
      exact h.1 ro ops nt n0 wi K w a Q (fun o ho=>⟨_,(hops o ho).2⟩) hW hn hnt he hQ
    · cases hc

def readRes (tmps : Array Value) : ResultVar→Sem Value
  | .tmp t=>pure (tmps.getD t undef)
  | .cell a t=>do loadVar t (← asAddr (tmps.getD a undef))
theorem res_rel (hW : WRel n0 wi gl K st w) {tmps : Array Value} (he : EnvRel K env tmps) : ∀ {rs : List ResultVar} {vr : List VRes} {vs : List AV},prepRes P rs = some vr→resOf env st vr = some vs →
    ∃ us : List Value,(rs.mapM (readRes tmps)).run P w = .ok us w∧VRels K vs us
  | [],vr,vs,h,h2=>by
    simp [prepRes] at h; subst h
    simp [resOf] at h2; subst h2
    exact ⟨[],rfl,.nil⟩
  | .tmp t :: r,vr,vs,h,h2=>by
    simp only [prepRes] at h
    split at h
    · rename_i rs hrs
      simp at h; subst h
      simp only [resOf,Option.map_eq_some_iff] at h2
      obtain ⟨vs',h3,rfl⟩:=h2
      obtain ⟨us,h4,h5⟩:=res_rel hW he hrs h3
      refine ⟨tmps.getD t undef :: us,?_,.cons (he t) h5⟩
      rw [List.mapM_cons,run_bind _ _ w (a:=tmps.getD t undef) (w':=w) rfl,run_bind _ _ _ h4]
      rfl
    · cases h
  | .cell a t :: r,vr,vs,h,h2=>by
    simp only [prepRes] at h
    split at h
    · rename_i ti rs hti hrs
      simp at h; subst h
      have hea:=he a
      have key : ∀ b o v vs',env a = .ptr b o→(match ti.agg? with | none=>st.at1 b o | some n=>(st.atN b o n).map AV.agg) = some v→resOf env st rs = some vs'→vs = v :: vs' →
          ∃ us : List Value,((ResultVar.cell a t :: r).mapM (readRes tmps)).run P w = .ok us w∧VRels K vs us:=by
        intro b o v vs' hb hv hr e
        subst e
        rw [hb] at hea
        obtain ⟨kb,hkb,hval⟩:=ptr_inv hea
        obtain ⟨v',hrun,hrel⟩:=run_loadVar hW hti hkb hv
        obtain ⟨us,h4,h5⟩:=res_rel hW he hrs hr
        refine ⟨v' :: us,?_,.cons hrel h5⟩
        rw [List.mapM_cons]
        rw [run_bind _ _ w (a:=v') (w':=w) (by
          simp only [readRes,hval]
          rw [run_bind _ _ w (a:=⟨kb.rb,kb.ro + o,none⟩) (w':=w) rfl]
          exact hrun),run_bind _ _ _ h4]
        rfl
      simp only [resOf] at h2
      split at h2
      · rename_i b o hb hn
        split at h2
        · rename_i v vs' h3 h4
          simp at h2
          exact key b o v vs' hb (by rw [hn]; exact h3) h4 h2.symm
        · cases h2
      · rename_i b o n hb hn
        split at h2
        · rename_i v vs' h3 h4
          simp at h2
          exact key b o (.agg v) vs' hb (by rw [hn]; simp [h3]) h4 h2.symm
        · cases h2
      · cases h2
    · cases h

theorem tup_rel {vs : List AV} {us : List Value} (h : VRels K vs us) : VRel K (tupOf vs) (if h : us.toArray.size = 1 then us.toArray[0] else .tuple us.toArray):=by
  match vs,us,h with
  | [],[],.nil=>exact .tup .nil
  | [v],[u],.cons h .nil=>exact h
  | v :: v2 :: vs,u :: u2 :: us,.cons h (.cons h2 h3) =>
    rw [dif_neg (by simp)]
    exact .tup (.cons h (.cons h2 h3))

theorem env_start {args : List AV} {args' : List Value} (h : VRels K args args') (n : Nat) : EnvRel K (envOf args) (args'.toArray++Array.replicate n undef):=by
  intro t
  unfold envOf
  have hl:=h.length
  simp only [Array.getD_eq_getD_getElem?,List.getD_eq_getElem?_getD]
  by_cases ht : t < args.length
  · rw [Array.getElem?_append_left (by simp; omega)]
    obtain ⟨v,hv,hr⟩:=h.get t (List.getElem?_eq_getElem ht)
    rw [List.getElem?_eq_getElem ht]
    simp only [List.getElem?_toArray,hv]
    exact hr
  · rw [List.getElem?_eq_none (by omega),Array.getElem?_append_right (by simp; omega),Array.getElem?_replicate]
    split
    · exact undefA_rel K
    · exact undefA_rel K

theorem then_ne {Q : Act→World→Prop} {R : Exit→Act→World→Prop} {e : Exit} {a : Act} {w : World} (hne : e≠.normal) (h : R e a w) : Exit.then Q R e a w:=by
  cases e<;>first | exact absurd rfl hne | exact h
theorem xrel_ne {x : VX} {e : Exit} (h : XRel K x e) (hne : x≠.norm) : e≠.normal:=by
  rintro rfl
  cases x with
  | norm=>exact hne rfl
  | exit i=>cases h
  | ret=>cases h
  | pan v=>obtain ⟨_,h,_⟩:=h; cases h
theorem prepFun_inv {gf : Func} {c : Code} {fn : VFun} (h : prepFun P gl gf = some fn) (hb : gf.body = some c) : ∃ b r,fn = ⟨b,r⟩∧prepCode P gl gf.ntmps c = some b∧prepRes P gf.results.toList = some r:=by
  unfold prepFun at h
  rw [hb] at h
  simp only at h
  split at h
  · rename_i b r h1 h2
    simp at h
    exact ⟨b,r,h.symm,h1,h2⟩
  · cases h
theorem results_run {gf : Func} {tmps : Array Value} {us : List Value} {w : World}
    (h : (gf.results.toList.mapM (readRes tmps)).run P w = .ok us w) :
    (results gf tmps).run P w = .ok (if h : us.toArray.size = 1 then us.toArray[0] else .tuple us.toArray) w:=by
  have e : results gf tmps = (do let vs ← gf.results.mapM (readRes tmps); pure (if h : vs.size = 1 then vs[0] else .tuple vs)):=by
    unfold results
    congr 1
  rw [e,Array.mapM_eq_mapM_toList,run_bind _ _ _ (a:=us.toArray) (w':=w) (by rw [map_eq_pure_bind,run_bind _ _ _ h]; rfl)]
  rfl

mutual
theorem VRel.flat {K K' : KM} : ∀ {a : AV} {v : Value},VRel K' a v→a.flat = true→VRel K a v
  | _,_,.sc h,_=>.sc h
  | _,_,.ptr h,e=>by simp [AV.flat] at e
  | _,_,.sl h h2,e=>by simp [AV.flat] at e
  | _,_,.agg h,e=>.agg (VRels.flat h (by simpa [AV.flat] using e))
  | _,_,.tup h,e=>.tup (VRels.flat h (by simpa [AV.flat] using e))
  | _,_,.iface h,e=>.iface (VRel.flat h (by simpa [AV.flat] using e))
  | _,_,.fn h h2,e=>by
    simp only [AV.flat,Bool.and_eq_true] at e
    exact .fn (VRels.flat h e.1) (VRels.flat h2 e.2)
  | _,_,.err,_=>.err
theorem VRels.flat {K K' : KM} : ∀ {a : List AV} {v : List Value},VRels K' a v→AV.flatL a = true→VRels K a v
  | _,_,.nil,_=>.nil
  | _,_,.cons h h2,e=>by
    simp only [AV.flatL,Bool.and_eq_true] at e
    exact .cons (VRel.flat h e.1) (VRels.flat h2 e.2)
end
mutual
theorem VRel.back {K K' : KM} (hk : KM.le K K') : ∀ {a : AV} {v v' : Value},VRel K a v→VRel K' a v'→VRel K a v'
  | _,_,_,.sc h,.sc h'=>.sc h
  | _,_,_,.ptr h,.ptr h'=>by
    have:=hk _ _ h
    rw [h'] at this
    cases this
    exact .ptr h
  | _,_,_,.sl h _,.sl h' h2=>by
    have:=hk _ _ h
    rw [h'] at this
    cases this
    exact .sl h h2
  | _,_,_,.agg h,.agg h'=>.agg (VRels.back hk h h')
  | _,_,_,.tup h,.tup h'=>.tup (VRels.back hk h h')
  | _,_,_,.iface h,.iface h'=>.iface (VRel.back hk h h')
  | _,_,_,.fn h h2,.fn h' h2'=>.fn (VRels.back hk h h') (VRels.back hk h2 h2')
  | _,_,_,.err,.err=>.err
theorem VRels.back {K K' : KM} (hk : KM.le K K') : ∀ {a : List AV} {v v' : List Value},VRels K a v→VRels K' a v'→VRels K a v'
  | _,_,_,.nil,.nil=>.nil
  | _,_,_,.cons h h2,.cons h' h2'=>.cons (VRel.back hk h h') (VRels.back hk h2 h2')
end
theorem WRel.back {K' : KM} {more : List Box} {w' : World} (hW : WRel n0 wi gl K st w) (hW' : WRel n0 wi gl K' (st++more) w') (hk : KM.le K K') : WRel n0 wi gl K st w':=by
  have hin : ∀ {b : Nat} {x : Box},st[b]? = some x→(st++more)[b]? = some x:=fun {b x} h=>by
    rw [List.getElem?_append_left (List.getElem?_eq_some_iff.1 h).1]; exact h
  exact {
    below:=hW'.below
    dom:=hW.dom
    lt:=fun b x kb h1 h2 h3=>hW'.lt b x kb (hin h1) h2 (hk _ _ h3)
    cell:=fun b x kb h1 h2 h3 o a h4=>by
      obtain ⟨v,_,hv⟩:=hW.cell b x kb h1 h2 h3 o a h4
      obtain ⟨v',h5,hv'⟩:=hW'.cell b x kb (hin h1) h2 (hk _ _ h3) o a h4
      exact ⟨v',h5,VRel.back hk hv hv'⟩
    live:=fun b x kb h1 h2 h3=>hW'.live b x kb (hin h1) h2 (hk _ _ h3)
    excl:=fun b x kb b' x' kb' h1 h2 h3 h4 h5 h6 h7=>hW'.excl b x kb b' x' kb' (hin h1) h2 (hk _ _ h3) (hin h4) h5 (hk _ _ h6) h7
    fit:=fun b x kb h1 h2 h3=>hW'.fit b x kb (hin h1) h2 (hk _ _ h3)
    glob:=hW.glob
    fo:=hW'.fo.step (fun b x kb h1 _ h3=>⟨hin h1,hk _ _ h3⟩) (fun b x kb h1 h2 h3 h4=>.inl ⟨b,x,kb,hin h1,h2,h3,hk _ _ h4,rfl⟩) (Nat.le_refl _) (fun _ _=>.inl rfl) }

theorem sound {F : FuncId→Option VFun} {H : FuncId→List AV→St→CRes→St→Prop} (hm : P.follows .mixedOrders = true) (hF : ∀ f fn,F f = some fn→FunOk P gl f fn)
    (hH : ∀ f args st r st',H f args st r st'→SoundCall P gl f args st r st') (hE : ∀ f args st r st',H f args st r st'→Evo st st') {j : Jdg} (h : J P F H j) : Sound P gl j:=by
  induction h with
  | skip =>
    refine ⟨fun ro code nt hc n0 wi K w a Q hW hn hnt he hQ=>?_,fun b hb=>by cases hb⟩
    have:=prep_inv hc; simp only [PrepInv] at this; subst this
    exact wpIn_skip (hQ K a w .normal hW (Fr.refl K _) rfl rfl (fun _=>he) rfl)
  | exit =>
    refine ⟨fun ro code nt hc n0 wi K w a Q hW hn hnt he hQ=>?_,fun b hb=>by cases hb⟩
    have:=prep_inv hc; simp only [PrepInv] at this; subst this
    exact wpIn_exit (hQ K a w (.exit _) hW (Fr.refl K _) rfl rfl (fun _=>he) rfl)
  | ret =>
    refine ⟨fun ro code nt hc n0 wi K w a Q hW hn hnt he hQ=>?_,fun b hb=>by cases hb⟩
    have:=prep_inv hc; simp only [PrepInv] at this; subst this
    exact wpIn_ret (hQ K a w .ret hW (Fr.refl K _) rfl rfl (fun _=>he) rfl)
  | seqN _ _ ih1 ih2 =>
    refine ⟨fun ro code nt hc n0 wi K w a Q hW hn hnt he hQ=>?_,fun b hb=>by cases hb⟩
    obtain ⟨x,y,rfl,hx,hy⟩:=prep_inv hc
    refine wpIn_seq (ih1.1 ro x nt hx n0 wi K w a _ hW hn hnt he fun K1 a1 w1 e hW1 hf1 hd1 hs1 he1 hx1=>?_)
    cases hx1
    exact ih2.1 ro y nt hy n0 wi K1 w1 a1 Q hW1 hn (by omega) (he1 rfl) (hQ.step hf1 hd1 hs1)
  | seqX _ hne ih1 =>
    refine ⟨fun ro code nt hc n0 wi K w a Q hW hn hnt he hQ=>?_,fun b hb=>by cases hb⟩
    obtain ⟨x,y,rfl,hx,hy⟩:=prep_inv hc
    refine wpIn_seq (ih1.1 ro x nt hx n0 wi K w a _ hW hn hnt he fun K1 a1 w1 e hW1 hf1 hd1 hs1 he1 hx1=>?_)
    have:=hQ K1 a1 w1 e hW1 hf1 hd1 hs1 he1 hx1
    exact then_ne (xrel_ne hx1 hne) this
  | cond hc0 _ ih =>
    refine ⟨fun ro code nt hc n0 wi K w a Q hW hn hnt he hQ=>?_,fun b hb=>by cases hb⟩
    obtain ⟨o,x,y,rfl,ho,hx,hy⟩:=prep_inv hc
    have hev:=po_ev hW he ho
    rw [hc0] at hev
    have hev:=VRel.sc_eq hev
    refine wpIn_cond hev ?_
    refine ih.1 ro _ nt ?_ n0 wi K w a Q hW hn hnt he hQ
    split<;>assumption
  | @block _ _ _ _ xx _ _ _ ih =>
    refine ⟨fun ro code nt hc n0 wi K w a Q hW hn hnt he hQ=>?_,fun b hb=>by cases hb⟩
    obtain ⟨x,rfl,hx⟩:=prep_inv hc
    refine wpIn_block (ih.1 ro x nt hx n0 wi K w a _ hW hn hnt he fun K1 a1 w1 e hW1 hf1 hd1 hs1 he1 hx1=>?_)
    have h1:=hQ K1 a1 w1
    cases xx with
    | norm=>cases hx1; exact h1 .normal hW1 hf1 hd1 hs1 (fun _=>he1 rfl) rfl
    | exit i =>
      cases hx1
      simp only [VX.unblock] at h1
      show if _ then _ else _
      split
      · rename_i hi
        rw [if_pos hi] at h1
        exact h1 .normal hW1 hf1 hd1 hs1 (fun _=>he1 rfl) rfl
      · rename_i hi
        rw [if_neg hi] at h1
        exact h1 (.exit i) hW1 hf1 hd1 hs1 (fun _=>he1 rfl) rfl
    | ret=>cases hx1; exact h1 .ret hW1 hf1 hd1 hs1 (fun _=>he1 rfl) rfl
    | pan v =>
      obtain ⟨v',rfl,hv⟩:=hx1
      exact h1 _ hW1 hf1 hd1 hs1 (fun h=>by cases h) ⟨v',rfl,hv⟩
  | @loopN aa env0 st0 env1 st1 x env2 st2 _ _ ih1 ih2 =>
    have hl : SoundLoop P gl aa env0 st0 x env2 st2:=by
      obtain ⟨n,hn2⟩:=ih2.2 _ rfl
      refine ⟨n + 1,fun ro code nt hc n0 wi K w a Q hW hn hnt he hQ=>?_⟩
      refine ih1.1 ro code nt hc n0 wi K w a _ hW hn hnt he fun K1 a1 w1 e hW1 hf1 hd1 hs1 he1 hx1=>?_
      cases hx1
      exact hn2 ro code nt hc n0 wi K1 w1 a1 Q hW1 hn (by omega) (he1 rfl) (hQ.step hf1 hd1 hs1)
    refine ⟨fun ro code nt hc n0 wi K w a Q hW hn hnt he hQ=>?_,fun b hb=>by cases hb; exact hl⟩
    obtain ⟨x,rfl,hx⟩:=prep_inv hc
    obtain ⟨n,hl⟩:=hl
    exact wpIn_loop_rounds n (hl ro x nt hx n0 wi K w a Q hW hn hnt he hQ)
  | @loopX aa env0 st0 x env1 st1 _ hne ih1 =>
    have hl : SoundLoop P gl aa env0 st0 x env1 st1:=by
      refine ⟨1,fun ro code nt hc n0 wi K w a Q hW hn hnt he hQ=>?_⟩
      refine ih1.1 ro code nt hc n0 wi K w a _ hW hn hnt he fun K1 a1 w1 e hW1 hf1 hd1 hs1 he1 hx1=>?_
      exact then_ne (xrel_ne hx1 hne) (hQ K1 a1 w1 e hW1 hf1 hd1 hs1 he1 hx1)
    refine ⟨fun ro code nt hc n0 wi K w a Q hW hn hnt he hQ=>?_,fun b hb=>by cases hb; exact hl⟩
    obtain ⟨x,rfl,hx⟩:=prep_inv hc
    obtain ⟨n,hl⟩:=hl
    exact wpIn_loop_rounds n (hl ro x nt hx n0 wi K w a Q hW hn hnt he hQ)
  | reg _ ih=>exact ⟨code_region hm ih,fun b hb=>by cases hb⟩
  | nil=>exact ⟨seq_nil,fun anc ops nt ha=>draw_nil ha⟩
  | idle hw _ ih=>exact ⟨seq_idle hw ih.1,fun anc ops nt ha=>draw_idle ha hw (ih.2 anc ops nt ha)⟩
  | val hw hv hk _ ih=>exact ⟨seq_now hw hv (.inl rfl) ih.1,fun anc ops nt ha=>draw_now ha hw hv (.inl rfl) hk (ih.2 anc ops nt ha)⟩
  | done hw hv hk _ ih=>exact ⟨seq_now hw hv (.inr ⟨rfl,rfl⟩) ih.1,fun anc ops nt ha=>draw_now ha hw hv (.inr ⟨rfl,rfl⟩) hk (ih.2 anc ops nt ha)⟩
  | callR hw hv hcall hk _ ihc ih=>exact ⟨seq_call hw hv ihc ih.1,fun anc ops nt ha=>draw_call ha hw hv ihc (J_evo hE hcall) hk (ih.2 anc ops nt ha)⟩
  | callP hw hv hcall ihc=>exact ⟨seq_callP hw hv ihc,fun anc ops nt ha=>draw_callP ha hw hv ihc⟩
  | panic hw hv=>exact ⟨seq_panic hw hv,fun anc ops nt ha=>draw_panic ha hw hv⟩
  | @call f fn args st x env' st' vs hFf _ hx hres ih =>
    refine SoundC.sound (fun n0 wi K w args' hW hn hargs=>?_) (hF _ _ hFf).callable
    obtain ⟨gf,c,hgf,hbody,hname,hprep⟩:=(hF _ _ hFf).ok
    obtain ⟨cb,cr,rfl,h1,h2⟩:=prepFun_inv hprep hbody
    refine calls_of_wp hgf hbody ((wpIn_wide (n:=0)).1 ?_)
    refine ih.1 none c gf.ntmps h1 n0 wi K w _ _ hW hn (by simp; omega) (env_start hargs _) fun K1 a1 w1 e hW1 hf1 hd1 hs1 he1 hx1=>?_
    have hp:=he1 (by rcases hx with rfl | rfl<;>rfl)
    obtain ⟨us,hrun,hus⟩:=res_rel hW1 hp h2 hres
    have hgo : a1.defers = []∧∃ v,(results gf a1.tmps).run P w1 = .ok v w1∧∃ K',WRel n0 wi gl K' st' w1∧Fr K K' st st'∧ERel K' (.ret (tupOf vs)) (.returned v):=by
      refine ⟨hd1,_,results_run hrun,K1,hW1,hf1,_,rfl,tup_rel hus⟩
    rcases hx with rfl | rfl
    · cases hx1; exact hgo
    · cases hx1; exact hgo
  | callX hFf _ ih =>
    refine SoundC.sound (fun n0 wi K w args' hW hn hargs=>?_) (hF _ _ hFf).callable
    obtain ⟨gf,c,hgf,hbody,hname,hprep⟩:=(hF _ _ hFf).ok
    obtain ⟨cb,cr,rfl,h1,h2⟩:=prepFun_inv hprep hbody
    refine calls_of_wp hgf hbody ((wpIn_wide (n:=0)).1 ?_)
    refine ih.1 none c gf.ntmps h1 n0 wi K w _ _ hW hn (by simp; omega) (env_start hargs _) fun K1 a1 w1 e hW1 hf1 hd1 hs1 he1 hx1=>?_
    obtain ⟨v',rfl,hv⟩:=hx1
    exact ⟨hd1,K1,hW1,hf1,v',rfl,hv⟩
  | hook h=>exact hH _ _ _ _ _ h
  | @forget f args st r more _ hr ih =>
    intro n0 wi K w args' hW hn hargs
    refine GCalls.mono (ih n0 wi K w args' hW hn hargs) fun e w' hp=>?_
    obtain ⟨K',hW',hf,he⟩:=hp
    refine ⟨K,hW.back hW' hf.le,Fr.refl K st,?_⟩
    cases r with
    | ret v =>
      obtain ⟨v',rfl,hv⟩:=he
      exact ⟨v',rfl,hv.flat hr⟩
    | pan v =>
      obtain ⟨v',rfl,hv⟩:=he
      exact ⟨v',rfl,hv.flat hr⟩
end
theorem WRel.keep {n0 : Nat} {wi : World} {gl : List Nat} {K : KM} {st : St} {w w' : World} (h : WRel n0 wi gl K st w) (hn : n0≤w.heap.size) (hb : Below w.heap.size w w') : WRel n0 wi gl K st w':=by
  have hc : ∀ a : Addr,a.block < w.heap.size→w'.cell? a = w.cell? a:=fun a ha=>by
    unfold World.cell?
    rw [hb.block _ ha]
  exact {
    below:=h.below.trans ⟨hb.os,hb.tape,hb.output,hb.size,fun k hk=>hb.block k (by omega)⟩
    dom:=h.dom
    lt:=fun b x kb h1 h2 h3=>Nat.lt_of_lt_of_le (h.lt b x kb h1 h2 h3) hb.size
    cell:=fun b x kb h1 h2 h3 o a h4=>by
      obtain ⟨v,hv,hr⟩:=h.cell b x kb h1 h2 h3 o a h4
      exact ⟨v,by rw [hc _ (h.lt b x kb h1 (fun e=>h2 (by rw [e]; exact Nat.le_refl _)) h3)]; exact hv,hr⟩
    live:=fun b x kb h1 h2 h3=>by
      obtain ⟨g1,c,el,g2,g3⟩:=h.live b x kb h1 h2 h3
      exact ⟨g1,c,el,by rw [hb.block _ (h.lt b x kb h1 (by rw [h2]; decide) h3)]; exact g2,g3⟩
    excl:=h.excl
    fit:=h.fit
    glob:=h.glob
    fo:=h.fo.step (fun _ _ _ h1 _ h3=>⟨h1,h3⟩) (fun b x kb h1 h2 h3 h4=>.inl ⟨b,x,kb,h1,h2,h3,h4,rfl⟩) hb.size (fun i hi=>.inl (hb.block i hi)) }
end Go.VX
end
section
namespace Go.VX
abbrev Post3:=VX→Env→St→Prop
structure Cx where
  P : Program
  F : FuncId→Option VFun
  H : FuncId→List AV→St→CRes→St→Prop

def wpF (X : Cx) (f : FuncId) (args : List AV) (st : St) (R : CRes→St→Prop) : Prop:=∃ r st',J X.P X.F X.H (.call f args st r st')∧R r st'
def wpO (X : Cx) (l : List VOper) (env : Env) (st : St) (Q : Post3) : Prop:=∃ x env' st',J X.P X.F X.H (.ops l env st x env' st')∧Q x env' st'
def wpC (X : Cx) (c : VC) (env : Env) (st : St) (Q : Post3) : Prop:=∃ x env' st',J X.P X.F X.H (.code c env st x env' st')∧Q x env' st'

variable {X : Cx} {env : Env} {st : St} {Q : Post3}
theorem wpC.mono {c : VC} {Q' : Post3} (h : wpC X c env st Q) (hq : ∀ x e s,Q x e s→Q' x e s) : wpC X c env st Q':=let ⟨x,e,s,j,q⟩:=h; ⟨x,e,s,j,hq x e s q⟩
theorem wpO.mono {c : List VOper} {Q' : Post3} (h : wpO X c env st Q) (hq : ∀ x e s,Q x e s→Q' x e s) : wpO X c env st Q':=let ⟨x,e,s,j,q⟩:=h; ⟨x,e,s,j,hq x e s q⟩
theorem wpF.mono {f : FuncId} {args : List AV} {R R' : CRes→St→Prop} (h : wpF X f args st R) (hq : ∀ x s,R x s→R' x s) : wpF X f args st R':=let ⟨x,s,j,q⟩:=h; ⟨x,s,j,hq x s q⟩

def callO (X : Cx) (f : FuncId) (args : List AV) (dst : Option Nat) (keep : List VOpd) (K : Env→St→Post3→Prop) (env : Env) (st : St) (Q : Post3) : Prop :=
  wpF X f args st fun r st1=>match r with
    | .ret v=>keptA env st st1 keep = true∧K (env.put dst v) st1 Q
    | .pan v=>Q (.pan v) env st1
def opO (X : Cx) (K : Env→St→Post3→Prop) (o : VOper) (env : Env) (st : St) (Q : Post3) : Prop :=
  match vop X.P o.op env st with
  | some (.val v,st1)=>keptA env st st1 o.keep = true∧K (env.put o.dst v) st1 Q
  | some (.skip,st1)=>keptA env st st1 o.keep = true∧K (env.put o.dst undefA) st1 Q
  | some (.call f args,_)=>callO X f args o.dst o.keep K env st Q
  | some (.pan v,_)=>Q (.pan v) env st
  | none=>False
def gO (X : Cx) (K : Env→St→Post3→Prop) (c b : Bool) (o : VOper) (env : Env) (st : St) (Q : Post3) : Prop:=(c = b→opO X K o env st Q)∧(c = !b→K (env.put o.dst undefA) st Q)
def xO (X : Cx) : List VOper→Env→St→Post3→Prop
  | [],env,st,Q=>Q .norm env st
  | o :: l,env,st,Q=>match o.guard with
    | none=>opO X (xO X l) o env st Q
    | some (t,b)=>match env t with
      | .sc (.bool c)=>gO X (xO X l) c b o env st Q
      | _=>xO X l (env.put o.dst undefA) st Q
theorem vop_call_st {P : Program} {vo : VOp} {f : FuncId} {args : List AV} {st1 : St} (h : vop P vo env st = some (.call f args,st1)) : st1 = st:=by
  cases vo<;>simp only [vop] at h<;>(repeat' split at h)<;>first
    | (simp only [Option.some.injEq,Prod.mk.injEq] at h; first | exact h.2.symm | (obtain ⟨h1,_⟩:=h; cases h1))
    | (simp only [Option.map_eq_some_iff,Prod.mk.injEq] at h; obtain ⟨_,_,h1,_⟩:=h; cases h1)
    | (simp only [Option.bind_eq_some_iff] at h; obtain ⟨_,_,h1⟩:=h; split at h1<;>simp at h1)
    | cases h
theorem vop_pan_st {P : Program} {vo : VOp} {v : AV} {st1 : St} (h : vop P vo env st = some (.pan v,st1)) : st1 = st:=by
  cases vo<;>simp only [vop] at h<;>(repeat' split at h)<;>first
    | (simp only [Option.some.injEq,Prod.mk.injEq] at h; first | exact h.2.symm | (obtain ⟨h1,_⟩:=h; cases h1))
    | (simp only [Option.map_eq_some_iff,Prod.mk.injEq] at h; obtain ⟨_,_,h1,_⟩:=h; cases h1)
    | (simp only [Option.bind_eq_some_iff] at h; obtain ⟨_,_,h1⟩:=h; split at h1<;>simp at h1)
    | cases h
theorem opO_ok {K : Env→St→Post3→Prop} {o : VOper} {l : List VOper} {Q : Post3} (hK : ∀ env st,K env st Q→wpO X l env st Q) (hw : wantedA env o.guard = true) (h : opO X K o env st Q) : wpO X (o :: l) env st Q:=by
  unfold opO at h
  split at h
  · rename_i v st1 hv
    obtain ⟨x,e,s,j,q⟩:=hK _ _ h.2
    exact ⟨x,e,s,.val hw hv h.1 j,q⟩
  · rename_i st1 hv
    obtain ⟨x,e,s,j,q⟩:=hK _ _ h.2
    exact ⟨x,e,s,.done hw hv h.1 j,q⟩
  · rename_i f args st1 hv
    have e1:=vop_call_st hv
    subst e1
    obtain ⟨r,st2,j,q⟩:=h
    cases r with
    | ret v =>
      obtain ⟨x,e,s,j2,q2⟩:=hK _ _ q.2
      exact ⟨x,e,s,.callR hw hv j q.1 j2,q2⟩
    | pan v=>exact ⟨_,_,_,.callP hw hv j,q⟩
  · rename_i v st1 hv
    have e1:=vop_pan_st hv
    subst e1
    exact ⟨_,_,_,.panic hw hv,h⟩
  · exact h.elim
theorem xO_ok : ∀ {l : List VOper} {env : Env} {st : St},xO X l env st Q→wpO X l env st Q
  | [],env,st,h=>⟨.norm,env,st,.nil,h⟩
  | o :: l,env,st,h=>by
    unfold xO at h
    split at h
    · rename_i hg
      exact opO_ok (fun _ _=>xO_ok) (by rw [hg]; rfl) h
    · rename_i t b hg
      split at h
      · rename_i c hc
        by_cases hcb : c = b
        · refine opO_ok (fun _ _=>xO_ok) ?_ (h.1 hcb)
          rw [hg]
          simp [wantedA,hc,hcb]
        · obtain ⟨x,e,s,j,q⟩:=xO_ok (h.2 (by cases b<;>cases c<;>simp_all))
          refine ⟨x,e,s,.idle ?_ j,q⟩
          rw [hg]
          simp [wantedA,hc]
          exact hcb
      · rename_i hc
        obtain ⟨x,e,s,j,q⟩:=xO_ok h
        refine ⟨x,e,s,.idle ?_ j,q⟩
        rw [hg]
        unfold wantedA
        split
        · rename_i heq; cases heq
        · rename_i t' b' heq
          cases heq
          split
          · rename_i c hc2
            exact absurd hc2 (hc c)
          · rfl
section
variable {K : Env→St→Post3→Prop} {o : VOper}
theorem gO_tt : gO X K true true o env st Q = opO X K o env st Q:=by simp [gO]
theorem gO_ff : gO X K false false o env st Q = opO X K o env st Q:=by simp [gO]
theorem gO_tf : gO X K true false o env st Q = K (env.put o.dst undefA) st Q:=by simp [gO]
theorem gO_ft : gO X K false true o env st Q = K (env.put o.dst undefA) st Q:=by simp [gO]
theorem gO_t {c : Bool} (h1 : c = true→opO X K o env st Q) (h2 : c = false→K (env.put o.dst undefA) st Q) : gO X K c true o env st Q:=⟨h1,h2⟩
theorem gO_f {c : Bool} (h1 : c = true→K (env.put o.dst undefA) st Q) (h2 : c = false→opO X K o env st Q) : gO X K c false o env st Q:=⟨h2,h1⟩
end

def loopO (X : Cx) (a : VC) (env : Env) (st : St) (Q : Post3) : Prop:=wpC X (.loop a) env st Q
def seqK (k : Env→St→Post3→Prop) (Q : Post3) : Post3:=fun x e s=>match x with
  | .norm=>k e s Q
  | _=>Q x e s
def blkK (id : Nat) (Q : Post3) : Post3:=fun x e s=>Q (x.unblock id) e s
def xC (X : Cx) : VC→Env→St→Post3→Prop
  | .skip,env,st,Q=>Q .norm env st
  | .reg l,env,st,Q=>xO X l env st Q
  | .seq a b,env,st,Q=>xC X a env st (seqK (xC X b) Q)
  | .cond c a b,env,st,Q=>match c.ev env with
    | .sc (.bool t)=>(t = true→xC X a env st Q)∧(t = false→xC X b env st Q)
    | _=>False
  | .block id a,env,st,Q=>xC X a env st (blkK id Q)
  | .loop a,env,st,Q=>loopO X a env st Q
  | .exit id,env,st,Q=>Q (.exit id) env st
  | .ret,env,st,Q=>Q .ret env st
theorem xC_ok : ∀ {c : VC} {env : Env} {st : St} {Q : Post3},xC X c env st Q→wpC X c env st Q
  | .skip,env,st,Q,h=>⟨_,_,_,.skip,h⟩
  | .reg l,env,st,Q,h=>let ⟨x,e,s,j,q⟩:=xO_ok h; ⟨x,e,s,.reg j,q⟩
  | .seq a b,env,st,Q,h=>by
    obtain ⟨x,e,s,j,q⟩:=xC_ok (c:=a) h
    cases x with
    | norm =>
      obtain ⟨x,e2,s2,j2,q⟩:=xC_ok (c:=b) q
      exact ⟨x,e2,s2,.seqN j j2,q⟩
    | exit i=>exact ⟨_,_,_,.seqX j (by simp),q⟩
    | ret=>exact ⟨_,_,_,.seqX j (by simp),q⟩
    | pan v=>exact ⟨_,_,_,.seqX j (by simp),q⟩
  | .cond c a b,env,st,Q,h=>by
    unfold xC at h
    split at h
    · rename_i t hc
      cases t with
      | true =>
        obtain ⟨x,e,s,j,q⟩:=xC_ok (c:=a) (h.1 rfl)
        exact ⟨x,e,s,.cond hc j,q⟩
      | false =>
        obtain ⟨x,e,s,j,q⟩:=xC_ok (c:=b) (h.2 rfl)
        exact ⟨x,e,s,.cond hc j,q⟩
    · exact h.elim
  | .block id a,env,st,Q,h=>by
    obtain ⟨x,e,s,j,q⟩:=xC_ok (c:=a) h
    exact ⟨_,e,s,.block j,q⟩
  | .loop a,env,st,Q,h=>h
  | .exit id,env,st,Q,h=>⟨_,_,_,.exit,h⟩
  | .ret,env,st,Q,h=>⟨_,_,_,.ret,h⟩
def condO (X : Cx) (c : AV) (a b : VC) (env : Env) (st : St) (Q : Post3) : Prop:=match c with
  | .sc (.bool t)=>(t = true→xC X a env st Q)∧(t = false→xC X b env st Q)
  | _=>False
theorem condO_intro {t : Bool} {a b : VC} (h1 : t = true→xC X a env st Q) (h2 : t = false→xC X b env st Q) : condO X (.sc (.bool t)) a b env st Q:=⟨h1,h2⟩
theorem condO_tt {a b : VC} : condO X (.sc (.bool true)) a b env st Q = xC X a env st Q:=by simp [condO]
theorem condO_ff {a b : VC} : condO X (.sc (.bool false)) a b env st Q = xC X b env st Q:=by simp [condO]

theorem callO_ret {K : Env→St→Post3→Prop} {f : FuncId} {args : List AV} {v : AV} {st1 : St} {dst : Option Nat} {keep : List VOpd} (h : J X.P X.F X.H (.call f args st (.ret v) st1)) (hk : keptA env st st1 keep = true) (h2 : K (env.put dst v) st1 Q) : callO X f args dst keep K env st Q :=
  ⟨_,_,h,hk,h2⟩
theorem callO_same {K : Env→St→Post3→Prop} {f : FuncId} {args : List AV} {v : AV} {dst : Option Nat} {keep : List VOpd} (h : J X.P X.F X.H (.call f args st (.ret v) st)) (h2 : K (env.put dst v) st Q) : callO X f args dst keep K env st Q :=
  callO_ret h (kept_refl _ _ _) h2
theorem callO_pan {K : Env→St→Post3→Prop} {f : FuncId} {args : List AV} {v : AV} {st1 : St} {dst : Option Nat} {keep : List VOpd} (h : J X.P X.F X.H (.call f args st (.pan v) st1)) (h2 : Q (.pan v) env st1) : callO X f args dst keep K env st Q :=
  ⟨_,_,h,h2⟩

def bodK (res : List VRes) (R : CRes→St→Prop) : Post3:=fun x e s=>match x with
  | .norm=>∃ vs,resOf e s res = some vs∧R (.ret (tupOf vs)) s
  | .ret=>∃ vs,resOf e s res = some vs∧R (.ret (tupOf vs)) s
  | .pan v=>R (.pan v) s
  | .exit _=>False
theorem wpF_intro {f : FuncId} {fn : VFun} {args : List AV} {R : CRes→St→Prop} (hF : X.F f = some fn) (h : xC X fn.body (envOf args) st (bodK fn.res R)) : wpF X f args st R:=by
  obtain ⟨x,e,s,j,q⟩:=xC_ok h
  cases x with
  | norm=>obtain ⟨vs,h1,h2⟩:=q; exact ⟨_,_,.call hF j (.inl rfl) h1,h2⟩
  | ret=>obtain ⟨vs,h1,h2⟩:=q; exact ⟨_,_,.call hF j (.inr rfl) h1,h2⟩
  | pan v=>exact ⟨_,_,.callX hF j,q⟩
  | exit i=>exact q.elim
theorem pure_intro {f : FuncId} {fn : VFun} {args : List AV} {v : AV} (hF : X.F f = some fn) (hv : v.flat = true) (h : xC X fn.body (envOf args) (st++[]) (bodK fn.res fun r s=>r = .ret v∧∃ m,s = st++m)) : J X.P X.F X.H (.call f args st (.ret v) st):=by
  rw [List.append_nil] at h
  obtain ⟨r,s,j,rfl,m,rfl⟩:=wpF_intro hF h
  exact .forget j hv

theorem seqK_norm {k : Env→St→Post3→Prop} {e : Env} {s : St} : seqK k Q .norm e s = k e s Q:=rfl
theorem seqK_ret {k : Env→St→Post3→Prop} {e : Env} {s : St} : seqK k Q .ret e s = Q .ret e s:=rfl
theorem seqK_exit {k : Env→St→Post3→Prop} {i : Nat} {e : Env} {s : St} : seqK k Q (.exit i) e s = Q (.exit i) e s:=rfl
theorem seqK_pan {k : Env→St→Post3→Prop} {v : AV} {e : Env} {s : St} : seqK k Q (.pan v) e s = Q (.pan v) e s:=rfl
theorem blkK_norm {i : Nat} {e : Env} {s : St} : blkK i Q .norm e s = Q .norm e s:=rfl
theorem blkK_ret {i : Nat} {e : Env} {s : St} : blkK i Q .ret e s = Q .ret e s:=rfl
theorem blkK_pan {i : Nat} {v : AV} {e : Env} {s : St} : blkK i Q (.pan v) e s = Q (.pan v) e s:=rfl
theorem blkK_exit {i k : Nat} {e : Env} {s : St} : blkK i Q (.exit k) e s = if k = i then Q .norm e s else Q (.exit k) e s:=by
  unfold blkK VX.unblock
  simp only
  split<;>rfl
theorem bodK_norm {res : List VRes} {R : CRes→St→Prop} {e : Env} {s : St} : bodK res R .norm e s = ∃ vs,resOf e s res = some vs∧R (.ret (tupOf vs)) s:=rfl
theorem bodK_ret {res : List VRes} {R : CRes→St→Prop} {e : Env} {s : St} : bodK res R .ret e s = ∃ vs,resOf e s res = some vs∧R (.ret (tupOf vs)) s:=rfl
theorem bodK_pan {res : List VRes} {R : CRes→St→Prop} {e : Env} {s : St} {v : AV} : bodK res R (.pan v) e s = R (.pan v) s:=rfl

theorem put_at (env : Env) (d : Nat) (v : AV) (t : Nat) : (env.put (some d) v) t = if t = d then v else env t:=rfl
theorem put_none (env : Env) (v : AV) : env.put none v = env:=rfl
theorem envOf_zero (a : AV) (r : List AV) : envOf (a :: r) 0 = a:=rfl
theorem envOf_succ (a : AV) (r : List AV) (n : Nat) : envOf (a :: r) (n + 1) = envOf r n:=rfl
theorem keptA_nil (env : Env) (st st1 : St) : keptA env st st1 [] = true:=rfl
theorem at1_loc (st L : St) (k o : Nat) : St.at1 (st++L) (st.length + k) o = St.at1 L k o:=by
  unfold St.at1
  rw [List.getElem?_append_right (by omega),Nat.add_sub_cancel_left]
theorem atN_loc (st L : St) (k o n : Nat) : St.atN (st++L) (st.length + k) o n = St.atN L k o n:=by
  unfold St.atN
  rw [List.getElem?_append_right (by omega),Nat.add_sub_cancel_left]
theorem put_loc (st L : St) (k o : Nat) (vs : List AV) : St.put (st++L) (st.length + k) o vs = (St.put L k o vs).map (st++·):=by
  unfold St.put
  rw [List.getElem?_append_right (by omega),Nat.add_sub_cancel_left]
  cases L[k]? with
  | none=>rfl
  | some x =>
    simp only
    split
    · simp [List.set_append_right]
    · rfl
theorem at1_zero (cs : List AV) (v o : Nat) (L : St) : St.at1 (⟨cs,0,v⟩ :: L) 0 o = cs[o]?:=rfl
theorem at1_succ (b : Box) (k o : Nat) (L : St) : St.at1 (b :: L) (k + 1) o = St.at1 L k o:=rfl
theorem atN_zero (cs : List AV) (v o n : Nat) (L : St) : St.atN (⟨cs,0,v⟩ :: L) 0 o n = if o + n≤cs.length then some ((cs.drop o).take n) else none:=rfl
theorem atN_succ (b : Box) (k o n : Nat) (L : St) : St.atN (b :: L) (k + 1) o n = St.atN L k o n:=rfl
theorem put_zero (cs : List AV) (v o : Nat) (vs : List AV) (L : St) (h : o + vs.length≤cs.length) (h2 : vs.all AV.isCell = true) : St.put (⟨cs,0,v⟩ :: L) 0 o vs = some (⟨splice cs o vs,0,v + 1⟩ :: L):=by
  simp only [St.put,List.getElem?_cons_zero,h,h2,and_self,if_true,List.set_cons_zero]
theorem put_succ (b : Box) (k o : Nat) (vs : List AV) (L : St) : St.put (b :: L) (k + 1) o vs = (St.put L k o vs).map (b :: ·):=by
  simp only [St.put,List.getElem?_cons_succ]
  cases L[k]? with
  | none=>rfl
  | some x =>
    simp only
    split<;>rfl
theorem app_app (st L M : St) : (st++L)++M = st++(L++M):=List.append_assoc _ _ _
theorem app_len (st L : St) : (st++L).length = st.length + L.length:=List.length_append
end Go.VX
end
section
namespace Go.VX
def lenA : AV→Option Nat
  | .sl _ _ n _ _=>some n
  | .sc (.slice none 0 0)=>some 0
  | _=>none
theorem lenA_sl (b o n e : Nat) (f : Bool) : lenA (.sl b o n e f) = some n:=rfl
theorem lenA_nil : lenA (.sc (.slice none 0 0)) = some 0:=rfl
section
variable (P : Program) (env : Env) (st : St)
theorem v_mv (x : VOpd) : vop P (.mv x) env st = ( some (.val (x.ev env),st)):=rfl
theorem v_pick (c : VOpd) (a : VOpd) (b : VOpd) : vop P (.pick c a b) env st = ( match c.ev env with
    | .sc (.bool t)=>some (.val (if t then a.ev env else b.ev env),st)
    | _=>none):=rfl
theorem v_alloc (zero : List Value) : vop P (.alloc zero) env st = ( some (.val (.ptr st.length 0),st++[⟨zero.map AV.sc,0,0⟩])):=rfl
theorem v_box (x : VOpd) : vop P (.box x) env st = ( some (.val (.ptr st.length 0),st++[⟨cellsOf (x.ev env),0,0⟩])):=rfl
theorem v_build (zero : List Value) (ps : List (Nat × Nat × VOpd)) : vop P (.build zero ps) env st = ( (fillA (zero.map AV.sc) (partsEv env ps)).map fun cs=>(.val (.agg cs),st)):=rfl
theorem v_bslice (esz : Nat) (len : Nat) (zero : List Value) (ps : List (Nat × Nat × VOpd)) : vop P (.bslice esz len zero ps) env st = ( (fillA (zeroes zero len) (partsEv env ps)).map fun cs=>(.val (.sl st.length 0 len esz true),st++[⟨cs,0,0⟩])):=rfl
theorem v_load (n : Option Nat) (a : VOpd) : vop P (.load n a) env st = ( match a.ev env,n with
    | .ptr b o,none=>(st.at1 b o).map fun v=>(.val v,st)
    | .ptr b o,some n=>(st.atN b o n).map fun vs=>(.val (.agg vs),st)
    | _,_=>none):=rfl
theorem v_store (n : Nat) (a : VOpd) (x : VOpd) : vop P (.store n a x) env st = ( match a.ev env with
    | .ptr b o=>if (cellsOf (x.ev env)).length = n then (st.put b o (cellsOf (x.ev env))).map fun st'=>(.skip,st') else none
    | _=>none):=rfl
theorem v_nilck (x : VOpd) : vop P (.nilck x) env st = ( match x.ev env with
    | .ptr b o=>some (.val (.ptr b o),st)
    | .fn f a b=>some (.val (.fn f a b),st)
    | .iface t v=>some (.val (.iface t v),st)
    | _=>none):=rfl
theorem v_isnil (k : Nat) (neg : Bool) (x : VOpd) : vop P (.isnil k neg x) env st = ( match k with
    | 0=>match x.ev env with
      | .ptr _ _=>some (.val (.sc (.bool neg)),st)
      | .sc (.pointer none)=>some (.val (.sc (.bool (!neg))),st)
      | _=>none
    | 1=>match x.ev env with
      | .sl _ _ _ _ _=>some (.val (.sc (.bool neg)),st)
      | .sc (.slice none 0 0)=>some (.val (.sc (.bool (!neg))),st)
      | _=>none
    | 2=>match x.ev env with
      | .fn _ _ _=>some (.val (.sc (.bool neg)),st)
      | .sc .nilFunc=>some (.val (.sc (.bool (!neg))),st)
      | _=>none
    | 3=>match x.ev env with
      | .err=>some (.val (.sc (.bool neg)),st)
      | .sc .nilIface=>some (.val (.sc (.bool (!neg))),st)
      | _=>none
    | _=>none):=rfl
theorem v_bin (op : BinOp) (t : TypeId) (c : Bool) (x : VOpd) (y : VOpd) : vop P (.bin op t c x y) env st = ( match (x.ev env).toV,(y.ev env).toV with
    | some a,some b=>(closed P (do eqGuard op t (if c then .const a else .tmp 0) (.tmp 0) a b; binOp op t a b)).bind fun v=>if cellVal v then some (.val (.sc v),st) else none
    | _,_=>none):=rfl
theorem v_un (op : UnOp) (x : VOpd) : vop P (.un op x) env st = ( match (x.ev env).toV with
    | some a=>(closed P (Op.unary op a)).bind fun v=>if cellVal v then some (.val (.sc v),st) else none
    | _=>none):=rfl
theorem v_conv (s : TypeId) (d : TypeId) (x : VOpd) : vop P (.conv s d x) env st = ( match (x.ev env).toV with
    | some a=>(closed P (convert s d a)).bind fun v=>if cellVal v then some (.val (.sc v),st) else none
    | _=>none):=rfl
theorem v_idxS (t : TypeId) (x : VOpd) (i : VOpd) : vop P (.idxS t x i) env st = ( match (x.ev env).toV,(i.ev env).toV with
    | some a,some b=>(closed P (Instr.index t a b)).bind fun v=>if cellVal v then some (.val (.sc v),st) else none
    | _,_=>none):=rfl
theorem v_slS (t : TypeId) (x : VOpd) (lo : Option VOpd) (hi : Option VOpd) : vop P (.slS t x lo hi) env st = ( match (x.ev env).toV,(lo.map (·.ev env)).map AV.toV,(hi.map (·.ev env)).map AV.toV with
    | some a,none,none=>(closed P (Instr.sliceAt t a none none none)).bind fun v=>if cellVal v then some (.val (.sc v),st) else none
    | some a,some (some l),none=>(closed P (Instr.sliceAt t a (some l) none none)).bind fun v=>if cellVal v then some (.val (.sc v),st) else none
    | some a,none,some (some h)=>(closed P (Instr.sliceAt t a none (some h) none)).bind fun v=>if cellVal v then some (.val (.sc v),st) else none
    | some a,some (some l),some (some h)=>(closed P (Instr.sliceAt t a (some l) (some h) none)).bind fun v=>if cellVal v then some (.val (.sc v),st) else none
    | _,_,_=>none):=rfl
theorem v_bi (b : Builtin) (ts : List TypeId) (t : TypeId) (xs : List VOpd) : vop P (.bi b ts t xs) env st = ( match cellsV (xs.map (·.ev env)) with
    | some vs=>match closed P (builtin b ts.toArray t #[] vs.toArray) with
      | some (.value v)=>if cellVal v then some (.val (.sc v),st) else none
      | _=>none
    | none=>none):=rfl
theorem v_fieldA (off : Nat) (x : VOpd) : vop P (.fieldA off x) env st = ( match x.ev env with
    | .ptr b o=>some (.val (.ptr b (o + off)),st)
    | _=>none):=rfl
theorem v_field (off : Nat) (n : Option Nat) (x : VOpd) : vop P (.field off n x) env st = ( match x.ev env,n with
    | .agg cs,none=>(cs[off]?).map fun v=>(.val v,st)
    | .agg cs,some n=>if off + n≤cs.length then some (.val (.agg ((cs.drop off).take n)),st) else none
    | _,_=>none):=rfl
theorem v_idx (len : Nat) (n : Option Nat) (esz : Nat) (x : VOpd) (i : VOpd) : vop P (.idx len n esz x i) env st = ( match x.ev env,asInt? (i.ev env),n with
    | .agg cs,some i,none=>if 0≤i∧i < len then (cs[i.toNat * esz]?).map fun v=>(.val v,st) else none
    | .agg cs,some i,some n=>if 0≤i∧i < len∧i.toNat * esz + n≤cs.length then some (.val (.agg ((cs.drop (i.toNat * esz)).take n)),st) else none
    | _,_,_=>none):=rfl
theorem v_slice (arr : Option Nat) (esz : Nat) (x : VOpd) (lo : Option VOpd) (hi : Option VOpd) (mx : Option VOpd) : vop P (.slice arr esz x lo hi mx) env st = ( match arr,x.ev env with
    | some n,.ptr b o=>match bnd env n mx,bnd env n hi,bnd env 0 lo with
      | some m,some h,some l=>if l≤h∧h≤m∧m≤n∧(mx.isSome = true→hi.isSome = true)∧(st.atN b o (n * esz)).isSome = true then some (.val (.sl b (o + l * esz) (h - l) esz (m == h)),st) else none
      | _,_,_=>none
    | none,.sl b o len esz' full=>match bnd env len mx,bnd env len hi,bnd env 0 lo with
      | some m,some h,some l=>if l≤h∧h≤m∧m≤len∧(mx.isSome = true→hi.isSome = true)∧esz' = esz then some (.val (.sl b (o + l * esz) (h - l) esz (if mx.isSome then m == h else full && h == len)),st) else none
      | _,_,_=>none
    | none,.sc (.slice none 0 0)=>match bnd env 0 mx,bnd env 0 hi,bnd env 0 lo with
      | some 0,some 0,some 0=>if (mx.isSome = true→hi.isSome = true) then some (.val (.sc (.slice none 0 0)),st) else none
      | _,_,_=>none
    | _,_=>none):=rfl
theorem v_mksl (esz : Nat) (bytes : Nat) (zero : List Value) (len : VOpd) (cap : VOpd) : vop P (.mksl esz bytes zero len cap) env st = ( match asNat? (len.ev env),asNat? (cap.ev env) with
    | some l,some c=>if l≤c∧c * bytes≤1000000000∧c≤1000000000 then some (.val (.sl st.length 0 l esz (l == c)),st++[⟨zeroes zero c,0,0⟩]) else none
    | _,_=>none):=rfl
theorem v_append (esz : Nat) (bytes : Nat) (x : VOpd) (y : VOpd) : vop P (.append esz bytes x y) env st = ( match srcLen (x.ev env),srcLen (y.ev env) with
    | some n,some m=>if (n + m) * (bytes + 1)≤1000000000 then
        match srcCells st esz n (x.ev env),srcCells st esz m (y.ev env) with
        | some old,some new =>
          match x.ev env with
          | .sl b o len esz' full =>
            if m = 0 then some (.val (.sl b o len esz' full),st) else
            if full then some (.val (.sl st.length 0 (n + m) esz false),st++[⟨old++new,0,0⟩])
            else if ((st[b]?).map (·.mode)) = some 0∧new.all AV.isCell = true then some (.val (.sl st.length 0 (n + m) esz false),st.kill b++[⟨old++new,0,0⟩]) else none
          | .sc (.slice none 0 0)=>if m = 0 then some (.val (.sc (.slice none 0 0)),st) else some (.val (.sl st.length 0 (n + m) esz false),st++[⟨new,0,0⟩])
          | _=>none
        | _,_=>none
      else none
    | _,_=>none):=rfl
theorem v_copy (esz : Nat) (x : VOpd) (y : VOpd) : vop P (.copy esz x y) env st = ( match x.ev env,srcLen (y.ev env) with
    | .sl b o len _ _,some m=>match srcCells st esz (min m len) (y.ev env) with
      | some cs=>(st.put b o cs).map fun st'=>(.val (.sc (.int .i64 (min m len : Nat))),st')
      | none=>none
    | .sc (.slice none 0 0),some m=>match srcCells st esz 0 (y.ev env) with
      | some _=>some (.val (.sc (.int .i64 0)),st)
      | none=>none
    | _,_=>none):=rfl
theorem v_mkif (t : TypeId) (x : VOpd) : vop P (.mkif t x) env st = ( some (.val (.iface t (x.ev env)),st)):=rfl
theorem v_assert (t : TypeId) (ok : Bool) (zero : Value) (x : VOpd) : vop P (.assert t ok zero x) env st = ( match x.ev env,ok with
    | .iface u v,true=>some (.val (if u = t then .tup [v,.sc (.bool true)] else .tup [ofV zero,.sc (.bool false)]),st)
    | .iface u v,false=>if u = t then some (.val v,st) else none
    | .sc .nilIface,true=>some (.val (.tup [ofV zero,.sc (.bool false)]),st)
    | _,_=>none):=rfl
theorem v_mkfn (f : FuncId) (first : List VOpd) (cap : List VOpd) : vop P (.mkfn f first cap) env st = ( some (.val (.fn f (first.map (·.ev env)) (cap.map (·.ev env))),st)):=rfl
theorem v_ext (x : VOpd) (i : Nat) : vop P (.ext x i) env st = ( match x.ev env with
    | .tup vs=>(vs[i]?).map fun v=>(.val v,st)
    | _=>none):=rfl
theorem v_call (f : FuncId) (args : List VOpd) : vop P (.call f args) env st = ( some (.call f (args.map (·.ev env)),st)):=rfl
theorem v_callv (x : VOpd) (args : List VOpd) : vop P (.callv x args) env st = ( match x.ev env with
    | .fn f first cap=>some (.call f (first++args.map (·.ev env)++cap),st)
    | _=>none):=rfl
theorem v_panic (x : VOpd) : vop P (.panic x) env st = ( match x.ev env with
    | .iface t v=>some (.pan (.iface t v),st)
    | _=>none):=rfl
end
theorem v_len {P : Program} {x : VOpd} {env : Env} {st : St} : vop P (.len x) env st = (lenA (x.ev env)).map fun (n : Nat)=>(.val (.sc (.int .i64 (n : Int))),st):=by
  simp only [vop]
  cases x.ev env with
  | sl b o n e f=>rfl
  | sc v =>
    cases v with
    | slice a l c=>cases a<;>cases l<;>cases c<;>rfl
    | _=>rfl
  | _=>rfl
section
variable {X : Cx} {env : Env} {st : St} {Q : Post3}
theorem xO_nil : xO X [] env st Q = Q .norm env st:=rfl
theorem xO_one {i : Nat} {d : Option Nat} {op : VOp} {k : List VOpd} {l : List VOper} : xO X (⟨i,d,op,none,k⟩ :: l) env st Q = opO X (xO X l) ⟨i,d,op,none,k⟩ env st Q:=rfl
def grd (X : Cx) (K : Env→St→Post3→Prop) (c : AV) (b : Bool) (o : VOper) (env : Env) (st : St) (Q : Post3) : Prop:=match c with
  | .sc (.bool c)=>gO X K c b o env st Q
  | _=>K (env.put o.dst undefA) st Q
theorem xO_grd {i : Nat} {d : Option Nat} {op : VOp} {t : Nat} {b : Bool} {k : List VOpd} {l : List VOper} : xO X (⟨i,d,op,some (t,b),k⟩ :: l) env st Q = grd X (xO X l) (env t) b ⟨i,d,op,none,k⟩ env st Q:=by
  unfold grd
  simp only [xO]
  rfl
theorem grd_undef {K : Env→St→Post3→Prop} {b : Bool} {o : VOper} : grd X K undefA b o env st Q = K (env.put o.dst undefA) st Q:=rfl
theorem grd_eq {K : Env→St→Post3→Prop} {c b : Bool} {o : VOper} : grd X K (.sc (.bool c)) b o env st Q = gO X K c b o env st Q:=rfl
def opR (X : Cx) (K : Env→St→Post3→Prop) (dst : Option Nat) (keep : List VOpd) (env : Env) (st : St) (Q : Post3) (r : Option (VN × St)) : Prop :=
  match r with
  | some (.val v,st1)=>keptA env st st1 keep = true∧K (env.put dst v) st1 Q
  | some (.skip,st1)=>keptA env st st1 keep = true∧K (env.put dst undefA) st1 Q
  | some (.call f args,_)=>callO X f args dst keep K env st Q
  | some (.pan v,_)=>Q (.pan v) env st
  | none=>False
theorem opO_eq {K : Env→St→Post3→Prop} {i : Nat} {d : Option Nat} {op : VOp} {g : Option (Nat × Bool)} {k : List VOpd} : opO X K ⟨i,d,op,g,k⟩ env st Q = opR X K d k env st Q (vop X.P op env st):=rfl
theorem opR_val {K : Env→St→Post3→Prop} {d : Option Nat} {k : List VOpd} {v : AV} {st1 : St} : opR X K d k env st Q (some (.val v,st1)) = (keptA env st st1 k = true∧K (env.put d v) st1 Q):=rfl
theorem opR_skip {K : Env→St→Post3→Prop} {d : Option Nat} {k : List VOpd} {st1 : St} : opR X K d k env st Q (some (.skip,st1)) = (keptA env st st1 k = true∧K (env.put d undefA) st1 Q):=rfl
theorem opR_call {K : Env→St→Post3→Prop} {d : Option Nat} {k : List VOpd} {f : FuncId} {args : List AV} {st1 : St} : opR X K d k env st Q (some (.call f args,st1)) = callO X f args d k K env st Q:=rfl
theorem opR_pan {K : Env→St→Post3→Prop} {d : Option Nat} {k : List VOpd} {v : AV} {st1 : St} : opR X K d k env st Q (some (.pan v,st1)) = Q (.pan v) env st:=rfl
theorem xC_skip : xC X .skip env st Q = Q .norm env st:=rfl
theorem xC_reg {l : List VOper} : xC X (.reg l) env st Q = xO X l env st Q:=rfl
theorem xC_seq {a b : VC} : xC X (.seq a b) env st Q = xC X a env st (seqK (xC X b) Q):=rfl
theorem xC_cond {c : VOpd} {a b : VC} : xC X (.cond c a b) env st Q = condO X (c.ev env) a b env st Q:=rfl
theorem xC_block {id : Nat} {a : VC} : xC X (.block id a) env st Q = xC X a env st (blkK id Q):=rfl
theorem xC_loop {a : VC} : xC X (.loop a) env st Q = loopO X a env st Q:=rfl
theorem xC_exit {id : Nat} : xC X (.exit id) env st Q = Q (.exit id) env st:=rfl
theorem xC_ret : xC X .ret env st Q = Q .ret env st:=rfl
theorem kept_stay (l : List VOpd) : keptA env st st l = true:=kept_refl _ _ _
end
end Go.VX
end
section
namespace Go.VX
section
variable (P : Program) (t : TypeId) (k : IntKind) (a b : Int) (ox oy : Operand)
theorem c_lss : closed P (do eqGuard .lss t ox oy (.int k a) (.int k b); binOp .lss t (.int k a) (.int k b)) = some (.bool (decide (a < b))):=by cases k<;>rfl
theorem c_leq : closed P (do eqGuard .leq t ox oy (.int k a) (.int k b); binOp .leq t (.int k a) (.int k b)) = some (.bool (decide (a≤b))):=by cases k<;>rfl
theorem c_gtr : closed P (do eqGuard .gtr t ox oy (.int k a) (.int k b); binOp .gtr t (.int k a) (.int k b)) = some (.bool (decide (b < a))):=by cases k<;>rfl
theorem c_geq : closed P (do eqGuard .geq t ox oy (.int k a) (.int k b); binOp .geq t (.int k a) (.int k b)) = some (.bool (decide (b≤a))):=by cases k<;>rfl
theorem c_eql : closed P (do eqGuard .eql t ox oy (.int k a) (.int k b); binOp .eql t (.int k a) (.int k b)) = some (.bool (decide (a = b))):=by
  have : closed P (do eqGuard .eql t ox oy (.int k a) (.int k b); binOp .eql t (.int k a) (.int k b)) = some (.bool (a == b)):=by cases k<;>rfl
  rw [this]
  by_cases h : a = b<;>simp [h]
theorem c_neq : closed P (do eqGuard .neq t ox oy (.int k a) (.int k b); binOp .neq t (.int k a) (.int k b)) = some (.bool (decide (a≠b))):=by
  have : closed P (do eqGuard .neq t ox oy (.int k a) (.int k b); binOp .neq t (.int k a) (.int k b)) = some (.bool (a != b)):=by cases k<;>rfl
  rw [this]
  by_cases h : a = b<;>simp [h]
theorem c_add : closed P (do eqGuard .add t ox oy (.int k a) (.int k b); binOp .add t (.int k a) (.int k b)) = some (.int k (k.wrap (a + b))):=by cases k<;>rfl
theorem c_sub : closed P (do eqGuard .sub t ox oy (.int k a) (.int k b); binOp .sub t (.int k a) (.int k b)) = some (.int k (k.wrap (a - b))):=by cases k<;>rfl
theorem c_mul : closed P (do eqGuard .mul t ox oy (.int k a) (.int k b); binOp .mul t (.int k a) (.int k b)) = some (.int k (k.wrap (a * b))):=by cases k<;>rfl
theorem c_min (u v w : TypeId) : closed P (builtin .min [u,v].toArray w #[] [.int k a,.int k b].toArray) = some (.value (.int k (min a b))):=by
  have : closed P (builtin .min [u,v].toArray w #[] [.int k a,.int k b].toArray) = some (.value (.int k (if b < a then b else a))):=by cases k<;>rfl
  rw [this,show (if b < a then b else a) = min a b by split<;>omega]
theorem c_max (u v w : TypeId) : closed P (builtin .max [u,v].toArray w #[] [.int k a,.int k b].toArray) = some (.value (.int k (max a b))):=by
  have : closed P (builtin .max [u,v].toArray w #[] [.int k a,.int k b].toArray) = some (.value (.int k (if a < b then b else a))):=by cases k<;>rfl
  rw [this,show (if a < b then b else a) = max a b by split<;>omega]
theorem c_not (x : Bool) : closed P (Op.unary .not (.bool x)) = some (.bool !x):=rfl
end
end Go.VX
end
section
namespace Go.VX
variable {X : Cx} {env : Env} {st : St} {Q : Post3}
def loopK (X : Cx) (a : VC) (Q : Post3) : Post3:=fun x e s=>match x with
  | .norm=>loopO X a e s Q
  | _=>Q x e s
theorem loopK_norm {a : VC} {e : Env} {s : St} : loopK X a Q .norm e s = loopO X a e s Q:=rfl
theorem loopK_ret {a : VC} {e : Env} {s : St} : loopK X a Q .ret e s = Q .ret e s:=rfl
theorem loopK_exit {a : VC} {i : Nat} {e : Env} {s : St} : loopK X a Q (.exit i) e s = Q (.exit i) e s:=rfl
theorem loopK_pan {a : VC} {v : AV} {e : Env} {s : St} : loopK X a Q (.pan v) e s = Q (.pan v) e s:=rfl
def invK (I : Nat→Env→St→Prop) (n : Nat) (Q : Post3) : Post3:=fun x e s=>match x with
  | .norm=>∃ m,m < n∧I m e s
  | _=>Q x e s
theorem invK_norm {I : Nat→Env→St→Prop} {n : Nat} {e : Env} {s : St} : invK I n Q .norm e s = ∃ m,m < n∧I m e s:=rfl
theorem invK_ret {I : Nat→Env→St→Prop} {n : Nat} {e : Env} {s : St} : invK I n Q .ret e s = Q .ret e s:=rfl
theorem invK_exit {I : Nat→Env→St→Prop} {n : Nat} {i : Nat} {e : Env} {s : St} : invK I n Q (.exit i) e s = Q (.exit i) e s:=rfl
theorem invK_pan {I : Nat→Env→St→Prop} {n : Nat} {v : AV} {e : Env} {s : St} : invK I n Q (.pan v) e s = Q (.pan v) e s:=rfl
theorem loop_inv {a : VC} (I : Nat→Env→St→Prop) (hs : ∀ n e s,I n e s→xC X a e s (invK I n Q)) : ∀ (n : Nat) {env : Env} {st : St},I n env st→loopO X a env st Q:=by
  intro n
  induction n using Nat.strongRecOn with
  | _ n ih =>
    intro env st h
    obtain ⟨x,e,s,j,q⟩:=xC_ok (hs n env st h)
    cases x with
    | norm =>
      obtain ⟨m,hm,hI⟩:=q
      obtain ⟨x,e2,s2,j2,q⟩:=ih m hm hI
      exact ⟨x,e2,s2,.loopN j j2,q⟩
    | exit i=>exact ⟨_,_,_,.loopX j (by simp),q⟩
    | ret=>exact ⟨_,_,_,.loopX j (by simp),q⟩
    | pan v=>exact ⟨_,_,_,.loopX j (by simp),q⟩
theorem opO_mono {K K' : Env→St→Post3→Prop} {o : VOper} {Q' : Post3} (hK : ∀ e s,K e s Q→K' e s Q') (hq : ∀ x e s,Q x e s→Q' x e s) (h : opO X K o env st Q) : opO X K' o env st Q':=by
  unfold opO at h ⊢
  split
  · rename_i v st1 hv
    simp only [hv] at h
    exact ⟨h.1,hK _ _ h.2⟩
  · rename_i st1 hv
    simp only [hv] at h
    exact ⟨h.1,hK _ _ h.2⟩
  · rename_i f args st1 hv
    simp only [hv] at h
    refine wpF.mono h fun r s hr=>?_
    cases r with
    | ret v=>exact ⟨hr.1,hK _ _ hr.2⟩
    | pan v=>exact hq _ _ _ hr
  · rename_i v st1 hv
    simp only [hv] at h
    exact hq _ _ _ h
  · rename_i hv
    simp only [hv] at h
theorem xO_mono : ∀ {l : List VOper} {env : Env} {st : St} {Q Q' : Post3},(∀ x e s,Q x e s→Q' x e s)→xO X l env st Q→xO X l env st Q'
  | [],_,_,_,_,hq,h=>hq _ _ _ h
  | o :: l,env,st,Q,Q',hq,h=>by
    unfold xO at h ⊢
    split
    · rename_i hg
      simp only [hg] at h
      exact opO_mono (fun _ _=>xO_mono hq) hq h
    · rename_i t b hg
      simp only [hg] at h
      split
      · rename_i c hc
        simp only [hc] at h
        exact ⟨fun hcb=>opO_mono (fun _ _=>xO_mono hq) hq (h.1 hcb),fun hcb=>xO_mono hq (h.2 hcb)⟩
      · rename_i hc
        split at h
        · rename_i c hc2
          exact absurd hc2 (hc c)
        · exact xO_mono hq h
theorem xC_mono : ∀ {c : VC} {env : Env} {st : St} {Q Q' : Post3},(∀ x e s,Q x e s→Q' x e s)→xC X c env st Q→xC X c env st Q'
  | .skip,_,_,_,_,hq,h=>hq _ _ _ h
  | .reg l,_,_,_,_,hq,h=>xO_mono hq h
  | .seq a b,_,_,Q,Q',hq,h=>xC_mono (c:=a) (fun x e s hx=>by
      cases x with
      | norm=>exact xC_mono (c:=b) hq hx
      | ret=>exact hq _ _ _ hx
      | exit i=>exact hq _ _ _ hx
      | pan v=>exact hq _ _ _ hx) h
  | .cond c a b,env,st,Q,Q',hq,h=>by
    unfold xC at h ⊢
    split
    · rename_i t hc
      simp only [hc] at h
      exact ⟨fun ht=>xC_mono (c:=a) hq (h.1 ht),fun ht=>xC_mono (c:=b) hq (h.2 ht)⟩
    · rename_i hc
      split at h
      · rename_i t hc2
        exact absurd hc2 (hc t)
      · exact h
  | .block id a,_,_,_,_,hq,h=>xC_mono (c:=a) (fun x e s hx=>hq _ e s hx) h
  | .loop a,_,_,_,_,hq,h=>wpC.mono h hq
  | .exit id,_,_,_,_,hq,h=>hq _ _ _ h
  | .ret,_,_,_,_,hq,h=>hq _ _ _ h
theorem condO_mono {c : AV} {a b : VC} {Q' : Post3} (hq : ∀ x e s,Q x e s→Q' x e s) (h : condO X c a b env st Q) : condO X c a b env st Q':=by
  unfold condO at h ⊢
  split
  · simp only at h
    exact ⟨fun ht=>xC_mono hq (h.1 ht),fun ht=>xC_mono hq (h.2 ht)⟩
  · rename_i hc
    split at h
    · rename_i t
      exact absurd rfl (hc t)
    · exact h
def mK (M : Env→St→Prop) (Q : Post3) : Post3:=fun x e s=>match x with
  | .norm=>M e s
  | _=>Q x e s
theorem mK_norm {M : Env→St→Prop} {e : Env} {s : St} : mK M Q .norm e s = M e s:=rfl
theorem mK_ret {M : Env→St→Prop} {e : Env} {s : St} : mK M Q .ret e s = Q .ret e s:=rfl
theorem mK_exit {M : Env→St→Prop} {i : Nat} {e : Env} {s : St} : mK M Q (.exit i) e s = Q (.exit i) e s:=rfl
theorem mK_pan {M : Env→St→Prop} {v : AV} {e : Env} {s : St} : mK M Q (.pan v) e s = Q (.pan v) e s:=rfl
theorem mK_le {M : Env→St→Prop} {k : Env→St→Post3→Prop} (h : ∀ e s,M e s→k e s Q) (x : VX) (e : Env) (s : St) (hx : mK M Q x e s) : seqK k Q x e s:=by
  cases x with
  | norm=>exact h e s hx
  | ret=>exact hx
  | exit i=>exact hx
  | pan v=>exact hx
theorem loopO_cutB {a : VC} {k : Env→St→Post3→Prop} {id : Nat} (M : Env→St→Prop) (h : loopO X a env st (blkK id (mK M Q))) (h2 : ∀ e s,M e s→k e s Q) : loopO X a env st (blkK id (seqK k Q)):=wpC.mono h fun x e s hx=>mK_le h2 _ e s hx
def Same (L : List Nat) (env e : Env) : Prop:=∀ t ∈ L,e t = env t
theorem Same.refl (L : List Nat) (env : Env) : Same L env env:=fun _ _=>rfl
theorem same_nil (env e : Env) : Same [] env e = True:=by simp [Same]
theorem same_cons (t : Nat) (L : List Nat) (env e : Env) : Same (t :: L) env e = (e t = env t∧Same L env e):=by simp [Same]
theorem loop_live {a : VC} (L : List Nat) (R : Nat→Env→Prop) (n : Nat) (h0 : R n env) (hs : ∀ m e,Same L env e→R m e→xC X a e st (invK (fun m e s=>s = st∧Same L env e∧R m e) m Q)) : loopO X a env st Q :=
  loop_inv (fun m e s=>s = st∧Same L env e∧R m e) (fun m e s h=>by obtain ⟨rfl,h1,h2⟩:=h; exact hs m e h1 h2) n ⟨rfl,Same.refl L env,h0⟩
theorem loop_cut {a : VC} {k : Env→St→Post3→Prop} {id : Nat} (L : List Nat) (R : Env→Prop) (h : loopO X a env st (blkK id (mK (fun e s=>s = st∧Same L env e∧R e) Q))) (h2 : ∀ e,Same L env e→R e→k e st Q) : loopO X a env st (blkK id (seqK k Q)) :=
  loopO_cutB _ h fun e s hx=>by obtain ⟨rfl,h3,h4⟩:=hx; exact h2 e h3 h4
def MonoC (T : Post3→Post3) : Prop:=∀ Q Q' : Post3,(∀ x e s,Q x e s→Q' x e s)→∀ x e s,T Q x e s→T Q' x e s
theorem m0 : MonoC (fun q=>q):=fun Q Q' h=>h
theorem mS {T : Post3→Post3} {c : VC} (h : MonoC T) : MonoC (fun q=>seqK (xC X c) (T q)):=fun Q Q' hq x e s hx=>by
  cases x with
  | norm=>exact xC_mono (h Q Q' hq) hx
  | ret=>exact h Q Q' hq _ _ _ hx
  | exit i=>exact h Q Q' hq _ _ _ hx
  | pan v=>exact h Q Q' hq _ _ _ hx
theorem mB {T : Post3→Post3} {id : Nat} (h : MonoC T) : MonoC (fun q=>blkK id (T q)):=fun Q Q' hq x e s hx=>h Q Q' hq _ _ _ hx
section
variable {T : Post3→Post3} {k : Env→St→Post3→Prop}
def liveM (st : St) (L : List Nat) (env : Env) (R : Env→Prop) : Env→St→Prop:=fun e s=>s = st∧Same L env e∧R e
theorem liveM_eq (st : St) (L : List Nat) (env : Env) (R : Env→Prop) (e : Env) (s : St) : liveM st L env R e s = (s = st∧Same L env e∧R e):=rfl
theorem cut_le (hT : MonoC T) {L : List Nat} {R : Env→Prop} (h2 : ∀ e,Same L env e→R e→k e st Q) (x : VX) (e : Env) (s : St) (hx : T (mK (liveM st L env R) Q) x e s) : T (seqK k Q) x e s :=
  hT _ _ (mK_le fun e s h=>by obtain ⟨rfl,h3,h4⟩:=h; exact h2 e h3 h4) x e s hx
theorem cutG {l : List VOper} {c b : Bool} {o : VOper} (hT : MonoC T) (L : List Nat) (R : Env→Prop) (h : gO X (xO X l) c b o env st (T (mK (liveM st L env R) Q))) (h2 : ∀ e,Same L env e→R e→k e st Q) : gO X (xO X l) c b o env st (T (seqK k Q)) :=
  ⟨fun hc=>opO_mono (fun _ _=>xO_mono (cut_le hT h2)) (cut_le hT h2) (h.1 hc),fun hc=>xO_mono (cut_le hT h2) (h.2 hc)⟩
theorem cutCall {l : List VOper} {f : FuncId} {args : List AV} {dst : Option Nat} {keep : List VOpd} (hT : MonoC T) (L : List Nat) (R : Env→Prop) (h : callO X f args dst keep (xO X l) env st (T (mK (liveM st L env R) Q))) (h2 : ∀ e,Same L env e→R e→k e st Q) : callO X f args dst keep (xO X l) env st (T (seqK k Q)) :=
  wpF.mono h fun r s hr=>by
    cases r with
    | ret v=>exact ⟨hr.1,xO_mono (cut_le hT h2) hr.2⟩
    | pan v=>exact cut_le hT h2 _ _ _ hr
theorem cutCond {c : AV} {a b : VC} (hT : MonoC T) (L : List Nat) (R : Env→Prop) (h : condO X c a b env st (T (mK (liveM st L env R) Q))) (h2 : ∀ e,Same L env e→R e→k e st Q) : condO X c a b env st (T (seqK k Q)) :=
  condO_mono (cut_le hT h2) h
theorem cutLoop {a : VC} (hT : MonoC T) (L : List Nat) (R : Env→Prop) (h : loopO X a env st (T (mK (liveM st L env R) Q))) (h2 : ∀ e,Same L env e→R e→k e st Q) : loopO X a env st (T (seqK k Q)) :=
  wpC.mono h (cut_le hT h2)
end
theorem wrap_small {n : Int} (h1 : -9223372036854775808≤n) (h2 : n < 9223372036854775808) : IntKind.wrap .i64 n = n:=IntWalk.i64_in n ⟨h1,by omega⟩
end Go.VX
end
section
namespace Go.VX
def elemA (v : AV) (esz : Nat) (i : Int) : Option AV:=match v with
  | .sl b o len esz' _=>if 0≤i∧i < len∧esz' = esz then some (.ptr b (o + i.toNat * esz)) else none
  | _=>none
theorem elemA_sl (b o len e : Nat) (f : Bool) (esz : Nat) (i : Int) : elemA (.sl b o len e f) esz i = if 0≤i∧i < len∧e = esz then some (.ptr b (o + i.toNat * esz)) else none:=rfl
theorem v_idxA_n (P : Program) (env : Env) (st : St) (esz : Nat) (x i : VOpd) : vop P (.idxA none esz x i) env st = (match asInt? (i.ev env) with
    | some i=>(elemA (x.ev env) esz i).map fun p=>(.val p,st)
    | none=>none):=by
  simp only [vop]
  cases asInt? (i.ev env) with
  | none=>cases x.ev env<;>rfl
  | some n =>
    cases x.ev env<;>try rfl
    simp only [elemA]
    split<;>rfl
theorem v_idxA_s (P : Program) (env : Env) (st : St) (n esz : Nat) (x i : VOpd) : vop P (.idxA (some n) esz x i) env st = (match x.ev env,asInt? (i.ev env) with
    | .ptr b o,some i=>if 0≤i∧i < n then some (.val (.ptr b (o + i.toNat * esz)),st) else none
    | _,_=>none):=by
  simp only [vop]
  cases x.ev env<;>cases asInt? (i.ev env)<;>rfl

theorem atN_app {st : St} {b o n : Nat} {cs : List AV} (h : st.atN b o n = some cs) (m : St) : St.atN (st++m) b o n = some cs:=by
  unfold St.atN at h ⊢
  split at h
  · rename_i x hx
    rw [List.getElem?_append_left (List.getElem?_eq_some_iff.1 hx).1,hx]
    exact h
  · cases h
theorem atN_sub {st : St} {b o n k m : Nat} {cs : List AV} (h : st.atN b o n = some cs) (hk : k + m≤n) : St.atN st b (o + k) m = some ((cs.drop k).take m):=by
  unfold St.atN at h ⊢
  split at h
  · rename_i x hx
    split at h
    · cases h
    · rename_i hm
      split at h
      · simp only [Option.some.injEq] at h
        subst h
        rw [if_neg hm,if_pos (by omega)]
        simp only [Option.some.injEq]
        rw [List.drop_take,List.drop_drop,List.take_take,Nat.min_eq_left (by omega)]
      · cases h
  · cases h
theorem at1_sub {st : St} {b o n k : Nat} {cs : List AV} (h : st.atN b o n = some cs) (hk : k < n) : St.at1 st b (o + k) = cs[k]?:=by
  unfold St.atN at h
  unfold St.at1
  split at h
  · rename_i x hx
    split at h
    · cases h
    · rename_i hm
      split at h
      · simp only [Option.some.injEq] at h
        subst h
        simp only [if_neg hm]
        rw [List.getElem?_take,if_pos hk,List.getElem?_drop]
      · cases h
  · cases h
structure ArrAt (st : St) (lo hi : Nat) (v : AV) (esz : Nat) (rows : List (List AV)) : Prop where
  len : lenA v = some rows.length
  size : ∀ b o len e full,v = .sl b o len e full→e = esz∧st.atN b o 0 = some []
  row : ∀ i (h : i < rows.length),∃ b o,elemA v esz (i : Int) = some (.ptr b o)∧lo≤b∧b < hi∧st.atN b o esz = some rows[i]
theorem ArrAt.mono {st : St} {lo hi : Nat} {v : AV} {esz : Nat} {rows : List (List AV)} (h : ArrAt st lo hi v esz rows) (m : St) : ArrAt (st++m) lo hi v esz rows where
  len:=h.len
  size:=fun b o len e full hv=>let ⟨h1,h2⟩:=h.size b o len e full hv; ⟨h1,atN_app h2 m⟩
  row:=fun i hi=>by
    obtain ⟨b,o,h1,h2,h3,h4⟩:=h.row i hi
    exact ⟨b,o,h1,h2,h3,atN_app h4 m⟩
theorem ArrAt.get {st : St} {lo hi : Nat} {v : AV} {esz : Nat} {rows : List (List AV)} (h : ArrAt st lo hi v esz rows) (i : Nat) (hi' : i < rows.length) :
    ∃ b o,elemA v esz (i : Int) = some (.ptr b o)∧(∀ L : St,St.atN (st++L) b o esz = some rows[i])∧(∀ (L : St) k,k < esz→St.at1 (st++L) b (o + k) = (rows[i])[k]?)∧(∀ (L : St) k m,k + m≤esz→St.atN (st++L) b (o + k) m = some (((rows[i]).drop k).take m)):=by
  obtain ⟨b,o,h1,h2,h3,h4⟩:=h.row i hi'
  exact ⟨b,o,h1,fun L=>atN_app h4 L,fun L k hk=>at1_sub (atN_app h4 L) hk,fun L k m hk=>atN_sub (atN_app h4 L) hk⟩

theorem at1_loc0 (st L : St) (o : Nat) : St.at1 (st++L) st.length o = St.at1 L 0 o:=at1_loc st L 0 o
theorem atN_loc0 (st L : St) (o n : Nat) : St.atN (st++L) st.length o n = St.atN L 0 o n:=atN_loc st L 0 o n
theorem put_loc0 (st L : St) (o : Nat) (vs : List AV) : St.put (st++L) st.length o vs = (St.put L 0 o vs).map (st++·):=put_loc st L 0 o vs
abbrev iA (n : Int) : AV:=.sc (.int .i64 n)
abbrev bA (b : Bool) : AV:=.sc (.bool b)
end Go.VX
end
