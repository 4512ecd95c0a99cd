/- A part of the proofs of the statements of one layer: R1, R2, CP1, CP2, CP3, ST3, ST4, CP4, CP5, CT3, CT4, CP6, CP7, CP8, CP9, S26n, CP10, CP11, CP12, CP13, CP14, CT5, CB1, CB2, CB3, CB4. No condition is added here. -/
import Derived.ChangeOld
import Derived.ChangeArms
import Derived.ChangeShapes
import Derived.Test.YtcemloapifojkaaDoorXB14
set_option linter.unusedVariables false
set_option linter.unusedSimpArgs false
section
namespace Go.VX
open Go.RowKit (Below)
section
variable {H : Type} {enc : TypeId × Value→H} {P : Program} {W : World} {gl : List Nat}
structure Ent (gl : List Nat) (W : World) (K : KM) (st : St) : Prop where
  rel : WRel W.heap.size W gl K st W
  ro : ∀ (b : Nat) (x : Box),st[b]? = some x→x.mode = 1
theorem Ent.add {K : KM} {st : St} (h : Ent gl W K st) {kb : KB} {cs : List AV} (hlt : kb.rb < W.heap.size) (hfit : kb.ro + cs.length≤kb.rsz) (hc : ∀ (o : Nat) (a : AV),cs[o]? = some a→∃ v,W.cell? ⟨kb.rb,kb.ro + o,none⟩ = some v∧VRel K a v) :
    Ent gl W (K.set st.length kb) (st++[⟨cs,1,0⟩])∧KM.le K (K.set st.length kb):=by
  have hle : KM.le K (K.set st.length kb):=KM.le_set h.rel.none
  have hin : ∀ {b : Nat} {x : Box} {kb' : KB},(st++[⟨cs,1,0⟩] : St)[b]? = some x→(K.set st.length kb) b = some kb'→(b < st.length∧st[b]? = some x∧K b = some kb')∨(b = st.length∧x = ⟨cs,1,0⟩∧kb' = kb):=fun {b x kb'} hx hk=>by
    unfold KM.set at hk
    split at hk
    · rename_i e
      subst e
      cases hk
      simp at hx
      exact .inr ⟨rfl,hx.symm,rfl⟩
    · have hb:=h.rel.dom b kb' hk
      rw [List.getElem?_append_left hb] at hx
      exact .inl ⟨hb,hx,hk⟩
  have hro : ∀ (b : Nat) (x : Box),(st++[⟨cs,1,0⟩] : St)[b]? = some x→x.mode = 1:=fun b x hx=>by
    by_cases hb : b < st.length
    · rw [List.getElem?_append_left hb] at hx
      exact h.ro b x hx
    · rw [List.getElem?_append_right (by omega)] at hx
      have:=(List.getElem?_eq_some_iff.1 hx).1
      simp at this
      have e : b - st.length = 0:=by omega
      rw [e] at hx
      simp at hx
      rw [←hx]
  refine ⟨⟨?_,hro⟩,hle⟩
  exact {
    below:=h.rel.below
    dom:=fun b kb' hk=>by
      unfold KM.set at hk
      split at hk
      · subst_vars; simp
      · have:=h.rel.dom b kb' hk; simp; omega
    lt:=fun b x kb' hx hm hk=>by
      rcases hin hx hk with ⟨_,h1,h2⟩ | ⟨_,_,rfl⟩
      · exact h.rel.lt b x kb' h1 hm h2
      · exact hlt
    cell:=fun b x kb' hx hm hk o a ho=>by
      rcases hin hx hk with ⟨_,h1,h2⟩ | ⟨_,rfl,rfl⟩
      · obtain ⟨v,hv,hr⟩:=h.rel.cell b x kb' h1 hm h2 o a ho
        exact ⟨v,hv,hr.mono hle⟩
      · obtain ⟨v,hv,hr⟩:=hc o a ho
        exact ⟨v,hv,hr.mono hle⟩
    live:=fun b x kb' hx hm hk=>absurd hm (by rw [hro b x hx]; decide)
    excl:=fun b x kb' b' x' kb2 hx hm=>absurd hm (by rw [hro b x hx]; decide)
    fit:=fun b x kb' hx hm hk=>by
      rcases hin hx hk with ⟨_,h1,h2⟩ | ⟨_,rfl,rfl⟩
      · exact h.rel.fit b x kb' h1 hm h2
      · exact hfit
    glob:=fun j g hg=>by
      obtain ⟨kb',h1,h2⟩:=h.rel.glob j g hg
      exact ⟨kb',hle _ _ h1,h2⟩
    fo:=Fo.none fun b x hx=>by rw [hro b x hx]; decide }
theorem add_mul (r o k n : Nat) : (⟨r,o,none⟩ : Addr).add k = ⟨r,o + k,none⟩:=add_eq r o k
end
end Go.VX
end
section
set_option maxRecDepth 4000
namespace Go.VX.Seat
open Go.Proofs Go.Lib
def nums (ws : List (List UInt8)) (count : Nat) : Option (List Int):=if ws.length = count then ws.mapM readN else none
theorem mapM_readN : ∀ {ws : List (List UInt8)} {n : List Int},ws.mapM readN = some n→ws = n.map itoa∧∀ x ∈ n,I64 x
  | [],n,h=>by
    have : n = []:=by simpa [List.mapM_nil] using h.symm
    subst this
    exact ⟨rfl,by simp⟩
  | w :: ws,n,h=>by
    rw [List.mapM_cons] at h
    cases h1 : readN w with
    | none=>rw [h1] at h; cases h
    | some a =>
      rw [h1] at h
      cases h2 : ws.mapM readN with
      | none=>rw [h2] at h; cases h
      | some r =>
        rw [h2] at h
        cases h
        obtain ⟨e1,e2⟩:=mapM_readN h2
        obtain ⟨e3,e4⟩:=readN_some h1
        exact ⟨by rw [List.map_cons,← e1,← e3],fun x hx=>by rcases List.mem_cons.1 hx with rfl | hx; exact e4; exact e2 x hx⟩
theorem nums_some {ws : List (List UInt8)} {c : Nat} {n : List Int} (h : nums ws c = some n) : ws = n.map itoa∧n.length = c∧∀ x ∈ n,I64 x:=by
  unfold nums at h
  split at h
  · rename_i hl
    obtain ⟨e1,e2⟩:=mapM_readN h
    exact ⟨e1,by rw [←hl,e1,List.length_map],e2⟩
  · cases h
def headP (line head : List UInt8) (c : Nat) : Option (List Int):=match spl line with
  | w :: ws=>if w = head then nums ws c else none
  | []=>none
def endP (line : List UInt8) : Option EndV:=match headP line (endNm 1) 1 with
  | some n=>some ⟨1,0,n.getD 0 0,0⟩
  | none=>match headP line (endNm 2) 3 with
    | some n=>some ⟨2,n.getD 0 0,n.getD 1 0,n.getD 2 0⟩
    | none=>match headP line (endNm 3) 1 with
      | some n=>some ⟨3,n.getD 0 0,0,0⟩
      | none=>match headP line (endNm 4) 1 with
        | some n=>some ⟨4,n.getD 0 0,0,0⟩
        | none=>none
def nmJ (j : Nat) : List UInt8:=(nameL.getD j ⟨#[]⟩).data.toList
def idxK (w : List UInt8) : Option Int:=Option.map (fun j : Nat=>(j : Int) + 1) ((List.range 25).find? fun j=>decide (nmJ j = w))
theorem nmJ_inj : ∀ i j : Fin 25,nmJ i.val = nmJ j.val→i = j:=by decide +kernel
theorem nmK_J {k : Int} (h : oneK k = true) : nmK k = nmJ (k - 1).toNat:=by
  unfold nmK nameK
  rw [if_pos h]
  rfl
theorem idxK_some {w : List UInt8} {k : Int} (h : idxK w = some k) : oneK k = true∧nmK k = w:=by
  unfold idxK at h
  rw [Option.map_eq_some_iff] at h
  obtain ⟨j,hj,rfl⟩:=h
  have h1:=List.find?_some hj
  have h2:=List.mem_range.1 (List.mem_of_find?_eq_some hj)
  have ho : oneK ((j : Int) + 1) = true:=by unfold oneK; simp; omega
  refine ⟨ho,?_⟩
  rw [nmK_J ho,show ((j : Int) + 1 - 1).toNat = j by omega]
  exact of_decide_eq_true h1
theorem idxK_nm {k : Int} (h : oneK k = true) : idxK (nmK k) = some k:=by
  have hk : 1≤k∧k≤25:=by unfold oneK at h; simpa using h
  rw [nmK_J h]
  unfold idxK
  have : ((List.range 25).find? fun j=>decide (nmJ j = nmJ (k - 1).toNat)) = some (k - 1).toNat:=by
    rw [List.find?_range_eq_some]
    refine ⟨by simp,by rw [List.mem_range]; omega,fun j hj=>?_⟩
    have:=nmJ_inj ⟨j,by omega⟩ ⟨(k - 1).toNat,by omega⟩
    simp only [Fin.mk.injEq] at this
    simp only [Bool.not_eq_true',decide_eq_false_iff_not]
    intro e
    have:=this e
    omega
  rw [this,Option.map_some]
  congr 1
  omega
def b2 (b : Bool) : Nat:=if b then 1 else 0
def cntK (k : Int) : Nat:=b2 (hasA k) + b2 (hasB k) + b2 (hasC k) + b2 (hasN k)
def mkOp (k g d : Int) (n : List Int) : OpV:=⟨k,d,if hasA k then n.getD 0 0 else 0,if hasB k then n.getD 1 0 else 0,if hasC k then n.getD 2 0 else 0,if hasN k then n.getD (cntK k - 1) 0 else 0,g⟩
def dstG (T : Int→Bool→List (List UInt8)→Option OpV) (l : List (List UInt8)) : Option OpV :=
  if 2 < l.length∧l.getD 1 [] = [61] then match readN (l.getD 0 []) with
    | some d=>T d true (l.drop 2)
    | none=>none
  else T 0 false l
def opG (T : Int→Int→Bool→List (List UInt8)→Option OpV) (l : List (List UInt8)) : Option OpV :=
  if 2 < l.length∧l.getD 0 [] = [63] then match readN (l.getD 1 []) with
    | some g=>if g = -1 then none else dstG (T g) (l.drop 2)
    | none=>none
  else dstG (T (-1)) l
def tailP (g d : Int) (dst : Bool) (l : List (List UInt8)) : Option OpV:=match l with
  | w :: ws=>match idxK w with
    | some k=>if dst = hasDst k then (nums ws (cntK k)).map (mkOp k g d) else none
    | none=>none
  | []=>none
def opP (line : List UInt8) : Option OpV:=opG tailP (spl line)
def argL (o : OpV) : List Int:=operL o++(if hasN o.k then [o.n] else [])
def tlX (o : OpV) : List (List UInt8):=nmK o.k :: (argL o).map itoa
def dsX (o : OpV) : List (List UInt8):=(if hasDst o.k then [itoa o.d,[61]] else [])++tlX o
def pcX (o : OpV) : List (List UInt8):=(if decide (o.g≠-1) then [[63],itoa o.g] else [])++dsX o
theorem join_map (w : List UInt8) (n : List Int) : Lib.join (w :: n.map itoa) [32] = w++catI n:=by
  rw [join_cons]
  simp [joinTail,catI,List.map_map,Function.comp_def]
theorem join_pre (x : List UInt8) {l : List (List UInt8)} (h : l≠[]) : Lib.join (x :: l) [32] = x++32 :: Lib.join l [32]:=by
  cases l with
  | nil=>exact absurd rfl h
  | cons y r =>
    rw [join_cons,join_cons]
    simp [joinTail]
theorem join_tl (o : OpV) : Lib.join (tlX o) [32] = nmK o.k++catI (operL o)++numX o:=by
  rw [tlX,join_map]
  unfold argL numX catI
  rw [List.map_append,List.flatten_append,← List.append_assoc]
  split<;>simp
theorem join_pc (o : OpV) : Lib.join (pcX o) [32] = opX o:=by
  have h1:=join_tl o
  have hne : tlX o≠[]:=by simp [tlX]
  have hds : Lib.join (dsX o) [32] = dstX o++(nmK o.k++catI (operL o)++numX o):=by
    unfold dsX dstX
    split
    · show Lib.join (itoa o.d :: [61] :: tlX o) [32] = _
      rw [join_pre _ (by simp),join_pre _ hne,h1]
      simp
    · simpa using h1
  have hne2 : dsX o≠[]:=by simp [dsX,tlX]
  unfold pcX opX grdX
  split
  · show Lib.join ([63] :: itoa o.g :: dsX o) [32] = _
    rw [join_pre _ (by simp),join_pre _ hne2,hds]
    simp
  · simp only [List.nil_append,hds,List.append_assoc]
end Go.VX.Seat
end
section
set_option maxRecDepth 4000
namespace Go.VX.Seat
open Go.Proofs Go.Lib
structure CanO (o : OpV) : Prop where
  k : oneK o.k = true
  i : OpI o
  d : hasDst o.k = false→o.d = 0
  a : hasA o.k = false→o.a = 0
  b : hasB o.k = false→o.b = 0
  c : hasC o.k = false→o.c = 0
  n : hasN o.k = false→o.n = 0
theorem has_chain (k : Int) : (hasB k = true→hasA k = true)∧(hasC k = true→hasB k = true):=by
  constructor
  · intro h
    simp only [hasA,hasB,Bool.or_eq_true,Bool.and_eq_true,decide_eq_true_eq] at h ⊢
    omega
  · intro h
    simp only [hasC,hasB,Bool.or_eq_true,Bool.and_eq_true,decide_eq_true_eq] at h ⊢
    omega
theorem arg_aux (A B C D : Bool) (h1 : B = true→A = true) (h2 : C = true→B = true) (n : List Int) (hl : n.length = b2 A + b2 B + b2 C + b2 D) :
    (if A then [if A then n.getD 0 0 else 0] else [])++(if B then [if B then n.getD 1 0 else 0] else [])++(if C then [if C then n.getD 2 0 else 0] else [])++(if D then [if D then n.getD (b2 A + b2 B + b2 C + b2 D - 1) 0 else 0] else []) = n:=by
  have hle : n.length≤4:=by
    rw [hl]
    cases A<;>cases B<;>cases C<;>cases D<;>simp [b2]
  match n,hle with
  | [],_=>cases A<;>cases B<;>cases C<;>cases D<;>simp_all [b2]
  | [x],_=>cases A<;>cases B<;>cases C<;>cases D<;>simp_all [b2]
  | [x,y],_=>cases A<;>cases B<;>cases C<;>cases D<;>simp_all [b2]
  | [x,y,z],_=>cases A<;>cases B<;>cases C<;>cases D<;>simp_all [b2]
  | [x,y,z,w],_=>cases A<;>cases B<;>cases C<;>cases D<;>simp_all [b2]
theorem arg_mk {k g d : Int} {n : List Int} (hl : n.length = cntK k) : argL (mkOp k g d n) = n :=
  arg_aux (hasA k) (hasB k) (hasC k) (hasN k) (has_chain k).1 (has_chain k).2 n hl
theorem getD_I {n : List Int} (h : ∀ x ∈ n,I64 x) (j : Nat) : I64 (n.getD j 0):=by
  rw [List.getD_eq_getElem?_getD]
  cases e : n[j]? with
  | none=>exact ⟨by decide,by decide⟩
  | some x=>exact h x (List.mem_of_getElem? e)
theorem I64_0 : I64 0:=⟨by decide,by decide⟩
theorem mk_can {k g d : Int} {n : List Int} (hk : oneK k = true) (hg : I64 g) (hd : I64 d) (hn : ∀ x ∈ n,I64 x) : CanO (mkOp k g (if hasDst k then d else 0) n):=by
  have hb : 1≤k∧k≤25:=by unfold oneK at hk; simpa using hk
  refine ⟨hk,⟨⟨by show _≤k; omega,by show k≤_; omega⟩,?_,?_,?_,?_,?_,hg⟩,?_,?_,?_,?_,?_⟩
  · show I64 (if hasDst k then d else 0)
    split
    · exact hd
    · exact I64_0
  · show I64 (if hasA k then _ else 0)
    split
    · exact getD_I hn _
    · exact I64_0
  · show I64 (if hasB k then _ else 0)
    split
    · exact getD_I hn _
    · exact I64_0
  · show I64 (if hasC k then _ else 0)
    split
    · exact getD_I hn _
    · exact I64_0
  · show I64 (if hasN k then _ else 0)
    split
    · exact getD_I hn _
    · exact I64_0
  all_goals
    intro h
    have h : _ = false:=h
    simp only [mkOp] at h ⊢
    rw [if_neg (by rw [h]; decide)]
theorem opG_some {T : Int→Int→Bool→List (List UInt8)→Option OpV} {L : List (List UInt8)} {r : OpV} (h : opG T L = some r) :
    ∃ g d dst l,T g d dst l = some r∧I64 g∧I64 d∧(dst = false→d = 0)∧L = (if decide (g≠-1) then [[63],itoa g] else [])++((if dst then [itoa d,[61]] else [])++l):=by
  have key : ∀ {T : Int→Bool→List (List UInt8)→Option OpV} {L : List (List UInt8)},dstG T L = some r→∃ d dst l,T d dst l = some r∧I64 d∧(dst = false→d = 0)∧L = (if dst then [itoa d,[61]] else [])++l:=fun {T L} h=>by
    unfold dstG at h
    split at h
    · rename_i hc
      split at h
      · rename_i d hd
        obtain ⟨e1,e2⟩:=readN_some hd
        refine ⟨d,true,_,h,e2,(fun e=>nomatch e),?_⟩
        match L,hc with
        | a :: b :: t,hc =>
          simp only [List.getD_cons_zero,List.getD_cons_succ] at e1 hc
          rw [hc.2,e1]
          rfl
        | [a],hc=>simp at hc
        | [],hc=>simp at hc
      · cases h
    · exact ⟨0,false,L,h,I64_0,fun _=>rfl,rfl⟩
  unfold opG at h
  split at h
  · rename_i hc
    split at h
    · rename_i g hg
      split at h
      · cases h
      · rename_i hne
        obtain ⟨e1,e2⟩:=readN_some hg
        obtain ⟨d,dst,l,h1,h2,h3,h4⟩:=key h
        refine ⟨g,d,dst,l,h1,e2,h2,h3,?_⟩
        rw [if_pos (by simpa using hne),← h4]
        match L,hc with
        | a :: b :: t,hc =>
          simp only [List.getD_cons_zero,List.getD_cons_succ] at e1 hc
          rw [hc.2,e1]
          rfl
        | [a],hc=>simp at hc
        | [],hc=>simp at hc
    · cases h
  · obtain ⟨d,dst,l,h1,h2,h3,h4⟩:=key h
    exact ⟨-1,d,dst,l,h1,⟨by decide,by decide⟩,h2,h3,by rw [if_neg (by simp)]; exact h4⟩
theorem opP_some {line : List UInt8} {o : OpV} (h : opP line = some o) : line = opX o∧CanO o:=by
  unfold opP at h
  obtain ⟨g,d,dst,l,hT,hg,hd,hd0,hL⟩:=opG_some h
  unfold tailP at hT
  split at hT
  · rename_i w ws
    split at hT
    · rename_i k hk
      split at hT
      · rename_i hdst
        cases hn : nums ws (cntK k) with
        | none=>rw [hn] at hT; cases hT
        | some n =>
          rw [hn] at hT
          cases hT
          obtain ⟨e1,e2,e3⟩:=nums_some hn
          obtain ⟨hk1,hk2⟩:=idxK_some hk
          have hc:=mk_can (g:=g) (d:=d) hk1 hg hd e3
          have hdd : (if hasDst k then d else 0) = d:=by
            cases hD : hasDst k
            · rw [if_neg (by simp),hd0 (by rw [hdst,hD])]
            · rfl
          rw [hdd] at hc
          refine ⟨?_,hc⟩
          have hp : pcX (mkOp k g d n) = spl line:=by
            rw [hL]
            unfold pcX dsX tlX
            rw [arg_mk e2]
            show (if decide (g≠-1) then [[63],itoa g] else [])++((if hasDst k then [itoa d,[61]] else [])++(nmK k :: n.map itoa)) = _
            rw [hk2,← e1,hdst]
          rw [←join_pc,hp]
          exact (join_spl 32 line).1.symm
      · cases hT
    · cases hT
  · cases hT
end Go.VX.Seat
end
section
set_option maxRecDepth 4000
namespace Go.VX.Seat
open Go.Proofs Go.Lib
def cutC (s : UInt8) : List UInt8→List UInt8 × List UInt8 × Bool
  | []=>([],[],false)
  | x :: r=>if x = s then ([],r,true) else (x :: (cutC s r).1,(cutC s r).2)
theorem cutC_hit {s : UInt8} : ∀ {a b : List UInt8},s ∉ a→cutC s (a++s :: b) = (a,b,true)
  | [],b,_=>by
    show cutC s (s :: b) = _
    rw [cutC,if_pos rfl]
  | c :: r,b,h=>by
    simp only [List.mem_cons,not_or] at h
    show cutC s (c :: (r++s :: b)) = _
    rw [cutC,if_neg (fun e=>h.1 e.symm),cutC_hit h.2]
theorem cutC_miss {s : UInt8} : ∀ {a : List UInt8},s ∉ a→cutC s a = (a,[],false)
  | [],_=>rfl
  | c :: r,h=>by
    simp only [List.mem_cons,not_or] at h
    rw [cutC,if_neg (fun e=>h.1 e.symm),cutC_miss h.2]
theorem cut_cases (s : UInt8) (l : List UInt8) : (∃ a b,l = a++s :: b∧s ∉ a∧cutC s l = (a,b,true)∧splC s l = a :: splC s b)∨(s ∉ l∧cutC s l = (l,[],false)∧splC s l = [l]):=by
  by_cases h : s ∈ l
  · obtain ⟨a,b,e,h2⟩:=List.eq_append_cons_of_mem h
    subst e
    exact .inl ⟨a,b,rfl,h2,cutC_hit h2,spl_hit h2⟩
  · exact .inr ⟨h,cutC_miss h,spl_miss h⟩
def w_unit : List UInt8:=[117,110,105,116]
def w_array : List UInt8:=[97,114,114,97,121]
def w_block : List UInt8:=[98,108,111,99,107]
def setLast (U : UnitV) (f : BlkV→BlkV) : UnitV:={ U with blocks:=U.blocks.set (U.blocks.length - 1) (f (U.blocks.getD (U.blocks.length - 1) ⟨[],⟨0,0,0,0⟩,0⟩)) }
def lineB (U : UnitV) (p : List UInt8) : Option (Bool × UnitV) :=
  if p.take 2 = [32,32] then match endP (p.drop 2) with
    | some e=>some (true,setLast U fun b=>{ b with e:=e })
    | none=>match opP (p.drop 2) with
      | some o=>some (false,setLast U fun b=>{ b with ops:=b.ops++[o] })
      | none=>none
  else none
def stepL (s : Nat) (U : UnitV) (p : List UInt8) : Option (Nat × UnitV) :=
  if s = 0 then match headP p w_unit 4 with
    | some n=>some (1,{ U with params:=n.getD 0 0,regs:=n.getD 1 0,code:=n.getD 2 0,spill:=n.getD 3 0 })
    | none=>none
  else if s = 3 then match lineB U p with
    | some (true,V)=>some (1,V)
    | some (false,V)=>some (3,V)
    | none=>none
  else match (if U.blocks.length = 0 then headP p w_array 1 else none) with
    | some n=>some (1,{ U with sizes:=U.sizes++[n.getD 0 0] })
    | none=>match headP p w_block 1 with
      | some n=>some (3,{ U with blocks:=U.blocks++[⟨[],⟨0,0,0,0⟩,n.getD 0 0⟩] })
      | none=>none
def runL (k : Int) (s : Nat) (U : UnitV) : List (List UInt8)→Except Int UnitV
  | []=>.error k
  | [p]=>if p = []∧s = 1 then .ok U else .error k
  | p :: q :: r=>match stepL s U p with
    | some (s',U')=>runL (k + 1) s' U' (q :: r)
    | none=>.error k
theorem runL_one (k : Int) (s : Nat) (U : UnitV) (p : List UInt8) : runL k s U [p] = if p = []∧s = 1 then .ok U else .error k:=rfl
theorem runL_cons (k : Int) (s : Nat) (U : UnitV) (p : List UInt8) {t : List (List UInt8)} (h : t≠[]) : runL k s U (p :: t) = match stepL s U p with
    | some (s',U')=>runL (k + 1) s' U' t
    | none=>.error k:=by
  cases t with
  | nil=>exact absurd rfl h
  | cons q r=>rfl
def zeroU : UnitV:=⟨[],0,0,0,0,[]⟩
def runT (s : Nat) (k : Int) (U : UnitV) (t : List UInt8) : Except Int UnitV:=runL k s U (splC 10 t)
theorem runT_eq (s : Nat) (k : Int) (U : UnitV) (t : List UInt8) : runT s k U t = if (cutC 10 t).2.2 then (match stepL s U (cutC 10 t).1 with
      | some (s',U')=>runT s' (k + 1) U' (cutC 10 t).2.1
      | none=>.error k) else if t = []∧s = 1 then .ok U else .error k:=by
  unfold runT
  rcases cut_cases 10 t with ⟨a,b,e,_,hc,hs⟩ | ⟨_,hc,hs⟩
  · rw [hs,hc,runL_cons _ _ _ _ (by obtain ⟨x,y,e⟩:=spl_cons 10 b; rw [e]; simp)]
    rfl
  · rw [hs,hc,runL_one]
    rfl
def parseT (t : List UInt8) : UnitV × Int × Int :=
  if 2000000 < (t.length : Int) then (zeroU,0,3) else match runT 0 1 zeroU t with
    | .error k=>(zeroU,k,4)
    | .ok U=>if chkU U = 0 then (U,0,0) else (zeroU,0,chkU U)
end Go.VX.Seat
end
open Go.VX.AV renaming cell? → xa, toV → xb
open Int renaming reduceAdd → xc, reduceLE → xd, reduceLT → xe, reduceNeg → xf, reduceToNat → xg
open Nat renaming reduceAdd → xh, reduceEqDiff → xi, reduceLeDiff → xj, reduceMul → xk, reduceSub → xl
open Go.VX.VOpd renaming ev → xm
open Go.VX renaming asInt? → xn, asNat? → xp, cellVal → xq, cellsV → xr, fillA → xu, partsEv → xv, resOf → xw, splice → xy, tupOf → xz, zeroes → ya
section
set_option maxRecDepth 4000
namespace Go.VX.Seat
open Go.Proofs
abbrev rowsS (ps : List (List UInt8)) : List (List AV):=ps.map fun p=>[sA p]
abbrev StrsAt (S : St) (lo hi : Nat) (v : AV) (ps : List (List UInt8)) : Prop:=ArrAt S lo hi v 1 (rowsS ps)
section
variable {X : Cx} {st : St}
theorem j_Count (h : OnH X) (c : UInt8) (l : List UInt8) (hl : l.length≤3000000) : J X.P X.F X.H (.call 85 [sA l,sA [c]] st (.ret (iA (l.count c : Int))) st):=by
  refine pure_intro (by rw [h.F]; rfl) rfl ?_
  have q1 : closed X.P (Instr.index 9 (.string ⟨[c].toArray⟩) (.int .i64 0)) = some (.int .u8 (c.toNat : Int)):=k_idx h.toOn [c] 0 (by simp)
  have q2 : closed X.P (builtin .len [9].toArray 3 #[] [Value.string ⟨[c].toArray⟩].toArray) = some (Next.value (.int .i64 1)):=k_len h.toOn [c]
  simp only [v_strings_Count,q1,q2,Int.reduceEq,kB,kZ,kD,kE,xl,xg,xk,xc,xd,xe,xf,xj,xi,xh,reduceIte,reduceCtorEq,xy,xw,xq]
  refine callO_same (j_CountByte h l c) ?_
  simp only [kB,kZ,kD,kE,xl,xg,xk,xc,xd,xe,xf,xj,xi,xh,reduceIte,reduceCtorEq,xy,xw,xq]
  first | exact ⟨_,rfl⟩ | exact ⟨rfl,_,rfl⟩ | exact ⟨trivial,_,rfl⟩ | exact ⟨[],(List.append_nil _).symm⟩
theorem j_SIndexByte (h : OnH X) (c : UInt8) (a b : List UInt8) (ha : c ∉ a) : J X.P X.F X.H (.call 91 [sA (a++c :: b),.sc (.int .u8 (c.toNat : Int))] st (.ret (iA (a.length : Int))) st):=by
  refine pure_intro (by rw [h.F]; rfl) rfl ?_
  simp only [v_internal_stringslite_IndexByte,kB,kZ,kD,kE,xl,xg,xk,xc,xd,xe,xf,xj,xi,xh,reduceIte,reduceCtorEq,xy,xw,xq]
  refine callO_same (j_IndexByte h a b c ha) ?_
  simp only [kB,kZ,kD,kE,xl,xg,xk,xc,xd,xe,xf,xj,xi,xh,reduceIte,reduceCtorEq,xy,xw,xq]
  first | exact ⟨_,rfl⟩ | exact ⟨rfl,_,rfl⟩ | exact ⟨trivial,_,rfl⟩ | exact ⟨[],(List.append_nil _).symm⟩
theorem j_SIndex (h : OnH X) (c : UInt8) (a b : List UInt8) (ha : c ∉ a) (hl : a.length + b.length≤3000000) : J X.P X.F X.H (.call 83 [sA (a++c :: b),sA [c]] st (.ret (iA (a.length : Int))) st):=by
  refine pure_intro (by rw [h.F]; rfl) rfl ?_
  have q1 : closed X.P (Instr.index 9 (.string ⟨[c].toArray⟩) (.int .i64 0)) = some (.int .u8 (c.toNat : Int)):=k_idx h.toOn [c] 0 (by simp)
  have q2 : closed X.P (builtin .len [9].toArray 3 #[] [Value.string ⟨[c].toArray⟩].toArray) = some (Next.value (.int .i64 1)):=k_len h.toOn [c]
  have q3 : closed X.P (do eqGuard .eql 9 (.tmp 0) (.tmp 0) (.string ⟨[c].toArray⟩) (.string ⟨(a++c :: b).toArray⟩); binOp .eql 9 (.string ⟨[c].toArray⟩) (.string ⟨(a++c :: b).toArray⟩)) = some (.bool (decide ([c] = a++c :: b))):=k_eq X.P (.tmp 0) (.tmp 0) [c] (a++c :: b)
  cases hd : decide ([c] = a++c :: b)
  · simp only [v_internal_stringslite_Index,q1,q2,q3,hd,Int.reduceEq,kB,kZ,kD,kE,xl,xg,xk,xc,xd,xe,xf,xj,xi,xh,reduceIte,reduceCtorEq,xy,xw,xq]
    refine callO_same (j_SIndexByte h c a b ha) ?_
    simp only [kB,kZ,kD,kE,xl,xg,xk,xc,xd,xe,xf,xj,xi,xh,reduceIte,reduceCtorEq,xy,xw,xq]
    first | exact ⟨_,rfl⟩ | exact ⟨rfl,_,rfl⟩ | exact ⟨trivial,_,rfl⟩ | exact ⟨[],(List.append_nil _).symm⟩
  · have e:=of_decide_eq_true hd
    have ha0 : a = []:=by
      cases a with
      | nil=>rfl
      | cons d r=>simp at e
    have e0 : ((a.length : Nat) : Int) = 0:=by rw [ha0]; rfl
    simp only [v_internal_stringslite_Index,q1,q2,q3,hd,e0,Int.reduceEq,kB,kZ,kD,kE,xl,xg,xk,xc,xd,xe,xf,xj,xi,xh,reduceIte,reduceCtorEq,xy,xw,xq]
    first | exact ⟨_,rfl⟩ | exact ⟨rfl,_,rfl⟩ | exact ⟨trivial,_,rfl⟩ | exact ⟨[],(List.append_nil _).symm⟩
theorem j_Index (h : OnH X) (c : UInt8) (a b : List UInt8) (ha : c ∉ a) (hl : a.length + b.length≤3000000) : J X.P X.F X.H (.call 86 [sA (a++c :: b),sA [c]] st (.ret (iA (a.length : Int))) st):=by
  refine pure_intro (by rw [h.F]; rfl) rfl ?_
  simp only [v_strings_Index,kB,kZ,kD,kE,xl,xg,xk,xc,xd,xe,xf,xj,xi,xh,reduceIte,reduceCtorEq,xy,xw,xq]
  refine callO_same (j_SIndex h c a b ha hl) ?_
  simp only [kB,kZ,kD,kE,xl,xg,xk,xc,xd,xe,xf,xj,xi,xh,reduceIte,reduceCtorEq,xy,xw,xq]
  first | exact ⟨_,rfl⟩ | exact ⟨rfl,_,rfl⟩ | exact ⟨trivial,_,rfl⟩ | exact ⟨[],(List.append_nil _).symm⟩
end
end Go.VX.Seat
end
section
set_option maxRecDepth 4000
namespace Go.VX.Seat
open Go.Proofs
theorem hit_of {c : UInt8} {t : List UInt8} (h : t.count c≠0) : ∃ a b,t = a++c :: b∧c ∉ a:=by
  have : c ∈ t:=by
    rw [←List.count_pos_iff]; omega
  obtain ⟨a,b,e,h2⟩:=List.eq_append_cons_of_mem this
  exact ⟨a,b,e,h2⟩
theorem miss_of {c : UInt8} {t : List UInt8} (h : t.count c = 0) : c ∉ t:=List.count_eq_zero.1 h
section
variable {X : Cx} {st : St}
set_option maxHeartbeats 2000000 in
theorem w_genSplit (h : OnH X) (c : UInt8) (l : List UInt8) (hl : l.length≤3000000) : wpF X 73 [sA l,sA [c],iA 0,iA (-1)] st fun r S=>∃ v m hi,r = .ret v∧S = st++m∧StrsAt S st.length hi v (splC c l):=by
  refine wpF_go (fn:=v_strings_genSplit) (by rw [h.F]; rfl) ?_
  obtain ⟨N,hN⟩ : ∃ N,l.count c = N:=⟨_,rfl⟩
  have hNl : N≤l.length:=by rw [←hN]; exact List.count_le_length
  have q3 : closed X.P (do eqGuard .eql 9 (.tmp 0) (.tmp 0) (.string ⟨[c].toArray⟩) (.string ⟨#[]⟩); binOp .eql 9 (.string ⟨[c].toArray⟩) (.string ⟨#[]⟩)) = some (.bool false):=k_eq X.P (.tmp 0) (.tmp 0) [c] []
  have q3' : closed X.P (do eqGuard .eql 9 (.const (.string ⟨[c].toArray⟩)) (.tmp 0) (.string ⟨[c].toArray⟩) (.string ⟨#[]⟩); binOp .eql 9 (.string ⟨[c].toArray⟩) (.string ⟨#[]⟩)) = some (.bool false):=k_eq X.P _ (.tmp 0) [c] []
  have q1:=k_len h.toOn l
  have hw1 : IntKind.wrap .i64 ((N : Int) + 1) = ((N + 1 : Nat) : Int):=by rw [wrap_small (by omega) (by omega)]; omega
  have hw2 : IntKind.wrap .i64 ((l.length : Int) + 1) = ((l.length + 1 : Nat) : Int):=by rw [wrap_small (by omega) (by omega)]; omega
  have hmin : min ((N + 1 : Nat) : Int) ((l.length + 1 : Nat) : Int) = ((N + 1 : Nat) : Int):=by omega
  have hw3 : IntKind.wrap .i64 (((N + 1 : Nat) : Int) - 1) = (N : Int):=by rw [wrap_small (by omega) (by omega)]; omega
  have j1:=j_Count (st:=st++[]) h c l (by omega)
  rw [hN] at j1
  simp only [v_strings_genSplit,q3,q3',Int.reduceEq,kB,kZ,kD,kE,xl,xg,xk,xc,xd,xe,xf,xj,xi,xh,reduceIte,reduceCtorEq,xy,xw,xq]
  refine callO_same j1 ?_
  simp only [q1,hw1,hw2,hmin,kB,kZ,kD,kE,xl,xg,xk,xc,xd,xe,xf,xj,xi,xh,reduceIte,reduceCtorEq,xy,xw,xq]
  rw [if_pos (show (0 : Int)≤((N + 1 : Nat) : Int) by omega)]
  dsimp only
  rw [if_pos ⟨Nat.le_refl _,by omega⟩]
  refine ⟨keptA_nil _ _ _,?_⟩
  rw [beq_self_eq_true,List.flatten_replicate_singleton]
  have hcell : List.replicate (N + 1) (AV.sc (Value.string ⟨#[]⟩)) = (List.replicate (N + 1) ([] : List UInt8)).map sA:=by rw [List.map_replicate]
  rw [hcell]
  simp only [hw3,kB,kZ,kD,kE,xl,xg,xk,xc,xd,xe,xf,xj,xi,xh,reduceIte,reduceCtorEq,xy,xw,xq]
  have hq2 : closed X.P (builtin .len [9].toArray 3 #[] [Value.string ⟨[c].toArray⟩].toArray) = some (Next.value (.int .i64 1)):=k_len h.toOn [c]
  refine anyLoop (mB m0) (fun e s=>∃ (bx : Nat) (t : List UInt8) (ps : List (List UInt8)) (ver : Nat),e 0 = sA t∧e 9 = .sl bx 0 (N + 1) 1 true∧e 10 = iA N∧bx = st.length∧s[bx]? = some ⟨ps.map sA,0,ver⟩∧(∃ m,s = st++m)∧ps.length = N + 1∧ps.take N++splC c t = splC c l∧t.count c = 0) ?_ ?_
  · refine loop_inv (fun k e s=>∃ (i bx : Nat) (t : List UInt8) (ps : List (List UInt8)) (ver : Nat),i + k = N∧e 0 = sA t∧e 1 = sA [c]∧e 2 = iA 0∧e 3 = iA N∧e 9 = .sl bx 0 (N + 1) 1 true∧e 10 = iA i∧bx = st.length∧s[bx]? = some ⟨ps.map sA,0,ver⟩∧(∃ m,s = st++m)∧ps.length = N + 1∧ps.take i++splC c t = splC c l∧t.count c = k∧t.length≤3000000) ?_ N ?_
    case refine_2=>exact ⟨0,_,l,List.replicate (N + 1) [],0,by omega,rfl,rfl,rfl,rfl,rfl,rfl,by simp,by simp; rfl,⟨_,rfl⟩,by simp,rfl,hN,hl⟩
    rintro k e s ⟨i,bx,t,ps,ver,hik,k0,k1,k2,k3,k9,k10,rfl,hb,hpre,hpl,hps,hct,htl⟩
    simp only [k0,k1,k2,k3,k9,k10,kB,kZ,kD,kE,xl,xg,xk,xc,xd,xe,xf,xj,xi,xh,reduceIte,reduceCtorEq,xy,xw,xq]
    refine condO_intro ?_ ?_<;>intro hc
    case refine_2 =>
      have hi : i = N:=by have:=of_decide_eq_false hc; omega
      subst hi
      have hk : k = 0:=by omega
      subst hk
      simp only [k0,k1,k2,k3,k9,k10,kB,kZ,kD,kE,xl,xg,xk,xc,xd,xe,xf,xj,xi,xh,reduceIte,reduceCtorEq,xy,xw,xq]
      exact ⟨_,t,ps,ver,rfl,rfl,rfl,hb,hpre,hpl,hps,hct⟩
    have hi : i < N:=by have:=of_decide_eq_true hc; omega
    obtain ⟨a,b,rfl,ha⟩:=hit_of (c:=c) (t:=t) (by omega)
    simp only [List.length_append,List.length_cons] at htl
    have hnn : decide ((a.length : Int) < 0) = false:=decide_eq_false (by omega)
    have hwa : IntKind.wrap .i64 ((a.length : Int) + 0) = (a.length : Int):=by rw [wrap_small (by omega) (by omega)]; omega
    have hwb : IntKind.wrap .i64 ((a.length : Int) + 1) = ((a.length + 1 : Nat) : Int):=by rw [wrap_small (by omega) (by omega)]; omega
    have hwi : IntKind.wrap .i64 ((i : Int) + 1) = ((i + 1 : Nat) : Int):=by rw [wrap_small (by omega) (by omega)]; omega
    have g0:=k_sl0 h.toOn (a++c :: b) a.length (by simp)
    have g1:=k_sl1 h.toOn (a++c :: b) (a.length + 1) (by simp)
    rw [List.take_left] at g0
    have hd1 : (a++c :: b).drop (a.length + 1) = b:=by rw [←List.drop_drop,List.drop_left]; rfl
    rw [hd1] at g1
    have hel : elemA (.sl st.length 0 (N + 1) 1 true) 1 (i : Int) = some (.ptr st.length i):=by
      rw [elemA_sl,if_pos ⟨by omega,by omega,rfl⟩]
      simp
    have hput:=put_box (o:=i) (vs:=[sA a]) hb (by simp; omega) rfl
    have hsp : splice (ps.map sA) i [sA a] = (ps.set i a).map sA:=by
      rw [List.map_set,List.set_eq_take_append_cons_drop,if_pos (by simp; omega)]
      simp [splice]
    have hag:=Agree.set s st.length ⟨splice (ps.map sA) i [sA a],0,ver + 1⟩
    have hb2 : (s.set st.length ⟨splice (ps.map sA) i [sA a],0,ver + 1⟩)[st.length]? = some ⟨(ps.set i a).map sA,0,ver + 1⟩:=by rw [List.getElem?_set_self (List.getElem?_eq_some_iff.1 hb).1,hsp]
    have hpre2:=hag.ext hpre fun b hb e=>by omega
    generalize (s.set st.length ⟨splice (ps.map sA) i [sA a],0,ver + 1⟩ : St) = s2 at *
    have hps2 : (ps.set i a).take (i + 1)++splC c b = splC c l:=by
      rw [←hps,spl_hit ha,List.take_set,List.take_succ_eq_append_getElem (by omega),List.set_append_right _ _ (by simp; omega)]
      have : i - min i ps.length = 0:=by omega
      simp [this]
    have hct2 : b.count c = k - 1:=by
      rw [List.count_append,List.count_cons_self,List.count_eq_zero.2 ha] at hct
      omega
    simp only [k0,k1,k2,k3,k9,k10,kB,kZ,kD,kE,xl,xg,xk,xc,xd,xe,xf,xj,xi,xh,reduceIte,reduceCtorEq,xy,xw,xq]
    refine callO_same (j_Index h c a b ha (by omega)) ?_
    simp only [k0,k1,k2,k3,k9,k10,hnn,hwa,hwb,hwi,g0,g1,hq2,hel,hput,Option.map_none,kB,kZ,kD,kE,xl,xg,xk,xc,xd,xe,xf,xj,xi,xh,reduceIte,reduceCtorEq,xy,xw,xq]
    exact ⟨k - 1,by omega,i + 1,st.length,b,ps.set i a,ver + 1,by omega,rfl,rfl,rfl,rfl,hb2,hpre2,by simp [hpl],hps2,hct2,by omega⟩
  rintro e s ⟨bx,t,ps,ver,k0,k9,k10,rfl,hb,hpre,hpl,hps,hct⟩
  have hel : elemA (.sl st.length 0 (N + 1) 1 true) 1 (N : Int) = some (.ptr st.length N):=by
    rw [elemA_sl,if_pos ⟨by omega,by omega,rfl⟩]
    simp
  have hput:=put_box (o:=N) (vs:=[sA t]) hb (by simp; omega) rfl
  have hsp : splice (ps.map sA) N [sA t] = (ps.take N++[t]).map sA:=by
    simp [splice,hpl]
  have hag:=Agree.set s st.length ⟨splice (ps.map sA) N [sA t],0,ver + 1⟩
  have hfl : ∀ q : List (List UInt8),(rowsS q).flatten = q.map sA:=fun q=>by
    induction q with
    | nil=>rfl
    | cons a r ih=>simp only [List.map_cons,List.flatten_cons,ih]; rfl
  have hb2 : (s.set st.length ⟨splice (ps.map sA) N [sA t],0,ver + 1⟩)[st.length]? = some ⟨(rowsS (splC c l)).flatten,0,ver + 1⟩:=by
    rw [List.getElem?_set_self (List.getElem?_eq_some_iff.1 hb).1,hsp,hfl,← hps,spl_miss (miss_of hct)]
  have hpre2:=hag.ext hpre fun b hb e=>by omega
  generalize (s.set st.length ⟨splice (ps.map sA) N [sA t],0,ver + 1⟩ : St) = s2 at *
  have hll : (splC c l).length = N + 1:=by rw [spl_len,hN]
  have ha : ArrAt s2 st.length (st.length + 1) (.sl st.length 0 (N + 1) 1 true) 1 (rowsS (splC c l)):=ArrAt.ofBox hb2 (by decide) (fun r hr=>by obtain ⟨p,_,rfl⟩:=List.mem_map.1 hr; rfl) (by simp [hll])
  simp only [k0,k9,k10,hel,hput,hw1,kB,kZ,kD,kE,xl,xg,xk,xc,xd,xe,xf,xj,xi,xh,reduceIte,reduceCtorEq,xy,xw,xq]
  refine opR_pre (vx:=.sl st.length 0 (N + 1) 1 true) (n:=N + 1) (by simp only [kB,kZ,kD,kE,xl,xg,xk,xc,xd,xe,xf,xj,xi,xh,reduceIte,reduceCtorEq,xy,xw,xq]) (by first | (simp only [kB,kZ,kD,kE,xl,xg,xk,xc,xd,xe,xf,xj,xi,xh,reduceIte,reduceCtorEq,xy,xw,xq]; done) | (simp only [kB,kZ,kD,kE,xl,xg,xk,xc,xd,xe,xf,xj,xi,xh,reduceIte,reduceCtorEq,xy,xw,xq]; rw [if_pos (by omega)])) ha (by simp [hll]) ?_
  intro w hw
  refine ⟨keptA_nil _ _ _,?_⟩
  rw [List.take_of_length_le (by simp [hll])] at hw
  simp only [kB,kZ,kD,kE,xl,xg,xk,xc,xd,xe,xf,xj,xi,xh,reduceIte,reduceCtorEq,xy,xw,xq]
  obtain ⟨m,rfl⟩:=hpre2
  exact ⟨w,m,_,rfl,rfl,hw⟩
theorem w_Split (h : OnH X) (c : UInt8) (l : List UInt8) (hl : l.length≤3000000) : wpF X 60 [sA l,sA [c]] st fun r S=>∃ v m hi,r = .ret v∧S = st++m∧StrsAt S st.length hi v (splC c l):=by
  refine wpF_go (fn:=v_strings_Split) (by rw [h.F]; rfl) ?_
  simp only [v_strings_Split,kB,kZ,kD,kE,xl,xg,xk,xc,xd,xe,xf,xj,xi,xh,reduceIte,reduceCtorEq,xy,xw,xq]
  refine wpF.mono (w_genSplit (st:=st++[]) h c l hl) ?_
  rintro r S ⟨v,m,hi,rfl,rfl,ha⟩
  refine ⟨keptA_nil _ _ _,?_⟩
  simp only [kB,kZ,kD,kE,xl,xg,xk,xc,xd,xe,xf,xj,xi,xh,reduceIte,reduceCtorEq,xy,xw,xq]
  simp only [List.append_nil] at ha
  exact ⟨v,m,hi,rfl,rfl,ha⟩
end
end Go.VX.Seat
end
section
set_option maxRecDepth 4000
namespace Go.VX.Seat
open Go.Proofs Go.Lib
section
variable {X : Cx} {st : St}
theorem readN_ok {l : List UInt8} {n : Int} (h : atoiAll l = .ok n) : atoiL l = n∧atoiE (sB l) = .sc .nilIface:=by
  have e : (sB l).data.toList = l:=rfl
  refine ⟨?_,?_⟩
  · show atoiV _ = n
    unfold atoiV
    rw [show ((⟨l.toArray⟩ : ByteArray)).data.toList = l from rfl,h]
  · unfold atoiE
    rw [e,h]
theorem readN_bad {l : List UInt8} (h : ∀ n,atoiAll l≠.ok n) : atoiE (sB l) = .err:=by
  have e : (sB l).data.toList = l:=rfl
  unfold atoiE
  rw [e]
  cases hz : atoiAll l with
  | ok n=>exact absurd hz (h n)
  | _=>rfl
def numE (l : List UInt8) : Int:=(readN l).getD 0
def errE (l : List UInt8) : Int:=if (readN l).isSome then 0 else 4
theorem j_word_Read (h : OnH X) (hg : GB st) (l : List UInt8) (hl : l.length≤100000000) : J X.P X.F X.H (.call 74 [sA l] st (.ret (.tup [iA (numE l),iA (errE l)])) st):=by
  refine pure_intro (by rw [h.F]; rfl) rfl ?_
  simp only [v_word_Read,kB,kZ,kD,kE,xl,xg,xk,xc,xd,xe,xf,xj,xi,xh,reduceIte,reduceCtorEq,xy,xw,xq]
  refine callO_same (j_ParseInt h (hg.app _) l hl) ?_
  cases hz : atoiAll l with
  | ok n =>
    obtain ⟨e1,e2⟩:=readN_ok hz
    have ne:=fun ox oy=>k_ne X.P ox oy (itoa n) l
    have hn:=atoiAll_bounds hz
    have hr : readN l = if itoa n = l then some n else none:=by unfold readN; rw [hz]
    simp only [e1,e2,kB,kZ,kD,kE,xl,xg,xk,xc,xd,xe,xf,xj,xi,xh,reduceIte,reduceCtorEq,xy,xw,xq]
    refine callO_same (j_word_Show h (hg.app _) n hn) ?_
    unfold numE errE
    by_cases hc : itoa n = l
    · have : decide (itoa n≠l) = false:=by simp [hc]
      rw [hr,if_pos hc]
      simp only [ne,this,if_true,Option.isSome_some,Option.getD_some,kB,kZ,kD,kE,xl,xg,xk,xc,xd,xe,xf,xj,xi,xh,reduceIte,reduceCtorEq,xy,xw,xq]
      first | exact ⟨_,rfl⟩ | exact ⟨rfl,_,rfl⟩ | exact ⟨trivial,_,rfl⟩ | exact ⟨[],(List.append_nil _).symm⟩
    · have : decide (itoa n≠l) = true:=by simp [hc]
      rw [hr,if_neg hc]
      simp only [ne,this,if_false,Option.isSome_none,Option.getD_none,Bool.false_eq_true,kB,kZ,kD,kE,xl,xg,xk,xc,xd,xe,xf,xj,xi,xh,reduceIte,reduceCtorEq,xy,xw,xq]
      first | exact ⟨_,rfl⟩ | exact ⟨rfl,_,rfl⟩ | exact ⟨trivial,_,rfl⟩ | exact ⟨[],(List.append_nil _).symm⟩
  | _ =>
    have e2:=readN_bad (l:=l) (fun n e=>by rw [hz] at e; cases e)
    have hr : readN l = none:=by unfold readN; rw [hz]
    unfold numE errE
    rw [hr]
    simp only [e2,Option.isSome_none,Option.getD_none,Bool.false_eq_true,if_false,kB,kZ,kD,kE,xl,xg,xk,xc,xd,xe,xf,xj,xi,xh,reduceIte,reduceCtorEq,xy,xw,xq]
    first | exact ⟨_,rfl⟩ | exact ⟨rfl,_,rfl⟩ | exact ⟨trivial,_,rfl⟩ | exact ⟨[],(List.append_nil _).symm⟩
theorem j_IndexByte_no (h : OnH X) (l : List UInt8) (c : UInt8) (ha : c ∉ l) : J X.P X.F X.H (.call 100 [sA l,.sc (.int .u8 (c.toNat : Int))] st (.ret (iA (-1))) st):=by
  refine .hook (h.told _ _ _ _ _ (.inr (.inr (.inl ⟨_,[.string ⟨l.toArray⟩,.int .u8 (c.toNat : Int)],.int .i64 (-1),rfl,rfl,?_,rfl,rfl,rfl⟩))))
  have hc : ((c.toNat : Int)).toNat.toUInt8 = c:=by simp
  show closed _ (match (List.range (sB l).size).find? fun i=>(sB l)[i]! == ((c.toNat : Int)).toNat.toUInt8 with | some i=>pure (goInt i) | none=>pure (goInt (-1))) = _
  have hf : ((List.range (sB l).size).find? fun i=>(sB l)[i]! == ((c.toNat : Int)).toNat.toUInt8) = none:=by
    rw [hc,List.find?_eq_none]
    intro j hj
    have hj : j < l.length:=by rw [List.mem_range,sB_size] at hj; exact hj
    rw [sB_get _ _ hj]
    have : l[j]≠c:=fun e=>ha (by rw [←e]; exact List.getElem_mem hj)
    simpa using this
  rw [hf]
  rfl
theorem j_SIndexByte_no (h : OnH X) (c : UInt8) (l : List UInt8) (ha : c ∉ l) : J X.P X.F X.H (.call 91 [sA l,.sc (.int .u8 (c.toNat : Int))] st (.ret (iA (-1))) st):=by
  refine pure_intro (by rw [h.F]; rfl) rfl ?_
  simp only [v_internal_stringslite_IndexByte,kB,kZ,kD,kE,xl,xg,xk,xc,xd,xe,xf,xj,xi,xh,reduceIte,reduceCtorEq,xy,xw,xq]
  refine callO_same (j_IndexByte_no h l c ha) ?_
  simp only [kB,kZ,kD,kE,xl,xg,xk,xc,xd,xe,xf,xj,xi,xh,reduceIte,reduceCtorEq,xy,xw,xq]
  first | exact ⟨_,rfl⟩ | exact ⟨rfl,_,rfl⟩ | exact ⟨trivial,_,rfl⟩ | exact ⟨[],(List.append_nil _).symm⟩
theorem j_SIndex_no (h : OnH X) (c : UInt8) (l : List UInt8) (ha : c ∉ l) : J X.P X.F X.H (.call 83 [sA l,sA [c]] st (.ret (iA (-1))) st):=by
  refine pure_intro (by rw [h.F]; rfl) rfl ?_
  have q1 : closed X.P (Instr.index 9 (.string ⟨[c].toArray⟩) (.int .i64 0)) = some (.int .u8 (c.toNat : Int)):=k_idx h.toOn [c] 0 (by simp)
  have q2 : closed X.P (builtin .len [9].toArray 3 #[] [Value.string ⟨[c].toArray⟩].toArray) = some (Next.value (.int .i64 1)):=k_len h.toOn [c]
  have q3 : closed X.P (do eqGuard .eql 9 (.tmp 0) (.tmp 0) (.string ⟨[c].toArray⟩) (.string ⟨l.toArray⟩); binOp .eql 9 (.string ⟨[c].toArray⟩) (.string ⟨l.toArray⟩)) = some (.bool (decide ([c] = l))):=k_eq X.P (.tmp 0) (.tmp 0) [c] l
  have hd : decide ([c] = l) = false:=by
    rw [decide_eq_false_iff_not]
    rintro rfl
    simp at ha
  simp only [v_internal_stringslite_Index,q1,q2,q3,hd,Int.reduceEq,kB,kZ,kD,kE,xl,xg,xk,xc,xd,xe,xf,xj,xi,xh,reduceIte,reduceCtorEq,xy,xw,xq]
  refine callO_same (j_SIndexByte_no h c l ha) ?_
  simp only [kB,kZ,kD,kE,xl,xg,xk,xc,xd,xe,xf,xj,xi,xh,reduceIte,reduceCtorEq,xy,xw,xq]
  first | exact ⟨_,rfl⟩ | exact ⟨rfl,_,rfl⟩ | exact ⟨trivial,_,rfl⟩ | exact ⟨[],(List.append_nil _).symm⟩
theorem j_SCut (h : OnH X) (c : UInt8) (l : List UInt8) (hl : l.length≤2500000) : J X.P X.F X.H (.call 72 [sA l,sA [c]] st (.ret (.tup [sA (cutC c l).1,sA (cutC c l).2.1,bA (cutC c l).2.2])) st):=by
  refine pure_intro (by rw [h.F]; rfl) rfl ?_
  have q2 : closed X.P (builtin .len [9].toArray 3 #[] [Value.string ⟨[c].toArray⟩].toArray) = some (Next.value (.int .i64 1)):=k_len h.toOn [c]
  rcases cut_cases c l with ⟨a,b,rfl,ha,hc,_⟩ | ⟨ha,hc,_⟩
  · simp only [List.length_append,List.length_cons] at hl
    have hnn : decide ((0 : Int)≤(a.length : Int)) = true:=decide_eq_true (by omega)
    have hwb : IntKind.wrap .i64 ((a.length : Int) + 1) = ((a.length + 1 : Nat) : Int):=by rw [wrap_small (by omega) (by omega)]; omega
    have g0:=k_sl0 h.toOn (a++c :: b) a.length (by simp)
    have g1:=k_sl1 h.toOn (a++c :: b) (a.length + 1) (by simp)
    rw [List.take_left] at g0
    have hd1 : (a++c :: b).drop (a.length + 1) = b:=by rw [←List.drop_drop,List.drop_left]; rfl
    rw [hd1] at g1
    rw [hc]
    simp only [v_internal_stringslite_Cut,kB,kZ,kD,kE,xl,xg,xk,xc,xd,xe,xf,xj,xi,xh,reduceIte,reduceCtorEq,xy,xw,xq]
    refine callO_same (j_SIndex h c a b ha (by omega)) ?_
    simp only [hnn,q2,hwb,g0,g1,Option.map_none,kB,kZ,kD,kE,xl,xg,xk,xc,xd,xe,xf,xj,xi,xh,reduceIte,reduceCtorEq,xy,xw,xq]
    first | exact ⟨_,rfl⟩ | exact ⟨rfl,_,rfl⟩ | exact ⟨trivial,_,rfl⟩ | exact ⟨[],(List.append_nil _).symm⟩
  · rw [hc]
    simp only [v_internal_stringslite_Cut,kB,kZ,kD,kE,xl,xg,xk,xc,xd,xe,xf,xj,xi,xh,reduceIte,reduceCtorEq,xy,xw,xq]
    refine callO_same (j_SIndex_no h c l ha) ?_
    simp only [Int.reduceLE,kB,kZ,kD,kE,xl,xg,xk,xc,xd,xe,xf,xj,xi,xh,reduceIte,reduceCtorEq,xy,xw,xq]
    first | exact ⟨_,rfl⟩ | exact ⟨rfl,_,rfl⟩ | exact ⟨trivial,_,rfl⟩ | exact ⟨[],(List.append_nil _).symm⟩
theorem j_Cut (h : OnH X) (c : UInt8) (l : List UInt8) (hl : l.length≤2500000) : J X.P X.F X.H (.call 59 [sA l,sA [c]] st (.ret (.tup [sA (cutC c l).1,sA (cutC c l).2.1,bA (cutC c l).2.2])) st):=by
  refine pure_intro (by rw [h.F]; rfl) rfl ?_
  simp only [v_strings_Cut,kB,kZ,kD,kE,xl,xg,xk,xc,xd,xe,xf,xj,xi,xh,reduceIte,reduceCtorEq,xy,xw,xq]
  refine callO_same (j_SCut h c l hl) ?_
  simp only [kB,kZ,kD,kE,xl,xg,xk,xc,xd,xe,xf,xj,xi,xh,reduceIte,reduceCtorEq,xy,xw,xq]
  first | exact ⟨_,rfl⟩ | exact ⟨rfl,_,rfl⟩ | exact ⟨trivial,_,rfl⟩ | exact ⟨[],(List.append_nil _).symm⟩
theorem j_HasPrefix2 (h : OnH X) (l : List UInt8) : J X.P X.F X.H (.call 88 [sA l,sA [32,32]] st (.ret (bA (decide (l.take 2 = [32,32])))) st):=by
  refine pure_intro (by rw [h.F]; rfl) rfl ?_
  have q1:=k_len h.toOn l
  have q2 : closed X.P (builtin .len [9].toArray 3 #[] [Value.string ⟨#[32,32]⟩].toArray) = some (Next.value (.int .i64 2)):=k_len h.toOn [32,32]
  by_cases hl : 2≤l.length
  · have g0:=k_sl0 h.toOn l 2 hl
    have e1 : decide ((2 : Int)≤(l.length : Int)) = true:=decide_eq_true (by omega)
    have g1:=fun ox oy=>k_eq X.P ox oy (l.take 2) [32,32]
    have g0 : closed X.P (Instr.sliceAt 9 (.string ⟨l.toArray⟩) none (some (.int .i64 2)) none) = some (.string ⟨(l.take 2).toArray⟩):=g0
    simp only [v_internal_stringslite_HasPrefix,q1,q2,e1,g0,g1,Option.map_none,kB,kZ,kD,kE,xl,xg,xk,xc,xd,xe,xf,xj,xi,xh,reduceIte,reduceCtorEq,xy,xw,xq]
    first | exact ⟨_,rfl⟩ | exact ⟨rfl,_,rfl⟩ | exact ⟨trivial,_,rfl⟩ | exact ⟨[],(List.append_nil _).symm⟩
  · have e1 : decide ((2 : Int)≤(l.length : Int)) = false:=decide_eq_false (by omega)
    have e2 : decide (l.take 2 = [32,32]) = false:=decide_eq_false fun e=>by
      have:=congrArg List.length e
      simp at this
      omega
    simp only [v_internal_stringslite_HasPrefix,q1,q2,e1,e2,kB,kZ,kD,kE,xl,xg,xk,xc,xd,xe,xf,xj,xi,xh,reduceIte,reduceCtorEq,xy,xw,xq]
    first | exact ⟨_,rfl⟩ | exact ⟨rfl,_,rfl⟩ | exact ⟨trivial,_,rfl⟩ | exact ⟨[],(List.append_nil _).symm⟩
theorem j_SCutPrefix2 (h : OnH X) (l : List UInt8) : J X.P X.F X.H (.call 75 [sA l,sA [32,32]] st (.ret (.tup [sA (if l.take 2 = [32,32] then l.drop 2 else l),bA (decide (l.take 2 = [32,32]))])) st):=by
  refine pure_intro (by rw [h.F]; rfl) rfl ?_
  have q2 : closed X.P (builtin .len [9].toArray 3 #[] [Value.string ⟨#[32,32]⟩].toArray) = some (Next.value (.int .i64 2)):=k_len h.toOn [32,32]
  simp only [v_internal_stringslite_CutPrefix,kB,kZ,kD,kE,xl,xg,xk,xc,xd,xe,xf,xj,xi,xh,reduceIte,reduceCtorEq,xy,xw,xq]
  refine callO_same (j_HasPrefix2 h l) ?_
  by_cases hp : l.take 2 = [32,32]
  · have hl : 2≤l.length:=by
      have:=congrArg List.length hp
      simp at this
      omega
    have g1 : closed X.P (Instr.sliceAt 9 (.string ⟨l.toArray⟩) (some (.int .i64 2)) none none) = some (.string ⟨(l.drop 2).toArray⟩):=k_sl1 h.toOn l 2 hl
    simp only [hp,q2,g1,decide_true,if_true,Option.map_none,kB,kZ,kD,kE,xl,xg,xk,xc,xd,xe,xf,xj,xi,xh,reduceIte,reduceCtorEq,xy,xw,xq]
    first | exact ⟨_,rfl⟩ | exact ⟨rfl,_,rfl⟩ | exact ⟨trivial,_,rfl⟩ | exact ⟨[],(List.append_nil _).symm⟩
  · have : decide (l.take 2 = [32,32]) = false:=decide_eq_false hp
    simp only [this,hp,if_false,kB,kZ,kD,kE,xl,xg,xk,xc,xd,xe,xf,xj,xi,xh,reduceIte,reduceCtorEq,xy,xw,xq]
    first | exact ⟨_,rfl⟩ | exact ⟨rfl,_,rfl⟩ | exact ⟨trivial,_,rfl⟩ | exact ⟨[],(List.append_nil _).symm⟩
theorem j_CutPrefix2 (h : OnH X) (l : List UInt8) : J X.P X.F X.H (.call 62 [sA l,sA [32,32]] st (.ret (.tup [sA (if l.take 2 = [32,32] then l.drop 2 else l),bA (decide (l.take 2 = [32,32]))])) st):=by
  refine pure_intro (by rw [h.F]; rfl) rfl ?_
  simp only [v_strings_CutPrefix,kB,kZ,kD,kE,xl,xg,xk,xc,xd,xe,xf,xj,xi,xh,reduceIte,reduceCtorEq,xy,xw,xq]
  refine callO_same (j_SCutPrefix2 h l) ?_
  simp only [kB,kZ,kD,kE,xl,xg,xk,xc,xd,xe,xf,xj,xi,xh,reduceIte,reduceCtorEq,xy,xw,xq]
  first | exact ⟨_,rfl⟩ | exact ⟨rfl,_,rfl⟩ | exact ⟨trivial,_,rfl⟩ | exact ⟨[],(List.append_nil _).symm⟩
end
end Go.VX.Seat
end
section
set_option maxRecDepth 4000
namespace Go.VX.Seat
open Go.Proofs Go.Lib
theorem spl_le (s : UInt8) : ∀ (l p : List UInt8),p ∈ splC s l→p.length≤l.length
  | [],p,h=>by
    simp only [splC,List.mem_singleton] at h
    subst h
    exact Nat.le_refl _
  | c :: r,p,h=>by
    obtain ⟨x,t,e⟩:=spl_cons s r
    have ih:=spl_le s r
    unfold splC at h
    rw [e] at h ih
    split at h
    · rcases List.mem_cons.1 h with rfl | h
      · simp
      · have:=ih p h
        simp only [List.length_cons]
        omega
    · rcases List.mem_cons.1 h with rfl | h
      · have:=ih x (List.mem_cons_self ..)
        simp only [List.length_cons]
        omega
      · have:=ih p (List.mem_cons_of_mem _ h)
        simp only [List.length_cons]
        omega
theorem mapM_take {ws : List (List UInt8)} {i : Nat} (hi : i < ws.length) {n : List Int} {x : Int} (h : (ws.take i).mapM readN = some n) (hx : readN ws[i] = some x) : (ws.take (i + 1)).mapM readN = some (n++[x]):=by
  rw [List.take_succ_eq_append_getElem hi,List.mapM_append,h]
  simp [hx]
theorem mapM_none {ws : List (List UInt8)} {i : Nat} (hi : i < ws.length) (hx : readN ws[i] = none) : ws.mapM readN = none:=by
  have e : ws = ws.take i++ws[i] :: ws.drop (i + 1):=by rw [List.getElem_cons_drop,List.take_append_drop]
  have h1 : (ws.take i++ws[i] :: ws.drop (i + 1)).mapM readN = none:=by
    rw [List.mapM_append,List.mapM_cons,hx]
    cases (ws.take i).mapM readN<;>rfl
  rw [e]
  exact h1
section
variable {X : Cx} {st : St}
theorem opR_ints {K : Env→St→Post3→Prop} {Q : Post3} {d : Option Nat} {env : Env} {s : St} {lo : Nat} {w : AV} {xs : List Int} {n : Int} {x y : VOpd} (h : OwnS s lo w 1 (rowsI xs)) (hlo : lo≤s.length) (hl : xs.length≤1000000) (ex : x.ev env = w) (ey : y.ev env = .sl s.length 0 1 1 true)
    (hK : ∀ w' s',Agree (fun b=>boxOf w = some b) s s'→OwnS s' lo w' 1 (rowsI (xs++[n]))→(w' = w∨boxOf w'≠none∧∀ b,boxOf w' = some b→s.length≤b)→K (env.put d w') s' Q) :
    opR X K d [] env (s++[⟨[iA n],0,0⟩]) Q (vop X.P (.append 1 8 x y) env (s++[⟨[iA n],0,0⟩])):=by
  have hag0:=Agree.app (fun _=>False) s [⟨[iA n],0,0⟩]
  have h1 : OwnS (s++[⟨[iA n],0,0⟩]) lo w 1 (rowsI xs):=h.agree hag0 fun _ _ y=>y
  have hrow : ArrAt (s++[⟨[iA n],0,0⟩]) s.length (s.length + 1) (.sl s.length 0 1 1 true) 1 (rowsI [n]):=ArrAt.ofBox (mode:=0) (ver:=0) (by simp) (by decide) (fun r hr=>by obtain ⟨p,_,rfl⟩:=List.mem_map.1 hr; rfl) rfl
  refine opR_append (vx:=w) (vy:=.sl s.length 0 1 1 true) (rows:=rowsI xs) (rows2:=rowsI [n]) (lo:=lo) ex ey h1 (by simp; omega) hrow (by simp; omega) rfl ?_
  intro w' s' hag hown hcase
  refine ⟨keptA_nil _ _ _,hK w' s' ((hag0.trans hag).mono fun n _ y=>y.elim (fun y=>y.elim) fun y=>y.2) ?_ ?_⟩
  · have e : rowsI (xs++[n]) = rowsI xs++rowsI [n]:=List.map_append ..
    rw [e]
    exact hown
  · rcases hcase with ⟨_,rfl,_⟩ | ⟨_,hb,_⟩
    · exact .inl rfl
    · exact .inr ⟨by rw [hb]; simp,fun b hb'=>by rw [hb] at hb'; cases hb'; simp⟩
theorem atN_lessS {s : St} {b o n m : Nat} {cs : List AV} (h : St.atN s b o n = some cs) (hm : m≤n) : St.atN s b (o + m) 0 = some []:=by
  unfold St.atN at h ⊢
  split at h
  · split at h
    · cases h
    · rename_i h2
      simp only [if_neg h2]
      split at h
      · rename_i h3
        rw [if_pos (by omega)]
        simp
      · cases h
  · cases h
theorem opR_sufS {K : Env→St→Post3→Prop} {Q : Post3} {d : Option Nat} {env : Env} {s : St} {lo hi esz n : Nat} {x y : VOpd} {rows : List (List AV)} {vx : AV} (ex : x.ev env = vx) (ey : asNat? (y.ev env) = some n) (hx : ArrAt s lo hi vx esz rows) (hn : n≤rows.length)
    (h : ∀ w,ArrAt s lo hi w esz (rows.drop n)→boxOf w = boxOf vx→K (env.put d w) s Q) : opR X K d [] env s Q (vop X.P (.slice none esz x (some y) none none) env s):=by
  rw [v_slice,ex]
  rcases nil_or_sl hx.len with ⟨rfl,hz⟩ | ⟨b,o,e,f,rfl⟩
  · have hr : rows = []:=List.length_eq_zero_iff.1 hz
    subst hr
    have hn0 : n = 0:=by simpa using hn
    subst hn0
    simp only [bnd,ey]
    exact ⟨keptA_nil _ _ _,h _ (emptyArr _ _ _ _) rfl⟩
  · obtain ⟨rfl,h0⟩:=hx.size _ _ _ _ _ rfl
    simp only [bnd,ey,Option.isSome_none,Bool.false_eq_true,if_false,false_implies,and_true,Nat.le_refl,true_and]
    rw [if_pos hn]
    refine ⟨keptA_nil _ _ _,h _ ⟨?_,?_,?_⟩ rfl⟩
    · simp only [lenA,List.length_drop]
    · intro b' o' len' e' full' q
      cases q
      refine ⟨rfl,?_⟩
      by_cases hr : rows = []
      · subst hr
        have hn0 : n = 0:=by simpa using hn
        subst hn0
        simpa using h0
      · obtain ⟨b',o',f',q,_,_,hw⟩:=hx.whole hr
        cases q
        exact atN_lessS (hw rows.length (Nat.le_refl _)) (Nat.mul_le_mul_right _ hn)
    · intro i hi'
      simp only [List.length_drop] at hi'
      obtain ⟨b1,o1,q1,q2,q3,q4⟩:=hx.row (n + i) (by omega)
      obtain ⟨b',o',len',full',q,_,_,hp⟩:=elemA_inv q1
      cases q
      simp only [AV.ptr.injEq,Int.toNat_natCast] at hp
      obtain ⟨rfl,rfl⟩:=hp
      refine ⟨b1,o + (n + i) * e,?_,q2,q3,?_⟩
      · simp only [elemA,Int.toNat_natCast]
        rw [if_pos ⟨by omega,by omega,trivial⟩]
        congr 2
        rw [Nat.add_mul]
        omega
      · simpa using q4
theorem w_code_numbers (h : OnH X) (hg : GB st) {lo hi : Nat} {v : AV} {ws : List (List UInt8)} (hv : StrsAt st lo hi v ws) (hl : ∀ p ∈ ws,p.length≤2500000) (hwl : ws.length≤2500001) (c : Nat) (hc : c≤10) :
    wpF X 61 [v,iA c] st fun r s=>∃ w m,r = .ret (.tup [w,bA (nums ws c).isSome])∧s = st++m∧∀ n,nums ws c = some n→OwnS s st.length w 1 (rowsI n):=by
  refine wpF_go (fn:=v_code_numbers) (by rw [h.F]; rfl) ?_
  have hlen:=hv.len
  simp only [List.length_map] at hlen
  have d0 : decide ((0 : Int)≠0) = false:=rfl
  simp only [v_code_numbers,hlen,kB,kZ,kD,kE,xl,xg,xk,xc,xd,xe,xf,xj,xi,xh,reduceIte,reduceCtorEq,xy,xw,xq]
  refine condO_intro ?_ ?_<;>intro hc1
  · have hne : ws.length≠c:=by have:=of_decide_eq_true hc1; omega
    have e : nums ws c = none:=by unfold nums; rw [if_neg hne]
    simp only [kB,kZ,kD,kE,xl,xg,xk,xc,xd,xe,xf,xj,xi,xh,reduceIte,reduceCtorEq,xy,xw,xq]
    exact ⟨_,[],by rw [e]; rfl,rfl,fun n hn=>by rw [e] at hn; cases hn⟩
  have hwc : ws.length = c:=by have:=of_decide_eq_false hc1; omega
  have en : nums ws c = ws.mapM readN:=by unfold nums; rw [if_pos hwc]
  simp only [hlen,kB,kZ,kD,kE,xl,xg,xk,xc,xd,xe,xf,xj,xi,xh,reduceIte,reduceCtorEq,xy,xw,xq]
  refine anyLoop (mB m0) (fun e s=>∃ (w : AV) (n : List Int),e 6 = w∧nums ws c = some n∧(∃ m,s = st++m)∧OwnS s st.length w 1 (rowsI n)) ?_ ?_
  · refine loop_inv (fun k e s=>∃ (i : Nat) (w : AV) (n : List Int),i + k = ws.length∧e 6 = w∧e 15 = v∧e 16 = iA (ws.length : Int)∧e 17 = iA i∧(ws.take i).mapM readN = some n∧(∃ m,s = st++m)∧OwnS s st.length w 1 (rowsI n)) ?_ ws.length ?_
    case refine_2=>exact ⟨0,_,[],by omega,rfl,rfl,rfl,rfl,rfl,⟨[],rfl⟩,own_nil _ _ _⟩
    rintro k e s ⟨i,w,n,hik,k6,k15,k16,k17,hn,hpre,hown⟩
    simp only [k6,k15,k16,k17,kB,kZ,kD,kE,xl,xg,xk,xc,xd,xe,xf,xj,xi,xh,reduceIte,reduceCtorEq,xy,xw,xq]
    refine condO_intro ?_ ?_<;>intro hc2
    case refine_2 =>
      have hi : i = ws.length:=by have:=of_decide_eq_false hc2; omega
      subst hi
      rw [List.take_length] at hn
      simp only [k6,kB,kZ,kD,kE,xl,xg,xk,xc,xd,xe,xf,xj,xi,xh,reduceIte,reduceCtorEq,xy,xw,xq]
      exact ⟨w,n,rfl,by rw [en,hn],hpre,hown⟩
    have hii : i < ws.length:=by have:=of_decide_eq_true hc2; omega
    obtain ⟨ms,hms⟩:=hpre
    have hv2:=hv.mono ms
    have hgs:=hg.app ms
    have hstl : st.length≤s.length:=by rw [hms]; simp
    rw [←hms] at hv2 hgs
    obtain ⟨b1,o1,he1,hn1,ha1,_⟩:=hv2.get i (by simpa using hii)
    have p1:=ha1 [] 0 (by omega)
    simp only [List.append_nil,List.getElem_map,Nat.add_zero,List.getElem?_cons_zero] at p1
    have hpl:=hl _ (List.getElem_mem hii)
    have hnl : n.length≤i:=by
      have:=(mapM_readN hn).1
      have:=congrArg List.length this
      simp at this
      omega
    have hwi : IntKind.wrap .i64 ((i : Int) + 1) = ((i + 1 : Nat) : Int):=by rw [wrap_small (by omega) (by omega)]; omega
    simp only [k6,k15,k16,k17,he1,p1,kB,kZ,kD,kE,xl,xg,xk,xc,xd,xe,xf,xj,xi,xh,reduceIte,reduceCtorEq,xy,xw,xq]
    refine callO_same (j_word_Read h hgs _ (by omega)) ?_
    unfold errE numE
    cases hr : readN ws[i] with
    | none =>
      have e0 : nums ws c = none:=by rw [en]; exact mapM_none hii hr
      simp only [Option.isSome_none,Bool.false_eq_true,if_false,Int.reduceEq,Int.reduceNe,kB,kZ,kD,kE,xl,xg,xk,xc,xd,xe,xf,xj,xi,xh,reduceIte,reduceCtorEq,xy,xw,xq]
      exact ⟨_,ms,by rw [e0]; rfl,hms,fun n hn=>by rw [e0] at hn; cases hn⟩
    | some x =>
      simp only [Option.isSome_some,Option.getD_some,if_true,d0,k6,k15,k16,k17,kB,kZ,kD,kE,xl,xg,xk,xc,xd,xe,xf,xj,xi,xh,reduceIte,reduceCtorEq,xy,xw,xq]
      refine opR_ints (n:=x) hown hstl (by omega) (by simp only [kB,kZ,kD,kE,xl,xg,xk,xc,xd,xe,xf,xj,xi,xh,reduceIte,reduceCtorEq,xy,xw,xq]) (by simp only [kB,kZ,kD,kE,xl,xg,xk,xc,xd,xe,xf,xj,xi,xh,reduceIte,reduceCtorEq,xy,xw,xq]) ?_
      intro w' s' hag hown' _
      have hpre':=hag.ext ⟨ms,hms⟩ fun b hb e=>by have:=(hown.bnd b e).1; omega
      simp only [k6,k15,k16,k17,hwi,kB,kZ,kD,kE,xl,xg,xk,xc,xd,xe,xf,xj,xi,xh,reduceIte,reduceCtorEq,xy,xw,xq]
      exact ⟨k - 1,by omega,i + 1,w',n++[x],by omega,rfl,rfl,mapM_take hii hn hr,hpre',hown'⟩
  rintro e s ⟨w,n,k6,hn,⟨m,rfl⟩,hown⟩
  simp only [k6,kB,kZ,kD,kE,xl,xg,xk,xc,xd,xe,xf,xj,xi,xh,reduceIte,reduceCtorEq,xy,xw,xq]
  exact ⟨w,m,by rw [hn]; rfl,rfl,fun n' hn'=>by rw [hn] at hn'; cases hn'; exact hown⟩
theorem w_code_headed (h : OnH X) (hg : GB st) (line head : List UInt8) (hl : line.length≤2500000) (c : Nat) (hc : c≤10) :
    wpF X 45 [sA line,sA head,iA c] st fun r s=>∃ w m,r = .ret (.tup [w,bA (headP line head c).isSome])∧s = st++m∧∀ n,headP line head c = some n→OwnS s st.length w 1 (rowsI n):=by
  refine wpF_go (fn:=v_code_headed) (by rw [h.F]; rfl) ?_
  simp only [v_code_headed,kB,kZ,kD,kE,xl,xg,xk,xc,xd,xe,xf,xj,xi,xh,reduceIte,reduceCtorEq,xy,xw,xq]
  refine wpF.mono (w_Split h 32 line (by omega)) ?_
  rintro r S ⟨v,m,hi,rfl,rfl,ha⟩
  refine ⟨kept_app _ _ _ _,?_⟩
  obtain ⟨w0,t,e⟩:=spl_cons 32 line
  have hpl:=spl_le 32 line
  have hcl:=spl_len 32 line
  have hcc:=List.count_le_length (a:=(32 : UInt8)) (l:=line)
  simp only [List.append_nil] at ha ⊢
  have hsl : st.length≤(st++m).length:=by simp
  have eh : headP line head c = if w0 = head then nums t c else none:=by unfold headP; rw [show spl line = w0 :: t from e]
  rw [e] at ha hpl hcl
  simp only [List.length_cons] at hcl
  obtain ⟨b1,o1,he1,hn1,ha1,_⟩:=ha.get 0 (by simp)
  have p1:=ha1 [] 0 (by omega)
  simp only [List.append_nil,List.map_cons,List.getElem_cons_zero,Nat.add_zero,List.getElem?_cons_zero,Int.natCast_zero] at p1 he1
  have g1:=fun ox oy=>k_ne X.P ox oy w0 head
  have hgm:=hg.app m
  generalize hS : st++m = S at *
  simp only [he1,p1,g1,kB,kZ,kD,kE,xl,xg,xk,xc,xd,xe,xf,xj,xi,xh,reduceIte,reduceCtorEq,xy,xw,xq]
  refine condO_intro ?_ ?_<;>intro hc1
  · have hne : w0≠head:=by simpa using hc1
    have e0 : headP line head c = none:=by rw [eh,if_neg hne]
    simp only [kB,kZ,kD,kE,xl,xg,xk,xc,xd,xe,xf,xj,xi,xh,reduceIte,reduceCtorEq,xy,xw,xq]
    exact ⟨_,m,by rw [e0]; rfl,hS.symm,fun n hn=>by rw [e0] at hn; cases hn⟩
  have he : w0 = head:=by simpa using hc1
  have e1 : headP line head c = nums t c:=by rw [eh,if_pos he]
  simp only [kB,kZ,kD,kE,xl,xg,xk,xc,xd,xe,xf,xj,xi,xh,reduceIte,reduceCtorEq,xy,xw,xq]
  refine opR_sufS (n:=1) (by simp only [kB,kZ,kD,kE,xl,xg,xk,xc,xd,xe,xf,xj,xi,xh,reduceIte,reduceCtorEq,xy,xw,xq]) rfl ha (by simp) ?_
  intro w hw _
  simp only [List.map_cons,List.drop_succ_cons,List.drop_zero] at hw
  simp only [kB,kZ,kD,kE,xl,xg,xk,xc,xd,xe,xf,xj,xi,xh,reduceIte,reduceCtorEq,xy,xw,xq]
  refine wpF.mono (w_code_numbers h hgm hw (fun p hp=>by have:=hpl p (List.mem_cons_of_mem _ hp); omega) (by omega) c hc) ?_
  rintro r s ⟨w2,m2,rfl,rfl,hw2⟩
  refine ⟨kept_app _ _ _ _,?_⟩
  simp only [kB,kZ,kD,kE,xl,xg,xk,xc,xd,xe,xf,xj,xi,xh,reduceIte,reduceCtorEq,xy,xw,xq]
  rw [←hS]
  exact ⟨w2,m++m2,by rw [e1],by simp,fun n hn=>(by rw [e1] at hn; have:=(hw2 n hn).low hsl; rw [←hS] at this; exact this)⟩
end
end Go.VX.Seat
end
section
set_option maxRecDepth 4000
namespace Go.VX.Seat
open Go.Proofs Go.Lib
theorem nameK_eq (k : Int) : nameK k = ⟨(nmK k).toArray⟩:=by
  unfold nmK
  cases nameK k
  rfl
theorem Bl.get {S0 s : St} {bx : Nat} {l : List UInt8} (h : Bl S0 s bx l) {b : Nat} {x : Box} (hx : S0[b]? = some x) : s[b]? = some x:=by
  obtain ⟨k,rfl⟩:=h.pre
  rw [List.getElem?_append_left (List.getElem?_eq_some_iff.1 hx).1]
  exact hx
theorem Bl.gb {S0 s : St} {bx : Nat} {l : List UInt8} (h : Bl S0 s bx l) (hg : GB S0) : GB s:=by
  obtain ⟨k,rfl⟩:=h.pre
  exact hg.app k
theorem b240_all : ∀ j : Fin 25,(decide (andI (usesK ((j.val : Int) + 1)) 240≠0) == hasN ((j.val : Int) + 1)) = true:=by decide +kernel
theorem b240 {k : Int} (h : oneK k = true) : decide (andI (usesK k) 240≠0) = hasN k:=by
  have hk:=oneK_bnd h
  have:=b240_all ⟨(k - 1).toNat,by omega⟩
  simp only at this
  rw [show (((k - 1).toNat : Nat) : Int) + 1 = k by omega] at this
  simpa using this
section
variable {X : Cx} {st : St}
set_option maxHeartbeats 2000000 in
theorem j_code_opText (h : OnH X) (hg : GB st) (o : OpV) (ho : oneK o.k = true) (hi : OpI o) : J X.P X.F X.H (.call 22 [.agg o.row] st (.ret (sA (opX o))) st):=by
  refine pure_intro (by rw [h.F]; rfl) rfl ?_
  obtain ⟨t1,_,_,_,_,_,_,_⟩:=bits ho
  have t240:=b240 ho
  have l1:=grdX_len hi.g
  have l2:=dstX_len hi
  have l3:=numX_len hi
  have l4:=nmK_len o.k
  have l5:=catI_len (operL_I hi)
  have l6:=operL_len o
  have n1:=itoa_len64 hi.g
  have n2:=itoa_len64 hi.d
  have n3:=itoa_len64 hi.n
  simp only [v_code_opText,OpV.row,kB,kZ,kD,kE,xl,xg,xk,xc,xd,xe,xf,xj,xi,xh,reduceIte,reduceCtorEq,xy,xw,xq]
  refine callO_same (j_code_of h.toOn (hg.glob.ext (Ext.of _ _)) o.k) ?_
  simp only [nameK_eq,v_allocF,kB,kZ,kD,kE,xl,xg,xk,xc,xd,xe,xf,xj,xi,xh,reduceIte,reduceCtorEq,xy,xw,xq]
  obtain ⟨S0,hS0⟩ : ∃ S0 : St,S0 = st++[⟨[iA o.k,iA o.d,iA o.a,iA o.b,iA o.c,iA o.n,iA o.g],0,0⟩,⟨[iA (usesK o.k),iA (classK o.k),.sc (.string ⟨(nmK o.k).toArray⟩)],0,1⟩]:=⟨_,rfl⟩
  have hB0 : Bl S0 (st++[⟨[iA o.k,iA o.d,iA o.a,iA o.b,iA o.c,iA o.n,iA o.g],0,0⟩,⟨[iA (usesK o.k),iA (classK o.k),.sc (.string ⟨(nmK o.k).toArray⟩)],0,1⟩,⟨bldCells [],3,0⟩]) (st.length + 2) []:=⟨⟨[⟨bldCells [],3,0⟩],by rw [hS0]; simp⟩,by rw [hS0]; simp,0,by simp⟩
  have hg0 : GB S0:=by rw [hS0]; exact hg.app _
  have g1 : S0[st.length + 0]? = some ⟨o.row,0,0⟩:=by rw [hS0]; simp [OpV.row]
  have g2 : S0[st.length + 1]? = some ⟨[iA (usesK o.k),iA (classK o.k),.sc (.string ⟨(nmK o.k).toArray⟩)],0,1⟩:=by rw [hS0]; simp
  have q1 : ∀ {s l},Bl S0 s (st.length + 2) l→∀ k,St.at1 s (st.length + 0) k = o.row[k]?:=fun hb k=>at1_box (hb.get g1) (by decide) k
  have q2 : ∀ {s l},Bl S0 s (st.length + 2) l→∀ k,St.at1 s (st.length + 1) k = ([iA (usesK o.k),iA (classK o.k),.sc (.string ⟨(nmK o.k).toArray⟩)] : List AV)[k]?:=fun hb k=>at1_box (hb.get g2) (by decide) k
  have q3 : ∀ {s l},Bl S0 s (st.length + 2) l→St.atN s (st.length + 0) 0 7 = some o.row:=fun hb=>by
    rw [atN_box (hb.get g1) (by decide) 0 7 (by simp [OpV.row])]
    rfl
  have hpre0 : ∃ k,S0 = st++k:=⟨_,hS0⟩
  have r6 : o.row[6]? = some (iA o.g):=rfl
  have r1 : o.row[1]? = some (iA o.d):=rfl
  have r5 : o.row[5]? = some (iA o.n):=rfl
  have hcells : (⟨[iA 1,iA 58,iA 5,.sc (.string ⟨#[]⟩)],3,0⟩ : Box) = ⟨bldCells [],3,0⟩:=rfl
  rw [hcells]
  generalize (st++[⟨[iA o.k,iA o.d,iA o.a,iA o.b,iA o.c,iA o.n,iA o.g],0,0⟩,⟨[iA (usesK o.k),iA (classK o.k),.sc (.string ⟨(nmK o.k).toArray⟩)],0,1⟩,⟨bldCells [],3,0⟩] : St) = S at *
  clear hS0 hcells
  refine anyCond m0 (fun e s=>e 1 = .ptr (st.length + 0) 0∧e 3 = .ptr (st.length + 1) 0∧e 5 = .ptr (st.length + 2) 0∧Bl S0 s (st.length + 2) (grdX o.g)) ?_ ?_
  · refine condO_intro ?_ ?_<;>intro hc
    · have a1:=fun ox oy=>k_add X.P ox oy [63,32] (itoa o.g) (by simp; omega)
      have a2:=fun ox oy=>k_add X.P ox oy (63 :: 32 :: itoa o.g) [32] (by simp; omega)
      simp only [q1 hB0,r6,kB,kZ,kD,kE,xl,xg,xk,xc,xd,xe,xf,xj,xi,xh,reduceIte,reduceCtorEq,xy,xw,xq]
      refine callO_same (j_Itoa h (hB0.gb hg0) o.g hi.g) ?_
      simp only [a1,a2,kB,kZ,kD,kE,xl,xg,xk,xc,xd,xe,xf,xj,xi,xh,reduceIte,reduceCtorEq,xy,xw,xq]
      refine callO_write h hB0 (by simp) (by simp; omega) ?_
      intro s' hB' _
      simp only [kB,kZ,kD,kE,xl,xg,xk,xc,xd,xe,xf,xj,xi,xh,reduceIte,reduceCtorEq,xy,xw,xq]
      unfold grdX
      rw [if_pos hc]
      exact hB'
    · simp only [kB,kZ,kD,kE,xl,xg,xk,xc,xd,xe,xf,xj,xi,xh,reduceIte,reduceCtorEq,xy,xw,xq]
      unfold grdX
      rw [if_neg (by rw [hc]; decide)]
      exact hB0
  clear hB0
  rintro e s ⟨k1,k3,k5,hB⟩
  simp only [k1,k3,k5,q2 hB,c_and,t1,kB,kZ,kD,kE,xl,xg,xk,xc,xd,xe,xf,xj,xi,xh,reduceIte,reduceCtorEq,xy,xw,xq]
  refine anyCond m0 (fun e s=>e 1 = .ptr (st.length + 0) 0∧e 3 = .ptr (st.length + 1) 0∧e 5 = .ptr (st.length + 2) 0∧Bl S0 s (st.length + 2) (grdX o.g++dstX o)) ?_ ?_
  · refine condO_intro ?_ ?_<;>intro hc
    · have a1:=fun ox oy=>k_add X.P ox oy (itoa o.d) [32,61,32] (by simp; omega)
      simp only [k1,k3,k5,q1 hB,r1,kB,kZ,kD,kE,xl,xg,xk,xc,xd,xe,xf,xj,xi,xh,reduceIte,reduceCtorEq,xy,xw,xq]
      refine callO_same (j_Itoa h (hB.gb hg0) o.d hi.d) ?_
      simp only [k1,k3,k5,a1,kB,kZ,kD,kE,xl,xg,xk,xc,xd,xe,xf,xj,xi,xh,reduceIte,reduceCtorEq,xy,xw,xq]
      refine callO_write h hB (by omega) (by simp; omega) ?_
      intro s' hB' _
      simp only [k1,k3,k5,kB,kZ,kD,kE,xl,xg,xk,xc,xd,xe,xf,xj,xi,xh,reduceIte,reduceCtorEq,xy,xw,xq]
      unfold dstX
      rw [if_pos hc]
      exact hB'
    · simp only [k1,k3,k5,kB,kZ,kD,kE,xl,xg,xk,xc,xd,xe,xf,xj,xi,xh,reduceIte,reduceCtorEq,xy,xw,xq]
      unfold dstX
      rw [if_neg (by rw [hc]; decide),List.append_nil]
      exact hB
  clear hB k1 k3 k5
  rintro e s ⟨k1,k3,k5,hB⟩
  simp only [k1,k3,k5,q2 hB,kB,kZ,kD,kE,xl,xg,xk,xc,xd,xe,xf,xj,xi,xh,reduceIte,reduceCtorEq,xy,xw,xq]
  refine callO_write h hB (by simp; omega) (by omega) ?_
  intro s2 hB2 _
  clear hB
  have hB:=hB2
  clear hB2
  simp only [k1,k3,k5,q3 hB,kB,kZ,kD,kE,xl,xg,xk,xc,xd,xe,xf,xj,xi,xh,reduceIte,reduceCtorEq,xy,xw,xq]
  refine callO_own (w_code_Read h.toOn (hB.gb hg0).glob o ho) ?_
  intro w m hown
  have hown:=hown.low (lo':=st.length + 3) (by have:=hB.lt; omega)
  have hB:=hB.app m
  have hlw:=hown.arr.len
  simp only [List.length_map] at hlw
  generalize s2++m = s3 at *
  simp only [k1,k3,k5,hlw,kB,kZ,kD,kE,xl,xg,xk,xc,xd,xe,xf,xj,xi,xh,reduceIte,reduceCtorEq,xy,xw,xq]
  refine anyLoop (mB m0) (fun e s=>e 1 = .ptr (st.length + 0) 0∧e 3 = .ptr (st.length + 1) 0∧e 5 = .ptr (st.length + 2) 0∧Bl S0 s (st.length + 2) (grdX o.g++dstX o++nmK o.k++catI (operL o))) ?_ ?_
  · refine loop_inv (fun k e s=>∃ i : Nat,i + k = (operL o).length∧e 1 = .ptr (st.length + 0) 0∧e 3 = .ptr (st.length + 1) 0∧e 5 = .ptr (st.length + 2) 0∧e 36 = w∧e 37 = iA ((operL o).length : Int)∧e 38 = iA i∧OwnS s (st.length + 3) w 1 (rowsI (operL o))∧Bl S0 s (st.length + 2) (grdX o.g++dstX o++nmK o.k++catI ((operL o).take i))) ?_ (operL o).length ?_
    case refine_2=>exact ⟨0,by omega,k1,k3,k5,rfl,rfl,rfl,hown,by simpa [catI] using hB⟩
    clear hB hown k1 k3 k5
    rintro k e s ⟨i,hik,k1,k3,k5,k36,k37,k38,hown,hB⟩
    simp only [k1,k3,k5,k36,k37,k38,kB,kZ,kD,kE,xl,xg,xk,xc,xd,xe,xf,xj,xi,xh,reduceIte,reduceCtorEq,xy,xw,xq]
    refine condO_intro ?_ ?_<;>intro hc
    case refine_2 =>
      have hi : i = (operL o).length:=by have:=of_decide_eq_false hc; omega
      subst hi
      simp only [k1,k3,k5,kB,kZ,kD,kE,xl,xg,xk,xc,xd,xe,xf,xj,xi,xh,reduceIte,reduceCtorEq,xy,xw,xq]
      rw [List.take_length] at hB
      exact hB
    have hii : i < (operL o).length:=by have:=of_decide_eq_true hc; omega
    obtain ⟨b1,o1,he1,hn1,ha1,_⟩:=hown.arr.get i (by simpa using hii)
    have p1:=ha1 [] 0 (by omega)
    simp only [List.append_nil,List.getElem_map,Nat.add_zero,List.getElem?_cons_zero] at p1
    have hx:=operL_I hi _ (List.getElem_mem hii)
    have htk:=catI_take hii
    have hcl:=catI_len (ns:=(operL o).take i) fun x hx=>operL_I hi x (List.mem_of_mem_take hx)
    have hll : ((operL o).take i).length≤3:=by simp; omega
    generalize (operL o)[i] = n at *
    have hil:=itoa_len64 hx
    have a1:=fun ox oy=>k_add X.P ox oy [32] (itoa n) (by simp; omega)
    have hwi : IntKind.wrap .i64 ((i : Int) + 1) = ((i + 1 : Nat) : Int):=by rw [wrap_small (by omega) (by omega)]; omega
    simp only [k1,k3,k5,k36,k37,k38,he1,p1,kB,kZ,kD,kE,xl,xg,xk,xc,xd,xe,xf,xj,xi,xh,reduceIte,reduceCtorEq,xy,xw,xq]
    refine callO_same (j_Itoa h (hB.gb hg0) n hx) ?_
    simp only [k1,k3,k5,k36,k37,k38,a1,kB,kZ,kD,kE,xl,xg,xk,xc,xd,xe,xf,xj,xi,xh,reduceIte,reduceCtorEq,xy,xw,xq]
    refine callO_write h hB (by simp; omega) (by simp; omega) ?_
    intro s' hB' hag
    have hown':=hown.agree hag fun b hb e=>by have:=(hown.bnd b hb).1; omega
    simp only [k1,k3,k5,k36,k37,k38,hwi,kB,kZ,kD,kE,xl,xg,xk,xc,xd,xe,xf,xj,xi,xh,reduceIte,reduceCtorEq,xy,xw,xq]
    refine ⟨k - 1,by omega,i + 1,by omega,rfl,hown',?_⟩
    rw [htk,← List.append_assoc]
    exact hB'
  clear hB hown k1 k3 k5
  rintro e s ⟨k1,k3,k5,hB⟩
  simp only [k1,k3,k5,q2 hB,c_and,t240,kB,kZ,kD,kE,xl,xg,xk,xc,xd,xe,xf,xj,xi,xh,reduceIte,reduceCtorEq,xy,xw,xq]
  refine anyCond m0 (fun e s=>e 5 = .ptr (st.length + 2) 0∧Bl S0 s (st.length + 2) (opX o)) ?_ ?_
  · refine condO_intro ?_ ?_<;>intro hc
    · have a1:=fun ox oy=>k_add X.P ox oy [32] (itoa o.n) (by simp; omega)
      simp only [k1,k3,k5,q1 hB,r5,kB,kZ,kD,kE,xl,xg,xk,xc,xd,xe,xf,xj,xi,xh,reduceIte,reduceCtorEq,xy,xw,xq]
      refine callO_same (j_word_Show h (hB.gb hg0) o.n hi.n) ?_
      simp only [k1,k3,k5,a1,kB,kZ,kD,kE,xl,xg,xk,xc,xd,xe,xf,xj,xi,xh,reduceIte,reduceCtorEq,xy,xw,xq]
      refine callO_write h hB (by simp; omega) (by simp; omega) ?_
      intro s' hB' _
      simp only [k1,k3,k5,kB,kZ,kD,kE,xl,xg,xk,xc,xd,xe,xf,xj,xi,xh,reduceIte,reduceCtorEq,xy,xw,xq]
      have : opX o = grdX o.g++dstX o++nmK o.k++catI (operL o)++32 :: itoa o.n:=by unfold opX numX; rw [if_pos hc]
      rw [this]
      exact hB'
    · simp only [k1,k3,k5,kB,kZ,kD,kE,xl,xg,xk,xc,xd,xe,xf,xj,xi,xh,reduceIte,reduceCtorEq,xy,xw,xq]
      have : opX o = grdX o.g++dstX o++nmK o.k++catI (operL o):=by unfold opX numX; rw [if_neg (by rw [hc]; decide),List.append_nil]
      rw [this]
      exact hB
  clear hB k1 k3 k5
  rintro e s ⟨k5,hB⟩
  have hlen:=opX_len hi
  simp only [k5,kB,kZ,kD,kE,xl,xg,xk,xc,xd,xe,xf,xj,xi,xh,reduceIte,reduceCtorEq,xy,xw,xq]
  refine callO_same (j_BString h hB (by omega)) ?_
  simp only [kB,kZ,kD,kE,xl,xg,xk,xc,xd,xe,xf,xj,xi,xh,reduceIte,reduceCtorEq,xy,xw,xq]
  obtain ⟨k,e1⟩:=hB.pre
  obtain ⟨k0,e0⟩:=hpre0
  exact ⟨k0++k,by rw [e1,e0,List.append_assoc]⟩
end
end Go.VX.Seat
end
section
set_option maxRecDepth 4000
namespace Go.VX.Seat
open Go.Proofs Go.Lib
section
variable {X : Cx} {st : St}
theorem opR_sl {K : Env→St→Post3→Prop} {Q : Post3} {d : Option Nat} {env : Env} {s : St} {b o n esz l u : Nat} {f : Bool} {x : VOpd} {lo hi : Option VOpd} (ex : x.ev env = .sl b o n esz f) (hl : bnd env 0 lo = some l) (hh : bnd env n hi = some u) (h1 : l≤u) (h2 : u≤n)
    (H : K (env.put d (.sl b (o + l * esz) (u - l) esz (f && u == n))) s Q) : opR X K d [] env s Q (vop X.P (.slice none esz x lo hi none) env s):=by
  rw [v_slice,ex]
  simp only [hl,hh,show bnd env n none = some n from rfl]
  rw [if_pos ⟨h1,h2,Nat.le_refl _,by simp,trivial⟩]
  exact ⟨keptA_nil _ _ _,H⟩
abbrev EndV.row (e : EndV) : List AV:=[iA e.k,iA e.a,iA e.t,iA e.e]
set_option maxHeartbeats 2000000 in
theorem j_code_endText (h : OnH X) (hg : GB st) (e : EndV) (hk : 1≤e.k∧e.k≤4) (hi : EndI e) : J X.P X.F X.H (.call 23 [.agg e.row] st (.ret (sA (endX e))) st):=by
  refine pure_intro (by rw [h.F]; rfl) rfl ?_
  have ge : ∀ L k,St.at1 (st++L) 1 k = glob_bireme_code_ends[k]?:=fun L k=>by
    have h1:=hg 1 ⟨glob_bireme_code_ends,1,0⟩ rfl
    exact at1_box (by rw [List.getElem?_append_left (List.getElem?_eq_some_iff.1 h1).1]; exact h1) (by decide) k
  have hgs:=fun L=>hg.app L
  obtain ⟨k,a,t,e⟩:=e
  obtain ⟨_,ha,ht,he⟩:=hi
  have ha : I64 a:=ha
  have ht : I64 t:=ht
  have he : I64 e:=he
  have hk : 1≤k∧k≤4:=hk
  have na:=itoa_len64 ha
  have nt:=itoa_len64 ht
  have ne:=itoa_len64 he
  have w0 : IntKind.wrap .i64 (0 + 1) = 1:=rfl
  have w1 : IntKind.wrap .i64 (1 + 1) = 2:=rfl
  have w2 : IntKind.wrap .i64 (2 + 1) = 3:=rfl
  have m1 : IntKind.wrap .i64 (1 - 1) = 0:=rfl
  have m2 : IntKind.wrap .i64 (2 - 1) = 1:=rfl
  have m3 : IntKind.wrap .i64 (3 - 1) = 2:=rfl
  have m4 : IntKind.wrap .i64 (4 - 1) = 3:=rfl
  have aa:=fun ox oy=>k_add X.P ox oy [32] (itoa a) (by simp; omega)
  have at_:=fun ox oy=>k_add X.P ox oy [32] (itoa t) (by simp; omega)
  have ae:=fun ox oy=>k_add X.P ox oy [32] (itoa e) (by simp; omega)
  have hk' : k = 1∨k = 2∨k = 3∨k = 4:=by omega
  rcases hk' with rfl | rfl | rfl | rfl
  · have b1:=fun ox oy=>k_add X.P ox oy [106,117,109,112] (32 :: itoa t) (by simp; omega)
    simp only [v_code_endText,ge,glob_bireme_code_ends,m1,Int.reduceEq,Int.reduceSub,kB,kZ,kD,kE,xl,xg,xk,xc,xd,xe,xf,xj,xi,xh,reduceIte,reduceCtorEq,xy,xw,xq]
    refine opR_sl (l:=1) (u:=3) rfl rfl rfl (by omega) (by omega) ?_
    simp only [ge,glob_bireme_code_ends,m1,Int.reduceEq,Int.reduceSub,kB,kZ,kD,kE,xl,xg,xk,xc,xd,xe,xf,xj,xi,xh,reduceIte,reduceCtorEq,xy,xw,xq]
    refine opR_sl (l:=0) (u:=1) rfl rfl rfl (by omega) (by omega) ?_
    simp only [ge,glob_bireme_code_ends,m1,Int.reduceEq,Int.reduceSub,kB,kZ,kD,kE,xl,xg,xk,xc,xd,xe,xf,xj,xi,xh,reduceIte,reduceCtorEq,xy,xw,xq]
    refine loop_unroll ?_
    simp only [w0,kB,kZ,kD,kE,xl,xg,xk,xc,xd,xe,xf,xj,xi,xh,reduceIte,reduceCtorEq,xy,xw,xq]
    refine callO_same (j_Itoa h (hgs _) t ht) ?_
    simp only [at_,b1,w0,kB,kZ,kD,kE,xl,xg,xk,xc,xd,xe,xf,xj,xi,xh,reduceIte,reduceCtorEq,xy,xw,xq]
    refine loop_unroll ?_
    simp only [kB,kZ,kD,kE,xl,xg,xk,xc,xd,xe,xf,xj,xi,xh,reduceIte,reduceCtorEq,xy,xw,xq]
    refine ⟨?_,_,rfl⟩
    simp [endX,endNm,endL,catI]
  · have b1:=fun ox oy=>k_add X.P ox oy [98,114,97,110,99,104] (32 :: itoa a) (by simp; omega)
    have b2:=fun ox oy=>k_add X.P ox oy ([98,114,97,110,99,104]++32 :: itoa a) (32 :: itoa t) (by simp; omega)
    have b3:=fun ox oy=>k_add X.P ox oy ([98,114,97,110,99,104]++32 :: itoa a++32 :: itoa t) (32 :: itoa e) (by simp; omega)
    simp only [List.cons_append,List.nil_append,List.append_assoc] at b1 b2 b3
    simp only [v_code_endText,ge,glob_bireme_code_ends,m2,Int.reduceEq,Int.reduceSub,kB,kZ,kD,kE,xl,xg,xk,xc,xd,xe,xf,xj,xi,xh,reduceIte,reduceCtorEq,xy,xw,xq]
    refine opR_sl (l:=0) (u:=3) rfl rfl rfl (by omega) (by omega) ?_
    simp only [ge,glob_bireme_code_ends,m2,Int.reduceEq,Int.reduceSub,kB,kZ,kD,kE,xl,xg,xk,xc,xd,xe,xf,xj,xi,xh,reduceIte,reduceCtorEq,xy,xw,xq]
    refine loop_unroll ?_
    simp only [w0,kB,kZ,kD,kE,xl,xg,xk,xc,xd,xe,xf,xj,xi,xh,reduceIte,reduceCtorEq,xy,xw,xq]
    refine callO_same (j_Itoa h (hgs _) a ha) ?_
    simp only [aa,b1,w0,kB,kZ,kD,kE,xl,xg,xk,xc,xd,xe,xf,xj,xi,xh,reduceIte,reduceCtorEq,xy,xw,xq]
    refine loop_unroll ?_
    simp only [w1,kB,kZ,kD,kE,xl,xg,xk,xc,xd,xe,xf,xj,xi,xh,reduceIte,reduceCtorEq,xy,xw,xq]
    refine callO_same (j_Itoa h (hgs _) t ht) ?_
    simp only [at_,b2,w1,kB,kZ,kD,kE,xl,xg,xk,xc,xd,xe,xf,xj,xi,xh,reduceIte,reduceCtorEq,xy,xw,xq]
    refine loop_unroll ?_
    simp only [w2,kB,kZ,kD,kE,xl,xg,xk,xc,xd,xe,xf,xj,xi,xh,reduceIte,reduceCtorEq,xy,xw,xq]
    refine callO_same (j_Itoa h (hgs _) e he) ?_
    simp only [ae,b3,w2,kB,kZ,kD,kE,xl,xg,xk,xc,xd,xe,xf,xj,xi,xh,reduceIte,reduceCtorEq,xy,xw,xq]
    refine loop_unroll ?_
    simp only [kB,kZ,kD,kE,xl,xg,xk,xc,xd,xe,xf,xj,xi,xh,reduceIte,reduceCtorEq,xy,xw,xq]
    refine ⟨?_,_,rfl⟩
    simp [endX,endNm,endL,catI]
  · have b1:=fun ox oy=>k_add X.P ox oy [114,101,116,117,114,110] (32 :: itoa a) (by simp; omega)
    simp only [v_code_endText,ge,glob_bireme_code_ends,m3,Int.reduceEq,Int.reduceSub,kB,kZ,kD,kE,xl,xg,xk,xc,xd,xe,xf,xj,xi,xh,reduceIte,reduceCtorEq,xy,xw,xq]
    refine opR_sl (l:=0) (u:=1) rfl rfl rfl (by omega) (by omega) ?_
    simp only [ge,glob_bireme_code_ends,m3,Int.reduceEq,Int.reduceSub,kB,kZ,kD,kE,xl,xg,xk,xc,xd,xe,xf,xj,xi,xh,reduceIte,reduceCtorEq,xy,xw,xq]
    refine loop_unroll ?_
    simp only [w0,kB,kZ,kD,kE,xl,xg,xk,xc,xd,xe,xf,xj,xi,xh,reduceIte,reduceCtorEq,xy,xw,xq]
    refine callO_same (j_Itoa h (hgs _) a ha) ?_
    simp only [aa,b1,w0,kB,kZ,kD,kE,xl,xg,xk,xc,xd,xe,xf,xj,xi,xh,reduceIte,reduceCtorEq,xy,xw,xq]
    refine loop_unroll ?_
    simp only [kB,kZ,kD,kE,xl,xg,xk,xc,xd,xe,xf,xj,xi,xh,reduceIte,reduceCtorEq,xy,xw,xq]
    refine ⟨?_,_,rfl⟩
    simp [endX,endNm,endL,catI]
  · have b1:=fun ox oy=>k_add X.P ox oy [116,104,114,111,119] (32 :: itoa a) (by simp; omega)
    simp only [v_code_endText,ge,glob_bireme_code_ends,m4,Int.reduceEq,Int.reduceSub,kB,kZ,kD,kE,xl,xg,xk,xc,xd,xe,xf,xj,xi,xh,reduceIte,reduceCtorEq,xy,xw,xq]
    refine opR_sl (l:=0) (u:=1) rfl rfl rfl (by omega) (by omega) ?_
    simp only [ge,glob_bireme_code_ends,m4,Int.reduceEq,Int.reduceSub,kB,kZ,kD,kE,xl,xg,xk,xc,xd,xe,xf,xj,xi,xh,reduceIte,reduceCtorEq,xy,xw,xq]
    refine loop_unroll ?_
    simp only [w0,kB,kZ,kD,kE,xl,xg,xk,xc,xd,xe,xf,xj,xi,xh,reduceIte,reduceCtorEq,xy,xw,xq]
    refine callO_same (j_Itoa h (hgs _) a ha) ?_
    simp only [aa,b1,w0,kB,kZ,kD,kE,xl,xg,xk,xc,xd,xe,xf,xj,xi,xh,reduceIte,reduceCtorEq,xy,xw,xq]
    refine loop_unroll ?_
    simp only [kB,kZ,kD,kE,xl,xg,xk,xc,xd,xe,xf,xj,xi,xh,reduceIte,reduceCtorEq,xy,xw,xq]
    refine ⟨?_,_,rfl⟩
    simp [endX,endNm,endL,catI]
end
end Go.VX.Seat
end
section
set_option maxRecDepth 4000
namespace Go.VX.Seat
open Go.Proofs Go.Lib
theorem put_whole {S : St} {rb v : Nat} {old cells : List AV} (h : S[rb]? = some ⟨old,0,v⟩) (hl : cells.length = old.length) (hc : cells.all AV.isCell = true) : ∃ S',S.put rb 0 cells = some S'∧S'[rb]? = some ⟨cells,0,v + 1⟩∧Agree (fun b=>b = rb) S S':=by
  have:=put_box (o:=0) (vs:=cells) h (by omega) hc
  refine ⟨_,this,?_,Agree.set _ _ _⟩
  rw [List.getElem?_set_self (List.getElem?_eq_some_iff.1 h).1]
  have : splice old 0 cells = cells:=by simp [splice,hl]
  rw [this]
theorem put_one {S : St} {rb v : Nat} {old : List AV} (h : S[rb]? = some ⟨old,0,v⟩) (o : Nat) (ho : o < old.length) (a : AV) (hc : a.isCell = true) : ∃ S',S.put rb o [a] = some S'∧S'[rb]? = some ⟨old.set o a,0,v + 1⟩∧Agree (fun b=>b = rb) S S':=by
  have:=put_box (o:=o) (vs:=[a]) h (by simp; omega) (by simp [hc])
  refine ⟨_,this,?_,Agree.set _ _ _⟩
  rw [List.getElem?_set_self (List.getElem?_eq_some_iff.1 h).1]
  have : splice old o [a] = old.set o a:=by
    rw [List.set_eq_take_append_cons_drop,if_pos ho]
    simp [splice]
  rw [this]
def zeroE : EndV:=⟨0,0,0,0⟩
def endCnt (i : Nat) : Nat:=if i = 1 then 3 else 1
def mkEnd (i : Nat) (n : List Int) : EndV:=if i = 0 then ⟨1,0,n.getD 0 0,0⟩ else if i = 1 then ⟨2,n.getD 0 0,n.getD 1 0,n.getD 2 0⟩ else ⟨(i : Int) + 1,n.getD 0 0,0,0⟩
theorem endP_hit {line : List UInt8} {i : Nat} {n : List Int} (hi : i < 4) (hb : ∀ j : Nat,j < i→headP line (endNm ((j : Int) + 1)) (endCnt j) = none) (h : headP line (endNm ((i : Int) + 1)) (endCnt i) = some n) : endP line = some (mkEnd i n):=by
  unfold endP
  match i,hi with
  | 0,_=>rw [show headP line (endNm 1) 1 = some n from h]; rfl
  | 1,_=>rw [show headP line (endNm 1) 1 = none from hb 0 (by omega),show headP line (endNm 2) 3 = some n from h]; rfl
  | 2,_=>rw [show headP line (endNm 1) 1 = none from hb 0 (by omega),show headP line (endNm 2) 3 = none from hb 1 (by omega),show headP line (endNm 3) 1 = some n from h]; rfl
  | 3,_=>rw [show headP line (endNm 1) 1 = none from hb 0 (by omega),show headP line (endNm 2) 3 = none from hb 1 (by omega),show headP line (endNm 3) 1 = none from hb 2 (by omega),show headP line (endNm 4) 1 = some n from h]; rfl
theorem endP_miss {line : List UInt8} (hb : ∀ j : Nat,j < 4→headP line (endNm ((j : Int) + 1)) (endCnt j) = none) : endP line = none:=by
  unfold endP
  rw [show headP line (endNm 1) 1 = none from hb 0 (by omega),show headP line (endNm 2) 3 = none from hb 1 (by omega),show headP line (endNm 3) 1 = none from hb 2 (by omega),show headP line (endNm 4) 1 = none from hb 3 (by omega)]
theorem headP_len {line head : List UInt8} {c : Nat} {n : List Int} (h : headP line head c = some n) : n.length = c∧∀ x ∈ n,I64 x:=by
  unfold headP at h
  split at h
  · split at h
    · exact (nums_some h).2
    · cases h
  · cases h
section
variable {X : Cx} {st : St}
theorem ser_at {s : St} {lo : Nat} {w : AV} {n : List Int} (h : OwnS s lo w 1 (rowsI n)) (i : Nat) (hi : i < n.length) : ∃ b o,elemA w 1 (i : Int) = some (.ptr b o)∧(∀ L,St.at1 (s++L) b o = some (iA (n.getD i 0)))∧b < s.length:=by
  obtain ⟨b1,o1,he1,hb1,hb2,h4⟩:=h.arr.row i (by simpa using hi)
  obtain ⟨b2,o2,he2,hn1,ha1,_⟩:=h.arr.get i (by simpa using hi)
  rw [he1] at he2
  cases he2
  refine ⟨b1,o1,he1,fun L=>?_,hb2⟩
  have p1:=ha1 L 0 (by omega)
  simp only [List.getElem_map,Nat.add_zero,List.getElem?_cons_zero] at p1
  rw [p1,List.getD_eq_getElem?_getD,List.getElem?_eq_getElem hi]
  rfl
theorem kept_oneP {env : Env} {s s' : St} {x : VOpd} {b o : Nat} (hx : x.ev env = .ptr b o) (h : s'[b]? = s[b]?) : keptA env s s' [x] = true:=by
  unfold keptA
  simp only [List.all_cons,List.all_nil,Bool.and_true,hx,adrBox,h]
  cases s[b]?<;>simp
set_option maxHeartbeats 2000000 in
theorem j_code_readEnd (h : OnH X) (hg : GB st) (line : List UInt8) (hl : line.length≤2500000) :
    J X.P X.F X.H (.call 63 [sA line] st (.ret (.tup [.agg ((endP line).getD zeroE).row,bA (endP line).isSome])) st):=by
  refine pure_intro (by rw [h.F]; rfl) rfl ?_
  have h1:=hg 1 ⟨glob_bireme_code_ends,1,0⟩ rfl
  have ge : ∀ L,St.atN (st++L) 1 0 8 = some glob_bireme_code_ends:=fun L=>by
    rw [atN_box (by rw [List.getElem?_append_left (List.getElem?_eq_some_iff.1 h1).1]; exact h1) (by decide) 0 8 (by decide)]
    rfl
  simp only [v_code_readEnd,ge,kB,kZ,kD,kE,xl,xg,xk,xc,xd,xe,xf,xj,xi,xh,reduceIte,reduceCtorEq,xy,xw,xq]
  have hr0 : (st++[⟨[iA 0,iA 0,iA 0,iA 0],0,0⟩])[st.length + 0]? = some ⟨[iA 0,iA 0,iA 0,iA 0],0,0⟩:=by simp
  have hp0 : ∃ m,st++[⟨[iA 0,iA 0,iA 0,iA 0],0,0⟩] = st++m:=⟨_,rfl⟩
  generalize (st++[⟨[iA 0,iA 0,iA 0,iA 0],0,0⟩] : St) = S0 at *
  generalize hrb : st.length + 0 = rb at *
  refine anyLoop (mB m0) (fun e s=>e 2 = .ptr rb 0∧(∃ m,s = st++m)∧s[rb]? = some ⟨[iA 0,iA 0,iA 0,iA 0],0,0⟩∧endP line = none) ?_ ?_
  · refine loop_inv (fun k e s=>∃ i : Nat,i + k = 4∧e 0 = sA line∧e 2 = .ptr rb 0∧e 9 = .agg glob_bireme_code_ends∧e 10 = iA i∧(∃ m,s = st++m)∧s[rb]? = some ⟨[iA 0,iA 0,iA 0,iA 0],0,0⟩∧∀ j : Nat,j < i→headP line (endNm ((j : Int) + 1)) (endCnt j) = none) ?_ 4 ?_
    case refine_2=>exact ⟨0,by omega,rfl,rfl,rfl,rfl,hp0,hr0,fun j hj=>by omega⟩
    clear hp0 hr0
    rintro k e s ⟨i,hik,k0,k2,k9,k10,⟨ms,hms⟩,hr,hb⟩
    simp only [k0,k2,k9,k10,kB,kZ,kD,kE,xl,xg,xk,xc,xd,xe,xf,xj,xi,xh,reduceIte,reduceCtorEq,xy,xw,xq]
    refine condO_intro ?_ ?_<;>intro hc
    case refine_2 =>
      have hi : i = 4:=by have:=of_decide_eq_false hc; omega
      subst hi
      simp only [k2,kB,kZ,kD,kE,xl,xg,xk,xc,xd,xe,xf,xj,xi,xh,reduceIte,reduceCtorEq,xy,xw,xq]
      exact ⟨⟨ms,hms⟩,hr,endP_miss hb⟩
    have hi : i < 4:=by have:=of_decide_eq_true hc; omega
    have hgs : ∀ L,GB (s++L):=fun L=>by rw [hms,List.append_assoc]; exact hg.app _
    have hrl:=(List.getElem?_eq_some_iff.1 hr).1
    have hstl : st.length≤s.length:=by rw [hms]; simp
    have w0 : IntKind.wrap .i64 (0 + 1) = 1:=rfl
    have w1 : IntKind.wrap .i64 (1 + 1) = 2:=rfl
    have w2 : IntKind.wrap .i64 (2 + 1) = 3:=rfl
    have w3 : IntKind.wrap .i64 (3 + 1) = 4:=rfl
    have hx : (glob_bireme_code_ends.drop (i * 2)).take 2 = [sA (endNm ((i : Int) + 1)),iA (endCnt i)]:=by
      match i,hi with
      | 0,_=>rfl
      | 1,_=>rfl
      | 2,_=>rfl
      | 3,_=>rfl
    have hcnt : endCnt i≤3:=by unfold endCnt; split<;>omega
    have h04 : (0 : Int)≤(i : Int):=by omega
    have h4 : (i : Int) < 4:=by omega
    have h8 : i * 2 + 2≤glob_bireme_code_ends.length:=by show _≤8; omega
    have hwi : IntKind.wrap .i64 ((i : Int) + 1) = ((i + 1 : Nat) : Int):=by rw [wrap_small (by omega) (by omega)]; omega
    simp only [k0,k2,k9,k10,h04,h4,h8,hx,and_self,kB,kZ,kD,kE,xl,xg,xk,xc,xd,xe,xf,xj,xi,xh,reduceIte,reduceCtorEq,xy,xw,xq]
    refine wpF.mono (w_code_headed h (hgs _) line (endNm ((i : Int) + 1)) hl (endCnt i) (by omega)) ?_
    rintro r S ⟨w,m,rfl,rfl,hown⟩
    refine ⟨kept_app _ _ _ _,?_⟩
    have hr1 : (s++[⟨[sA (endNm ((i : Int) + 1)),iA (endCnt i)],0,1⟩]++m)[rb]? = some ⟨[iA 0,iA 0,iA 0,iA 0],0,0⟩:=by
      rw [List.append_assoc,List.getElem?_append_left hrl]; exact hr
    have hms1 : ∃ k,s++[⟨[sA (endNm ((i : Int) + 1)),iA (endCnt i)],0,1⟩]++m = st++k:=⟨_,by rw [hms,List.append_assoc,List.append_assoc]⟩
    cases hP : headP line (endNm ((i : Int) + 1)) (endCnt i) with
    | none =>
      simp only [Option.isSome_none,k0,k2,k9,k10,hwi,kB,kZ,kD,kE,xl,xg,xk,xc,xd,xe,xf,xj,xi,xh,reduceIte,reduceCtorEq,xy,xw,xq]
      simp only [List.append_assoc,List.cons_append,List.nil_append] at hms1 hr1
      refine ⟨k - 1,by omega,i + 1,by omega,rfl,hms1,hr1,fun j hj=>?_⟩
      by_cases hji : j = i
      · subst hji; exact hP
      · exact hb j (by omega)
    | some n =>
      have hwn:=hown n hP
      clear hown
      have hE:=endP_hit hi hb hP
      obtain ⟨hnl,hnI⟩:=headP_len hP
      have hlo1 : (s++[⟨[sA (endNm ((i : Int) + 1)),iA (endCnt i)],0,1⟩] : St).length = s.length + 1:=by simp
      rw [hlo1] at hwn
      generalize s++[⟨[sA (endNm ((i : Int) + 1)),iA (endCnt i)],0,1⟩]++m = S1 at *
      obtain ⟨m1,hm1⟩:=hms1
      have hrl1:=(List.getElem?_eq_some_iff.1 hr1).1
      simp only [Option.isSome_some,k0,k2,k9,k10,hwi,kB,kZ,kD,kE,xl,xg,xk,xc,xd,xe,xf,xj,xi,xh,reduceIte,reduceCtorEq,xy,xw,xq]
      have hput : ∀ (L : St) (cells : List AV),cells.length = 4→cells.all AV.isCell = true→∃ S',St.put (S1++L) rb 0 cells = some S'∧St.atN S' rb 0 4 = some cells∧∃ m,S' = st++m:=fun L cells hcl hcc=>by
        obtain ⟨S',e1,e2,e3⟩:=put_whole (S:=S1++L) (by rw [List.getElem?_append_left hrl1]; exact hr1) (by rw [hcl]; rfl) hcc
        refine ⟨S',e1,?_,e3.ext ⟨m1++L,by rw [hm1,List.append_assoc]⟩ fun b hb e=>by omega⟩
        rw [atN_box e2 (by decide) 0 4 (by omega)]
        simp only [List.drop_zero,List.take_of_length_le (show cells.length≤4 by omega)]
      rw [hE]
      obtain ⟨b0,o0,g0,p0,_⟩:=ser_at hwn 0 (by rw [hnl]; unfold endCnt; split<;>omega)
      simp only [Int.natCast_zero] at g0
      rcases (show i = 0∨i = 1∨i = 2∨i = 3 by omega) with rfl | rfl | rfl | rfl
      · obtain ⟨S2,e1,e2,e3⟩:=hput [⟨[iA 1,iA 0,iA (n.getD 0 0),iA 0],0,2⟩] [iA 1,iA 0,iA (n.getD 0 0),iA 0] rfl rfl
        simp only [Int.reduceEq,Int.cast_ofNat_Int,k0,k2,g0,p0,e1,e2,kB,kZ,kD,kE,xl,xg,xk,xc,xd,xe,xf,xj,xi,xh,reduceIte,reduceCtorEq,xy,xw,xq]
        exact ⟨by rfl,e3⟩
      · have hnl3 : n.length = 3:=hnl
        obtain ⟨b1,o1,g1,p1,_⟩:=ser_at hwn 1 (by omega)
        obtain ⟨b2,o2,g2,p2,hb2⟩:=ser_at hwn 2 (by omega)
        simp only [Int.cast_ofNat_Int] at g1 g2
        obtain ⟨S2,e1,e2,e3⟩:=hput [⟨[iA 2,iA (n.getD 0 0),iA (n.getD 1 0),iA (n.getD 2 0)],0,4⟩] [iA 2,iA (n.getD 0 0),iA (n.getD 1 0),iA (n.getD 2 0)] rfl rfl
        simp only [Int.reduceEq,Int.cast_ofNat_Int,k0,k2,g0,p0,g1,p1,g2,p2,e1,e2,kB,kZ,kD,kE,xl,xg,xk,xc,xd,xe,xf,xj,xi,xh,reduceIte,reduceCtorEq,xy,xw,xq]
        exact ⟨kept_oneP (b:=b2) (o:=o2) rfl (by rw [List.getElem?_append_left hb2,List.getElem?_append_left hb2]),by rfl,e3⟩
      · obtain ⟨S2,e1,e2,e3⟩:=hput [⟨[iA 3,iA (n.getD 0 0),iA 0,iA 0],0,2⟩] [iA 3,iA (n.getD 0 0),iA 0,iA 0] rfl rfl
        simp only [Int.reduceEq,Int.cast_ofNat_Int,k0,k2,g0,p0,e1,e2,kB,kZ,kD,kE,xl,xg,xk,xc,xd,xe,xf,xj,xi,xh,reduceIte,reduceCtorEq,xy,xw,xq]
        exact ⟨by rfl,e3⟩
      · obtain ⟨S2,e1,e2,e3⟩:=hput [⟨[iA 4,iA (n.getD 0 0),iA 0,iA 0],0,2⟩] [iA 4,iA (n.getD 0 0),iA 0,iA 0] rfl rfl
        simp only [Int.reduceEq,Int.cast_ofNat_Int,k0,k2,g0,p0,e1,e2,kB,kZ,kD,kE,xl,xg,xk,xc,xd,xe,xf,xj,xi,xh,reduceIte,reduceCtorEq,xy,xw,xq]
        exact ⟨by rfl,e3⟩
  rintro e s ⟨k2,⟨m,hm⟩,hr,hE⟩
  obtain ⟨S',e1,e2,e3⟩:=put_whole hr (cells:=[iA 0,iA 0,iA 0,iA 0]) rfl rfl
  have e4 : St.atN S' rb 0 4 = some [iA 0,iA 0,iA 0,iA 0]:=by
    rw [atN_box e2 (by decide) 0 4 (by simp)]
    rfl
  rw [hE]
  simp only [k2,e1,e4,kB,kZ,kD,kE,xl,xg,xk,xc,xd,xe,xf,xj,xi,xh,reduceIte,reduceCtorEq,xy,xw,xq]
  exact ⟨by rfl,e3.ext ⟨m,hm⟩ fun b hb e=>by omega⟩
end
end Go.VX.Seat
end
section
set_option maxRecDepth 4000
namespace Go.VX.Seat
open Go.Proofs Go.Lib
def idxJ (w : List UInt8) : Int:=match idxK w with
  | some k=>k - 1
  | none=>-1
theorem nmJ_eq (j : Nat) : nameL.getD j ⟨#[]⟩ = ⟨(nmJ j).toArray⟩:=by
  unfold nmJ
  cases nameL.getD j ⟨#[]⟩
  rfl
theorem idxJ_hit {w : List UInt8} {i : Nat} (hi : i < 25) (h : nmJ i = w) : idxJ w = i:=by
  have ho : oneK ((i : Int) + 1) = true:=by unfold oneK; simp; omega
  have e : nmK ((i : Int) + 1) = w:=by rw [nmK_J ho,show ((i : Int) + 1 - 1).toNat = i by omega]; exact h
  unfold idxJ
  rw [←e,idxK_nm ho]
  show (i : Int) + 1 - 1 = i
  omega
theorem idxJ_miss {w : List UInt8} (h : ∀ j,j < 25→nmJ j≠w) : idxK w = none:=by
  unfold idxK
  have : ((List.range 25).find? fun j=>decide (nmJ j = w)) = none:=by
    rw [List.find?_eq_none]
    intro j hj
    simpa using h j (List.mem_range.1 hj)
  rw [this]
  rfl
section
variable {X : Cx} {st : St}
theorem j_readOp_c1 (h : OnH X) {lb lo hi ver : Nat} {v : AV} {w : List UInt8} {t : List (List UInt8)} (hb : st[lb]? = some ⟨[v],0,ver⟩) (hv : StrsAt st lo hi v (w :: t)) (u c : Int) (nm : List UInt8) :
    J X.P X.F X.H (.call 77 [.agg [iA u,iA c,sA nm],.ptr lb 0] st (.ret (bA (decide (nm = w)))) st):=by
  refine pure_intro (by rw [h.F]; rfl) rfl ?_
  have x0 : ∀ L,St.at1 (st++L) lb 0 = some v:=fun L=>by
    have h2 : (st++L)[lb]? = some ⟨[v],0,ver⟩:=by rw [List.getElem?_append_left (List.getElem?_eq_some_iff.1 hb).1]; exact hb
    exact at1_box h2 (by decide) 0
  obtain ⟨b1,o1,he1,hn1,ha1,_⟩:=hv.get 0 (by simp)
  have p1:=fun (L : St)=>ha1 L 0 (by omega)
  simp only [List.map_cons,List.getElem_cons_zero,Nat.add_zero,List.getElem?_cons_zero,Int.natCast_zero] at p1 he1
  have g1:=fun ox oy=>k_eq X.P ox oy nm w
  simp only [v_code_readOp_c1,x0,he1,p1,g1,kB,kZ,kD,kE,xl,xg,xk,xc,xd,xe,xf,xj,xi,xh,reduceIte,reduceCtorEq,xy,xw,xq]
  exact ⟨_,rfl⟩
theorem j_IndexFunc_form (h : OnH X) (hg : GB st) {lb lo hi ver : Nat} {f : Bool} {v : AV} {w : List UInt8} {t : List (List UInt8)} (hb : st[lb]? = some ⟨[v],0,ver⟩) (hv : StrsAt st lo hi v (w :: t)) :
    J X.P X.F X.H (.call 76 [.sl 0 0 25 3 f,.fn 77 [] [.ptr lb 0]] st (.ret (iA (idxJ w))) st):=by
  refine pure_intro (by rw [h.F]; rfl) rfl ?_
  have hf:=hg 0 formBox rfl
  simp only [v_slices_IndexFunc_form,kB,kZ,kD,kE,xl,xg,xk,xc,xd,xe,xf,xj,xi,xh,reduceIte,reduceCtorEq,xy,xw,xq]
  refine anyLoop (mB m0) (fun e s=>s = st++[]∧∀ j,j < 25→nmJ j≠w) ?_ ?_
  · refine loop_inv (fun k e s=>∃ i : Nat,i + k = 25∧s = st++[]∧e 0 = .sl 0 0 25 3 f∧e 1 = .fn 77 [] [.ptr lb 0]∧e 7 = iA 25∧e 8 = iA i∧∀ j,j < i→nmJ j≠w) ?_ 25 ?_
    case refine_2=>exact ⟨0,by omega,rfl,rfl,rfl,rfl,rfl,fun j hj=>by omega⟩
    rintro k e s ⟨i,hik,rfl,k0,k1,k7,k8,hb2⟩
    simp only [k0,k1,k7,k8,kB,kZ,kD,kE,xl,xg,xk,xc,xd,xe,xf,xj,xi,xh,reduceIte,reduceCtorEq,xy,xw,xq]
    refine condO_intro ?_ ?_<;>intro hc
    case refine_2 =>
      have hi : i = 25:=by have:=of_decide_eq_false hc; omega
      subst hi
      simp only [kB,kZ,kD,kE,xl,xg,xk,xc,xd,xe,xf,xj,xi,xh,reduceIte,reduceCtorEq,xy,xw,xq]
      exact hb2
    have hi : i < 25:=by have:=of_decide_eq_true hc; omega
    have hel : elemA (.sl 0 0 25 3 f) 3 (i : Int) = some (.ptr 0 (i * 3)):=by
      rw [elemA_sl,if_pos ⟨by omega,by omega,rfl⟩]
      simp
    have hld : ∀ L,St.atN (st++L) 0 (i * 3) 3 = some [iA (usesL.getD i 0),iA (classL.getD i 0),sA (nmJ i)]:=fun L=>by
      have hlen : formCells.length = 75:=rfl
      rw [atN_box (by rw [List.getElem?_append_left (List.getElem?_eq_some_iff.1 hf).1]; exact hf) (by decide) (i * 3) 3 (by rw [hlen]; omega)]
      have:=form_row i hi
      rw [Nat.zero_add,nmJ_eq] at this
      exact congrArg some this
    have hwi : IntKind.wrap .i64 ((i : Int) + 1) = ((i + 1 : Nat) : Int):=by rw [wrap_small (by omega) (by omega)]; omega
    simp only [k0,k1,k7,k8,hel,hld,kB,kZ,kD,kE,xl,xg,xk,xc,xd,xe,xf,xj,xi,xh,reduceIte,reduceCtorEq,xy,xw,xq]
    refine callO_same (j_readOp_c1 (st:=st++[]) h (by rw [List.append_nil]; exact hb) (by rw [List.append_nil]; exact hv) _ _ _) ?_
    simp only [k0,k1,k7,k8,kB,kZ,kD,kE,xl,xg,xk,xc,xd,xe,xf,xj,xi,xh,reduceIte,reduceCtorEq,xy,xw,xq]
    refine condO_intro ?_ ?_<;>intro hq
    · have he : nmJ i = w:=of_decide_eq_true hq
      rw [idxJ_hit hi he]
      simp only [kB,kZ,kD,kE,xl,xg,xk,xc,xd,xe,xf,xj,xi,xh,reduceIte,reduceCtorEq,xy,xw,xq]
      first | exact ⟨_,rfl⟩ | exact ⟨rfl,_,rfl⟩ | exact ⟨trivial,_,rfl⟩ | exact ⟨[],(List.append_nil _).symm⟩
    · have he : nmJ i≠w:=of_decide_eq_false hq
      simp only [k0,k1,k7,k8,hwi,kB,kZ,kD,kE,xl,xg,xk,xc,xd,xe,xf,xj,xi,xh,reduceIte,reduceCtorEq,xy,xw,xq]
      refine ⟨k - 1,by omega,i + 1,by omega,rfl,fun j hj=>?_⟩
      by_cases hji : j = i
      · subst hji; exact he
      · exact hb2 j (by omega)
  rintro e s ⟨rfl,hb2⟩
  have : idxJ w = -1:=by unfold idxJ; rw [idxJ_miss hb2]
  rw [this]
  simp only [kB,kZ,kD,kE,xl,xg,xk,xc,xd,xe,xf,xj,xi,xh,reduceIte,reduceCtorEq,xy,xw,xq]
  first | exact ⟨_,rfl⟩ | exact ⟨rfl,_,rfl⟩ | exact ⟨trivial,_,rfl⟩ | exact ⟨[],(List.append_nil _).symm⟩
end
end Go.VX.Seat
end
section
set_option maxRecDepth 4000
namespace Go.VX.Seat
open Go.Proofs Go.Lib
theorem cells_cell {a : AV} (h : a.isCell = true) : cellsOf a = [a]:=by
  cases a<;>first | rfl | (simp [AV.isCell] at h)
theorem nums_one (p : List UInt8) : nums [p] 1 = (readN p).map fun x=>[x]:=by
  unfold nums
  rw [if_pos (show [p].length = 1 from rfl),List.mapM_cons]
  cases readN p<;>rfl
theorem kept_oneQ {env : Env} {s s' : St} {x : VOpd} {b o : Nat} (hx : x.ev env = .ptr b o) (h : s'[b]? = s[b]?) : keptA env s s' [x] = true:=kept_oneP hx h
structure RO (st S : St) (rb ob lb : Nat) (o : List AV) (lv : AV) (ps : List (List UInt8)) : Prop where
  pre : ∃ k,S = st++k
  res : S[rb]? = some ⟨[iA 0,iA 0,iA 0,iA 0,iA 0,iA 0,iA 0],0,0⟩
  out : ∃ ver,S[ob]? = some ⟨o,0,ver⟩
  l : ∃ ver,S[lb]? = some ⟨[lv],0,ver⟩
  ord : st.length≤rb∧rb < ob∧ob < lb
  strs : ∃ lo hi,StrsAt S lo hi lv ps
  sep : ∀ b,boxOf lv = some b→ob < b∧b≠lb
section
variable {st S : St} {rb ob lb : Nat} {o : List AV} {lv : AV} {ps : List (List UInt8)}
theorem RO.lt (h : RO st S rb ob lb o lv ps) : lb < S.length:=let ⟨_,hb⟩:=h.l; (List.getElem?_eq_some_iff.1 hb).1
theorem RO.agree {X : Nat→Prop} {S' : St} (h : RO st S rb ob lb o lv ps) (ha : Agree X S S') (h1 : ∀ b,X b→b≠rb∧b≠ob∧b≠lb∧st.length≤b∧boxOf lv≠some b) : RO st S' rb ob lb o lv ps:=by
  obtain ⟨⟨k,hk⟩,hr,⟨v1,ho⟩,⟨v2,hl⟩,hord,⟨lo,hi,hs⟩,hsep⟩:=h
  refine ⟨ha.ext ⟨k,hk⟩ fun b hb hx=>(by have:=(h1 b hx).2.2.2.1; omega),ha.box hr fun hx=>(h1 _ hx).1 rfl,⟨v1,ha.box ho fun hx=>(h1 _ hx).2.1 rfl⟩,⟨v2,ha.box hl fun hx=>(h1 _ hx).2.2.1 rfl⟩,hord,⟨lo,hi,hs.agree ha fun b hb hx=>(h1 b hx).2.2.2.2 hb⟩,hsep⟩
theorem RO.app (h : RO st S rb ob lb o lv ps) (L : St) : RO st (S++L) rb ob lb o lv ps :=
  h.agree (Agree.app (fun _=>False) S L) fun _ hx=>hx.elim
theorem RO.gb (h : RO st S rb ob lb o lv ps) (hg : GB st) : GB S:=by
  obtain ⟨k,hk⟩:=h.pre
  rw [hk]
  exact hg.app k
theorem RO.l1 (h : RO st S rb ob lb o lv ps) (L : St) : St.at1 (S++L) lb 0 = some lv:=by
  obtain ⟨_,hb⟩:=(h.app L).l
  exact at1_box hb (by decide) 0
theorem RO.l0 (h : RO st S rb ob lb o lv ps) : St.at1 S lb 0 = some lv:=by
  obtain ⟨_,hb⟩:=h.l
  exact at1_box hb (by decide) 0
theorem RO.outN (h : RO st S rb ob lb o lv ps) (hl : o.length = 7) : St.atN S ob 0 7 = some o:=by
  obtain ⟨_,hb⟩:=h.out
  rw [atN_box hb (by decide) 0 7 (by omega)]
  simp only [List.drop_zero,List.take_of_length_le (show o.length≤7 by omega)]
theorem RO.put_out (h : RO st S rb ob lb o lv ps) (k : Nat) (hk : k < o.length) (a : AV) (hc : a.isCell = true) : ∃ S',S.put ob k [a] = some S'∧RO st S' rb ob lb (o.set k a) lv ps∧Agree (fun b=>b = ob) S S':=by
  obtain ⟨v1,ho⟩:=h.out
  obtain ⟨S',e1,e2,e3⟩:=put_one ho k hk a hc
  obtain ⟨⟨k0,hk0⟩,hr,_,⟨v2,hl⟩,hord,⟨lo,hi,hs⟩,hsep⟩:=h
  exact ⟨S',e1,⟨e3.ext ⟨k0,hk0⟩ fun b hb hx=>(by omega),e3.box hr (by omega),⟨_,e2⟩,⟨v2,e3.box hl (by omega)⟩,hord,⟨lo,hi,hs.agree e3 fun b hb hx=>(by have:=(hsep b hb).1; omega)⟩,hsep⟩,e3⟩
theorem RO.put_l (h : RO st S rb ob lb o lv ps) {lo hi : Nat} {w : AV} {qs : List (List UInt8)} (hw : StrsAt S lo hi w qs) (hb : boxOf w = boxOf lv) : ∃ S',S.put lb 0 [w] = some S'∧RO st S' rb ob lb o w qs∧Agree (fun b=>b = lb) S S':=by
  obtain ⟨v2,hl⟩:=h.l
  obtain ⟨S',e1,e2,e3⟩:=put_one hl 0 (by simp) w (isCell_len hw.len)
  obtain ⟨⟨k0,hk0⟩,hr,⟨v1,ho⟩,_,hord,_,hsep⟩:=h
  exact ⟨S',e1,⟨e3.ext ⟨k0,hk0⟩ fun b hb hx=>(by omega),e3.box hr (by omega),⟨v1,e3.box ho (by omega)⟩,⟨_,e2⟩,hord,⟨lo,hi,hw.agree e3 fun b hb' hx=>(hsep b (by rw [←hb]; exact hb')).2 hx⟩,fun b hb'=>hsep b (by rw [←hb]; exact hb')⟩,e3⟩
theorem RO.fin (h : RO st S rb ob lb o lv ps) (hl : o.length = 7) (hc : o.all AV.isCell = true) : ∃ S',S.put rb 0 o = some S'∧St.atN S' rb 0 7 = some o∧∃ m,S' = st++m:=by
  obtain ⟨S',e1,e2,e3⟩:=put_whole h.res (cells:=o) (by rw [hl]; rfl) hc
  obtain ⟨k0,hk0⟩:=h.pre
  refine ⟨S',e1,?_,e3.ext ⟨k0,hk0⟩ fun b hb hx=>(by have:=h.ord; omega)⟩
  rw [atN_box e2 (by decide) 0 7 (by omega)]
  simp only [List.drop_zero,List.take_of_length_le (show o.length≤7 by omega)]
theorem RO.word (h : RO st S rb ob lb o lv ps) (i : Nat) (hi : i < ps.length) : ∃ b k,elemA lv 1 (i : Int) = some (.ptr b k)∧∀ L,St.at1 (S++L) b k = some (sA (ps.getD i [])):=by
  obtain ⟨lo,hi',hs⟩:=h.strs
  obtain ⟨b1,o1,he1,hn1,ha1,_⟩:=hs.get i (by simpa using hi)
  refine ⟨b1,o1,he1,fun L=>?_⟩
  have p1:=ha1 L 0 (by omega)
  simp only [List.getElem_map,Nat.add_zero,List.getElem?_cons_zero] at p1
  rw [p1,List.getD_eq_getElem?_getD,List.getElem?_eq_getElem hi]
  rfl
theorem RO.len (h : RO st S rb ob lb o lv ps) : lenA lv = some ps.length:=by
  obtain ⟨lo,hi',hs⟩:=h.strs
  have:=hs.len
  simpa using this
end
theorem opR_cut {X : Cx} {K : Env→St→Post3→Prop} {Q : Post3} {d : Option Nat} {env : Env} {s : St} {lo hi esz l u : Nat} {x : VOpd} {ol oh : Option VOpd} {rows : List (List AV)} {vx : AV} (hx : ArrAt s lo hi vx esz rows) (ex : x.ev env = vx) (hl : bnd env 0 ol = some l) (hh : bnd env rows.length oh = some u) (h1 : l≤u) (h2 : u≤rows.length) (hne : rows≠[])
    (h : ∀ w,ArrAt s lo hi w esz ((rows.take u).drop l)→boxOf w = boxOf vx→K (env.put d w) s Q) : opR X K d [] env s Q (vop X.P (.slice none esz x ol oh none) env s):=by
  rw [v_slice,ex]
  rcases nil_or_sl hx.len with ⟨rfl,hz⟩ | ⟨b,o,e,f,rfl⟩
  · exact absurd (List.length_eq_zero_iff.1 hz) hne
  · obtain ⟨rfl,h0⟩:=hx.size _ _ _ _ _ rfl
    have hm : bnd env rows.length none = some rows.length:=rfl
    simp only [hl,hh,hm]
    rw [if_pos ⟨h1,h2,Nat.le_refl _,by simp,trivial⟩]
    refine ⟨keptA_nil _ _ _,h _ ⟨?_,?_,?_⟩ rfl⟩
    · simp only [lenA,List.length_drop,List.length_take]
      congr 1
      omega
    · intro b' o' len' e' full' q
      cases q
      refine ⟨rfl,?_⟩
      obtain ⟨b',o',f',q,_,_,hw⟩:=hx.whole hne
      cases q
      exact atN_lessS (hw rows.length (Nat.le_refl _)) (Nat.mul_le_mul_right _ (by omega))
    · intro i hi'
      simp only [List.length_drop,List.length_take] at hi'
      obtain ⟨b1,o1,q1,q2,q3,q4⟩:=hx.row (l + i) (by omega)
      obtain ⟨b',o',len',full',q,_,_,hp⟩:=elemA_inv q1
      cases q
      simp only [AV.ptr.injEq,Int.toNat_natCast] at hp
      obtain ⟨rfl,rfl⟩:=hp
      refine ⟨b1,o + (l + i) * e,?_,q2,q3,?_⟩
      · simp only [elemA,Int.toNat_natCast]
        rw [if_pos ⟨by omega,by omega,trivial⟩]
        congr 2
        rw [Nat.add_mul]
        omega
      · simpa using q4
def ptrR (ob j : Nat) : List (List AV):=(List.range j).map fun i=>[AV.ptr ob (2 + i)]
theorem ptrR_succ (ob j : Nat) : ptrR ob (j + 1) = ptrR ob j++[[AV.ptr ob (2 + j)]]:=by
  unfold ptrR
  rw [List.range_succ,List.map_append]
  rfl
def hasI (k : Int) (i : Nat) : Bool:=if i = 0 then hasA k else if i = 1 then hasB k else hasC k
def shI (i : Nat) : Int:=if i = 0 then 2 else if i = 1 then 4 else 8
def cI (k : Int) (i : Nat) : Nat:=(if 0 < i then b2 (hasA k) else 0) + (if 1 < i then b2 (hasB k) else 0) + (if 2 < i then b2 (hasC k) else 0)
theorem cI_succ (k : Int) {i : Nat} (hi : i < 3) : cI k (i + 1) = cI k i + b2 (hasI k i):=by
  match i,hi with
  | 0,_=>simp [cI,hasI]
  | 1,_=>simp [cI,hasI]
  | 2,_=>simp [cI,hasI]
theorem cI_full (k : Int) {i : Nat} (hi : i < 3) (h : hasI k i = true) : cI k i = i:=by
  obtain ⟨h1,h2⟩:=has_chain k
  match i,hi with
  | 0,_=>rfl
  | 1,_ =>
    have hb : hasB k = true:=h
    simp [cI,h1 hb,b2]
  | 2,_ =>
    have hc : hasC k = true:=h
    simp [cI,h2 hc,h1 (h2 hc),b2]
theorem b2_le (b : Bool) : b2 b≤1:=by cases b<;>decide
theorem cI_le (k : Int) (i : Nat) : cI k i≤3:=by
  have a:=b2_le (hasA k)
  have b:=b2_le (hasB k)
  have c:=b2_le (hasC k)
  unfold cI
  split<;>split<;>split<;>omega
theorem cnt_eq (k : Int) : cntK k = cI k 3 + b2 (hasN k):=rfl
def oR (k d g : Int) (n : List Int) (i : Nat) : List AV:=[iA k,iA d,iA (if 0 < i then n.getD 0 0 else 0),iA (if 1 < i then n.getD 1 0 else 0),iA (if 2 < i then n.getD 2 0 else 0),iA 0,iA g]
theorem oR_set (k d g : Int) (n : List Int) {i : Nat} (hi : i < 3) : (oR k d g n i).set (2 + i) (iA (n.getD i 0)) = oR k d g n (i + 1):=by
  match i,hi with
  | 0,_=>rfl
  | 1,_=>rfl
  | 2,_=>rfl
theorem oR_mk (k d g : Int) (n : List Int) : (oR k d g n (cI k 3)).set 5 (iA (if hasN k then n.getD (cntK k - 1) 0 else 0)) = (mkOp k g d n).row:=by
  obtain ⟨h1,h2⟩:=has_chain k
  unfold oR cI OpV.row mkOp
  generalize cntK k = z
  cases hA : hasA k<;>cases hB : hasB k<;>cases hC : hasC k
  all_goals first | rfl | (exfalso; simp_all; done)
theorem sh_i (P : Program) (t : TypeId) {i : Nat} (hi : i < 3) (ox oy : Operand) : closed P (do eqGuard .shl t ox oy (.int .i64 2) (.int .i64 (i : Int)); binOp .shl t (.int .i64 2) (.int .i64 (i : Int))) = some (.int .i64 (shI i)):=by
  match i,hi with
  | 0,_=>rfl
  | 1,_=>rfl
  | 2,_=>rfl
theorem bit_i {k : Int} (h : oneK k = true) {i : Nat} (hi : i < 3) : decide (andI (usesK k) (shI i)≠0) = hasI k i:=by
  obtain ⟨_,t2,t3,t4,_⟩:=bits h
  match i,hi with
  | 0,_=>exact t2
  | 1,_=>exact t3
  | 2,_=>exact t4
theorem c_neb (a b : Bool) (ox oy : Operand) : closed Tryd.prog (do eqGuard .neq 4 ox oy (.bool a) (.bool b); binOp .neq 4 (.bool a) (.bool b)) = some (.bool (a != b)):=by cases a<;>cases b<;>kernel_rfl
theorem opR_cell {X : Cx} {K : Env→St→Post3→Prop} {Q : Post3} {d : Option Nat} {env : Env} {s : St} {lo : Nat} {w a : AV} {rows : List (List AV)} {x y : VOpd} (h : OwnS s lo w 1 rows) (hlo : lo≤s.length) (hl : rows.length≤1000000) (ha : a.isCell = true) (ex : x.ev env = w) (ey : y.ev env = .sl s.length 0 1 1 true)
    (hK : ∀ w' s',Agree (fun b=>boxOf w = some b) s s'→OwnS s' lo w' 1 (rows++[[a]])→K (env.put d w') s' Q) :
    opR X K d [] env (s++[⟨[a],0,0⟩]) Q (vop X.P (.append 1 8 x y) env (s++[⟨[a],0,0⟩])):=by
  have hag0:=Agree.app (fun _=>False) s [⟨[a],0,0⟩]
  have h1 : OwnS (s++[⟨[a],0,0⟩]) lo w 1 rows:=h.agree hag0 fun _ _ y=>y
  have hrow : ArrAt (s++[⟨[a],0,0⟩]) s.length (s.length + 1) (.sl s.length 0 1 1 true) 1 [[a]]:=ArrAt.ofBox (mode:=0) (ver:=0) (by simp) (by decide) (fun r hr=>by rw [List.mem_singleton.1 hr]; rfl) rfl
  refine opR_append (vx:=w) (vy:=.sl s.length 0 1 1 true) (rows:=rows) (rows2:=[[a]]) (lo:=lo) ex ey h1 (by simp; omega) hrow (by simp; omega) (by simp [ha]) ?_
  intro w' s' hag hown hcase
  exact ⟨keptA_nil _ _ _,hK w' s' ((hag0.trans hag).mono fun n _ y=>y.elim (fun y=>y.elim) fun y=>y.2) hown⟩
theorem RO.step {st S S' : St} {rb ob lb fb lo : Nat} {o F : List AV} {vf : Nat} {lv w : AV} {ps : List (List UInt8)} {rows : List (List AV)} (h : RO st S rb ob lb o lv ps) (hf : S[fb]? = some ⟨F,0,vf⟩) (hw : OwnS S lo w 1 rows) (hlo : lb < lo∧fb < lo∧∀ b,boxOf lv = some b→b < lo) (ha : Agree (fun b=>boxOf w = some b) S S') : RO st S' rb ob lb o lv ps∧S'[fb]? = some ⟨F,0,vf⟩:=by
  have hb : ∀ b,boxOf w = some b→lo≤b:=fun b hb=>(hw.bnd b hb).1
  have hord:=h.ord
  refine ⟨h.agree ha fun b hx=>?_,ha.box hf fun hx=>by have:=hb _ hx; omega⟩
  have h1:=hb b hx
  exact ⟨by omega,by omega,by omega,by omega,fun e=>by have:=hlo.2.2 b e; omega⟩
end Go.VX.Seat
end
section
set_option maxRecDepth 4000
namespace Go.VX.Seat
open Go.Proofs Go.Lib
section
variable {X : Cx} {st : St}
set_option maxHeartbeats 4000000 in
theorem w_code_readOp (h : OnH X) (hg : GB st) (line : List UInt8) (hl : line.length≤2500000) :
    wpF X 64 [sA line] st fun r s=>∃ o : OpV,r = .ret (.tup [.agg o.row,bA (opP line).isSome])∧(∀ x,opP line = some x→o = x)∧∃ m,s = st++m:=by
  refine wpF_go (fn:=v_code_readOp) (by rw [h.F]; rfl) ?_
  simp only [v_code_readOp,kB,kZ,kD,kE,xl,xg,xk,xc,xd,xe,xf,xj,xi,xh,reduceIte,reduceCtorEq,xy,xw,xq]
  refine wpF.mono (w_Split h 32 line (by omega)) ?_
  rintro r S ⟨v,m,hi,rfl,rfl,ha⟩
  refine ⟨kept_app _ _ _ _,?_⟩
  have hpl:=spl_le 32 line
  have hcl:=spl_len 32 line
  have hcc:=List.count_le_length (a:=(32 : UInt8)) (l:=line)
  have hvc:=isCell_len ha.len
  obtain ⟨p0,pt,hsp⟩:=spl_cons 32 line
  rw [hsp] at ha hpl hcl
  have hbv : ∀ b,boxOf v = some b→st.length + 1 < b∧b < st.length + (m.length + 1 + 1):=fun b hb=>by
    obtain ⟨b1,o1,he1,hb1,hb2,_⟩:=ha.row 0 (by simp)
    obtain ⟨b',o',len',full',rfl,_,_,hp⟩:=elemA_inv he1
    cases hb
    cases hp
    have:=ha.boxlt rfl
    simp only [List.length_append,List.length_cons,List.length_nil] at hb1 this
    omega
  have hcv:=cells_cell hvc
  have hRO : RO st (st++(⟨[iA 0,iA 0,iA 0,iA 0,iA 0,iA 0,iA 0],0,0⟩ :: ⟨[iA 0,iA 0,iA 0,iA 0,iA 0,iA 0,iA (-1)],0,1⟩ :: (m++[⟨[v],0,1⟩]))) (st.length + 0) (st.length + 1) (st.length + (m.length + 1 + 1)) [iA 0,iA 0,iA 0,iA 0,iA 0,iA 0,iA (-1)] v (p0 :: pt):=by
    have hm:=ha.mono [⟨[v],0,1⟩]
    simp only [List.append_assoc,List.cons_append,List.nil_append] at hm
    exact ⟨⟨_,rfl⟩,by simp,⟨1,by simp⟩,⟨1,by simp⟩,⟨by omega,by omega,by omega⟩,⟨_,_,hm⟩,fun b hb=>⟨by have:=(hbv b hb).1; omega,by have:=(hbv b hb).2; omega⟩⟩
  have hoP : opP line = opG tailP (p0 :: pt):=by unfold opP; rw [show spl line = p0 :: pt from hsp]
  rw [hoP]
  simp only [hvc,hcv,kB,kZ,kD,kE,xl,xg,xk,xc,xd,xe,xf,xj,xi,xh,reduceIte,reduceCtorEq,xy,xw,xq]
  clear ha hbv hsp hoP hvc hcv
  generalize (st++(⟨[iA 0,iA 0,iA 0,iA 0,iA 0,iA 0,iA 0],0,0⟩ :: ⟨[iA 0,iA 0,iA 0,iA 0,iA 0,iA 0,iA (-1)],0,1⟩ :: (m++[⟨[v],0,1⟩])) : St) = S at *
  generalize st.length + 0 = rb at *
  generalize st.length + 1 = ob at *
  generalize st.length + (m.length + 1 + 1) = lb at *
  obtain ⟨b0,o0,he0,hp0⟩:=hRO.word 0 (by simp)
  have hln:=hRO.len
  have d1:=fun ox oy=>k_eq X.P ox oy p0 [63]
  have l0:=hRO.l0
  have hw0 : St.at1 S b0 o0 = some (sA p0):=by simpa using hp0 []
  simp only [Int.natCast_zero] at he0
  simp only [l0,he0,hw0,d1,kB,kZ,kD,kE,xl,xg,xk,xc,xd,xe,xf,xj,xi,xh,reduceIte,reduceCtorEq,xy,xw,xq]
  have hno : ∀ {q : Option OpV},q = none→∀ (y x : OpV),q = some x→y = x:=fun e y x h=>by rw [e] at h; cases h
  have hgw : ∀ x : Int,([iA 0,iA 0,iA 0,iA 0,iA 0,iA 0,iA x] : List AV) = (⟨0,0,0,0,0,0,x⟩ : OpV).row:=fun _=>rfl
  refine anyG (mS m0) (fun e s=>∃ (g : Int) (lv : AV) (qs : List (List UInt8)),e 2 = .ptr rb 0∧e 4 = .ptr ob 0∧e 5 = .ptr lb 0∧RO st s rb ob lb [iA 0,iA 0,iA 0,iA 0,iA 0,iA 0,iA g] lv qs∧qs≠[]∧opG tailP (p0 :: pt) = dstG (tailP g) qs∧(∀ p ∈ qs,p.length≤line.length)∧qs.length≤line.length + 1) ?_ ?_
  · cases hq : decide (p0 = [63])
    · have hne : p0≠[63]:=of_decide_eq_false hq
      simp only [hq,kB,kZ,kD,kE,xl,xg,xk,xc,xd,xe,xf,xj,xi,xh,reduceIte,reduceCtorEq,xy,xw,xq]
      refine ⟨-1,v,p0 :: pt,hRO,by simp,?_,hpl,by omega⟩
      unfold opG
      rw [if_neg (by simp [hne])]
    have he : p0 = [63]:=of_decide_eq_true hq
    simp only [hq,l0,hln,kB,kZ,kD,kE,xl,xg,xk,xc,xd,xe,xf,xj,xi,xh,reduceIte,reduceCtorEq,xy,xw,xq]
    refine condO_intro ?_ ?_<;>intro hc
    case refine_2 =>
      have hlt : ¬ 2 < (p0 :: pt).length:=by have:=of_decide_eq_false hc; simp only [List.length_cons] at this ⊢; omega
      simp only [kB,kZ,kD,kE,xl,xg,xk,xc,xd,xe,xf,xj,xi,xh,reduceIte,reduceCtorEq,xy,xw,xq]
      refine ⟨-1,v,p0 :: pt,hRO,by simp,?_,hpl,by omega⟩
      unfold opG
      rw [if_neg (by simp only [not_and]; intro h; exact absurd h hlt)]
    have hlt : 2 < (p0 :: pt).length:=by have:=of_decide_eq_true hc; simp only [List.length_cons] at this ⊢; omega
    match pt,hlt with
    | p1 :: p2 :: r,_ =>
    obtain ⟨slo,shi,hss⟩:=hRO.strs
    have hop : opG tailP (p0 :: p1 :: p2 :: r) = match readN p1 with
        | some g=>if g = -1 then none else dstG (tailP g) (p2 :: r)
        | none=>none:=by
      unfold opG
      rw [if_pos ⟨by simp,by simp [he]⟩]
      rfl
    have hl1:=hpl p1 (by simp)
    simp only [l0,kB,kZ,kD,kE,xl,xg,xk,xc,xd,xe,xf,xj,xi,xh,reduceIte,reduceCtorEq,xy,xw,xq]
    refine opR_cut (l:=1) (u:=2) hss (by simp only [kB,kZ,kD,kE,xl,xg,xk,xc,xd,xe,xf,xj,xi,xh,reduceIte,reduceCtorEq,xy,xw,xq]) rfl rfl (by omega) (by simp) (by simp) ?_
    intro w hw hbw
    simp only [List.map_cons,List.take_succ_cons,List.take_zero,List.drop_succ_cons,List.drop_zero] at hw
    simp only [kB,kZ,kD,kE,xl,xg,xk,xc,xd,xe,xf,xj,xi,xh,reduceIte,reduceCtorEq,xy,xw,xq]
    refine wpF.mono (w_code_numbers (ws:=[p1]) h (hRO.gb hg) hw (fun p hp=>by rw [List.mem_singleton.1 hp]; omega) (by simp) 1 (by omega)) ?_
    rintro r1 S1 ⟨w2,m2,rfl,rfl,hw2⟩
    refine ⟨kept_app _ _ _ _,?_⟩
    have hR2:=hRO.app m2
    have hlo2:=hRO.lt
    have hord:=hRO.ord
    rw [nums_one] at hw2 ⊢
    have o2:=hR2.outN rfl
    obtain ⟨S3,f1,f2,f3⟩:=hR2.fin rfl rfl
    have l2:=hR2.l0
    cases hr : readN p1 with
    | none =>
      rw [hr] at hop
      dsimp only at hop
      simp only [Option.map_none,Option.isSome_none,o2,f1,f2,kB,kZ,kD,kE,xl,xg,xk,xc,xd,xe,xf,xj,xi,xh,reduceIte,reduceCtorEq,xy,xw,xq]
      exact ⟨⟨0,0,0,0,0,0,-1⟩,by rw [hop]; rfl,hno hop _,f3⟩
    | some g =>
      rw [hr] at hop
      dsimp only at hop
      have hw3:=hw2 [g] (by rw [hr]; rfl)
      obtain ⟨b3,o3,g3,p3,hb3⟩:=ser_at hw3 0 (by simp)
      have p3:=p3 []
      simp only [List.append_nil,List.getD_cons_zero] at p3
      simp only [Int.natCast_zero] at g3
      simp only [Option.map_some,Option.isSome_some,g3,p3,kB,kZ,kD,kE,xl,xg,xk,xc,xd,xe,xf,xj,xi,xh,reduceIte,reduceCtorEq,xy,xw,xq]
      refine condO_intro ?_ ?_<;>intro hc2
      · have hg1 : g = -1:=of_decide_eq_true hc2
        rw [if_pos hg1] at hop
        simp only [o2,f1,f2,kB,kZ,kD,kE,xl,xg,xk,xc,xd,xe,xf,xj,xi,xh,reduceIte,reduceCtorEq,xy,xw,xq]
        exact ⟨⟨0,0,0,0,0,0,-1⟩,by rw [hop]; rfl,hno hop _,f3⟩
      have hg1 : g≠-1:=of_decide_eq_false hc2
      rw [if_neg hg1] at hop
      clear f1 f2 f3 S3
      obtain ⟨slo2,shi2,hss2⟩:=hR2.strs
      simp only [g3,p3,l2,kB,kZ,kD,kE,xl,xg,xk,xc,xd,xe,xf,xj,xi,xh,reduceIte,reduceCtorEq,xy,xw,xq]
      refine opR_cut (l:=2) (u:=(p0 :: p1 :: p2 :: r).length) hss2 (by simp only [kB,kZ,kD,kE,xl,xg,xk,xc,xd,xe,xf,xj,xi,xh,reduceIte,reduceCtorEq,xy,xw,xq]) rfl (by simp [bnd]) (by simp) (by simp) (by simp) ?_
      intro w3 hw3' hbw3
      have hd3 : ((List.map (fun p=>[sA p]) (p0 :: p1 :: p2 :: r)).take (p0 :: p1 :: p2 :: r).length).drop 2 = rowsS (p2 :: r):=by
        rw [List.take_of_length_le (by simp)]
        rfl
      rw [hd3] at hw3'
      obtain ⟨S4,e4,hR4,hag4⟩:=hR2.put_out 6 (by simp) (iA g) rfl
      have hw4:=hw3'.agree hag4 fun b hb hx=>by
        rw [hbw3] at hb
        have:=(hR2.sep b hb).1
        omega
      obtain ⟨S5,e5,hR5,hag5⟩:=hR4.put_l hw4 hbw3
      have hc3:=isCell_len hw3'.len
      have hcw:=cells_cell hc3
      have hk4 : S4[lb]? = (S++m2)[lb]?:=hag4.eq lb (by have:=hR2.lt; omega) (by omega)
      simp only [e4,e5,hcw,kB,kZ,kD,kE,xl,xg,xk,xc,xd,xe,xf,xj,xi,xh,reduceIte,reduceCtorEq,xy,xw,xq]
      exact ⟨kept_oneQ (b:=lb) (o:=0) rfl hk4,g,w3,p2 :: r,hR5,by simp,hop,fun p hp=>hpl p (by simp only [List.mem_cons] at hp ⊢; exact .inr (.inr hp)),by simp only [List.length_cons] at hcl ⊢; omega⟩
  clear hRO hpl hcl hcc he0 d1 l0 hw0 hp0 hln
  rintro e s ⟨g,lv,qs,k2,k4,k5,hRO,hqne,hop,hpl,hql⟩
  rw [hop]
  clear hop p0 pt
  have hln:=hRO.len
  have l0:=hRO.l0
  simp only [k2,k4,k5,l0,hln,kB,kZ,kD,kE,xl,xg,xk,xc,xd,xe,xf,xj,xi,xh,reduceIte,reduceCtorEq,xy,xw,xq]
  refine anyG m0 (fun e s'=>s' = s∧e 2 = .ptr rb 0∧e 4 = .ptr ob 0∧e 5 = .ptr lb 0∧e 8 = bA (decide (2 < qs.length∧qs.getD 1 [] = [61]))) ?_ ?_
  · cases hq : decide ((2 : Int) < (qs.length : Int))
    · have : decide (2 < qs.length∧qs.getD 1 [] = [61]) = false:=decide_eq_false (by have:=of_decide_eq_false hq; omega)
      simp only [hq,this,k2,k4,k5,kB,kZ,kD,kE,xl,xg,xk,xc,xd,xe,xf,xj,xi,xh,reduceIte,reduceCtorEq,xy,xw,xq]
    · have hlt : 2 < qs.length:=by have:=of_decide_eq_true hq; omega
      have : decide (2 < qs.length∧qs.getD 1 [] = [61]) = decide (qs.getD 1 [] = [61]):=by simp [hlt]
      obtain ⟨b1,o1,he1,hp1⟩:=hRO.word 1 (by omega)
      have d1:=fun ox oy=>k_eq X.P ox oy (qs.getD 1 []) [61]
      have hw1 : St.at1 s b1 o1 = some (sA (qs.getD 1 [])):=by simpa using hp1 []
      simp only [Int.cast_ofNat_Int] at he1
      simp only [hq,this,k2,k4,k5,l0,he1,hw1,d1,kB,kZ,kD,kE,xl,xg,xk,xc,xd,xe,xf,xj,xi,xh,reduceIte,reduceCtorEq,xy,xw,xq]
  clear k2 k4 k5
  rintro e s' ⟨rfl,k2,k4,k5,k8⟩
  simp only [k2,k4,k5,k8,kB,kZ,kD,kE,xl,xg,xk,xc,xd,xe,xf,xj,xi,xh,reduceIte,reduceCtorEq,xy,xw,xq]
  refine anyCond m0 (fun e s=>∃ (d : Int) (dst : Bool) (lv : AV) (w : List UInt8) (t : List (List UInt8)),e 2 = .ptr rb 0∧e 4 = .ptr ob 0∧e 5 = .ptr lb 0∧e 8 = bA dst∧RO st s rb ob lb [iA 0,iA d,iA 0,iA 0,iA 0,iA 0,iA g] lv (w :: t)∧dstG (tailP g) qs = tailP g d dst (w :: t)∧(∀ p ∈ t,p.length≤line.length)∧t.length≤line.length) ?_ ?_
  · refine condO_intro ?_ ?_<;>intro hc
    case refine_2 =>
      have hd : dstG (tailP g) qs = tailP g 0 false qs:=by unfold dstG; rw [if_neg (of_decide_eq_false hc)]
      match qs,hqne,hc,hd with
      | w :: t,_,hc,hd =>
      simp only [k2,k4,k5,k8,hc,kB,kZ,kD,kE,xl,xg,xk,xc,xd,xe,xf,xj,xi,xh,reduceIte,reduceCtorEq,xy,xw,xq]
      exact ⟨0,false,lv,w,t,congrArg bA hc,hRO,hd,fun p hp=>hpl p (List.mem_cons_of_mem _ hp),by simp only [List.length_cons] at hql; omega⟩
    have hc':=of_decide_eq_true hc
    match qs,hqne,hc',hc with
    | p0 :: p1 :: p2 :: r,_,hc',hc =>
    obtain ⟨slo,shi,hss⟩:=hRO.strs
    have hop : dstG (tailP g) (p0 :: p1 :: p2 :: r) = match readN p0 with
        | some d=>tailP g d true (p2 :: r)
        | none=>none:=by
      unfold dstG
      rw [if_pos hc']
      rfl
    have hl1:=hpl p0 (by simp)
    simp only [k2,k4,k5,l0,kB,kZ,kD,kE,xl,xg,xk,xc,xd,xe,xf,xj,xi,xh,reduceIte,reduceCtorEq,xy,xw,xq]
    refine opR_cut (l:=0) (u:=1) hss (by simp only [kB,kZ,kD,kE,xl,xg,xk,xc,xd,xe,xf,xj,xi,xh,reduceIte,reduceCtorEq,xy,xw,xq]) rfl rfl (by omega) (by simp) (by simp) ?_
    intro w hw hbw
    simp only [List.map_cons,List.take_succ_cons,List.take_zero,List.drop_zero] at hw
    simp only [kB,kZ,kD,kE,xl,xg,xk,xc,xd,xe,xf,xj,xi,xh,reduceIte,reduceCtorEq,xy,xw,xq]
    refine wpF.mono (w_code_numbers (ws:=[p0]) h (hRO.gb hg) hw (fun p hp=>by rw [List.mem_singleton.1 hp]; omega) (by simp) 1 (by omega)) ?_
    rintro r1 S1 ⟨w2,m2,rfl,rfl,hw2⟩
    refine ⟨kept_app _ _ _ _,?_⟩
    have hR2:=hRO.app m2
    have hlo2:=hRO.lt
    have hord:=hRO.ord
    rw [nums_one] at hw2 ⊢
    have o2:=hR2.outN rfl
    obtain ⟨S3,f1,f2,f3⟩:=hR2.fin rfl rfl
    have l2:=hR2.l0
    cases hr : readN p0 with
    | none =>
      rw [hr] at hop
      dsimp only at hop
      simp only [Option.map_none,Option.isSome_none,k2,k4,k5,o2,f1,f2,kB,kZ,kD,kE,xl,xg,xk,xc,xd,xe,xf,xj,xi,xh,reduceIte,reduceCtorEq,xy,xw,xq]
      exact ⟨⟨0,0,0,0,0,0,g⟩,by rw [hop]; rfl,hno hop _,f3⟩
    | some d =>
      rw [hr] at hop
      dsimp only at hop
      have hw3:=hw2 [d] (by rw [hr]; rfl)
      obtain ⟨b3,o3,g3,p3,hb3⟩:=ser_at hw3 0 (by simp)
      have p3:=p3 []
      simp only [List.append_nil,List.getD_cons_zero] at p3
      simp only [Int.natCast_zero] at g3
      clear f1 f2 f3 S3
      obtain ⟨slo2,shi2,hss2⟩:=hR2.strs
      simp only [Option.map_some,Option.isSome_some,k2,k4,k5,g3,p3,l2,kB,kZ,kD,kE,xl,xg,xk,xc,xd,xe,xf,xj,xi,xh,reduceIte,reduceCtorEq,xy,xw,xq]
      refine opR_cut (l:=2) (u:=(p0 :: p1 :: p2 :: r).length) hss2 (by simp only [kB,kZ,kD,kE,xl,xg,xk,xc,xd,xe,xf,xj,xi,xh,reduceIte,reduceCtorEq,xy,xw,xq]) rfl (by simp [bnd]) (by simp) (by simp) (by simp) ?_
      intro w3 hw3' hbw3
      have hd3 : ((List.map (fun p=>[sA p]) (p0 :: p1 :: p2 :: r)).take (p0 :: p1 :: p2 :: r).length).drop 2 = rowsS (p2 :: r):=by
        rw [List.take_of_length_le (by simp)]
        rfl
      rw [hd3] at hw3'
      obtain ⟨S4,e4,hR4,hag4⟩:=hR2.put_out 1 (by simp) (iA d) rfl
      have hw4:=hw3'.agree hag4 fun b hb hx=>by
        rw [hbw3] at hb
        have:=(hR2.sep b hb).1
        omega
      obtain ⟨S5,e5,hR5,hag5⟩:=hR4.put_l hw4 hbw3
      have hc3:=isCell_len hw3'.len
      have hcw:=cells_cell hc3
      have hk4 : S4[lb]? = (s'++m2)[lb]?:=hag4.eq lb (by have:=hR2.lt; omega) (by omega)
      simp only [k2,k4,k5,k8,hc,e4,e5,hcw,kB,kZ,kD,kE,xl,xg,xk,xc,xd,xe,xf,xj,xi,xh,reduceIte,reduceCtorEq,xy,xw,xq]
      exact ⟨kept_oneQ (b:=lb) (o:=0) (by simp only [k5,kB,kZ,kD,kE,xl,xg,xk,xc,xd,xe,xf,xj,xi,xh,reduceIte,reduceCtorEq,xy,xw,xq]) hk4,d,true,w3,p2,r,congrArg bA hc,hR5,hop,fun p hp=>hpl p (by simp only [List.mem_cons]; exact .inr (.inr (.inr hp))),by simp only [List.length_cons] at hql; omega⟩
  clear k2 k4 k5 k8 hRO hln l0
  rintro e s ⟨d,dst,lv,w,t,k2,k4,k5,k8,hRO,hop,hpl2,htl⟩
  rw [hop]
  clear hop hpl hqne hql
  have l0:=hRO.l0
  obtain ⟨slo,shi,hss⟩:=hRO.strs
  obtain ⟨vl,hlb⟩:=hRO.l
  have hgs:=hRO.gb hg
  simp only [k2,k4,k5,k8,kB,kZ,kD,kE,xl,xg,xk,xc,xd,xe,xf,xj,xi,xh,reduceIte,reduceCtorEq,xy,xw,xq]
  have hf:=hgs 0 formBox rfl
  have hsl : vop X.P (.slice (some 25) 3 (.glo 0) none none none) e s = some (.val (.sl 0 0 25 3 true),s):=by
    have h75 : St.atN s 0 0 75 = some formCells:=by
      rw [atN_box hf (by decide) 0 75 (by decide)]
      rfl
    rw [v_slice]
    show (if (0 : Nat)≤25∧25≤25∧25≤25∧_∧(St.atN s 0 0 (25 * 3)).isSome = true then _ else _) = _
    rw [if_pos ⟨by omega,by omega,by omega,by simp,by rw [show 25 * 3 = 75 from rfl,h75]; rfl⟩]
    rfl
  rw [hsl]
  simp only [k2,k4,k5,k8,kB,kZ,kD,kE,xl,xg,xk,xc,xd,xe,xf,xj,xi,xh,reduceIte,reduceCtorEq,xy,xw,xq]
  refine callO_same (j_IndexFunc_form h hgs hlb hss) ?_
  simp only [k2,k4,k5,k8,kB,kZ,kD,kE,xl,xg,xk,xc,xd,xe,xf,xj,xi,xh,reduceIte,reduceCtorEq,xy,xw,xq]
  clear hsl
  have o2:=hRO.outN rfl
  obtain ⟨S3,f1,f2,f3⟩:=hRO.fin rfl rfl
  unfold tailP
  dsimp only
  cases hk : idxK w with
  | none =>
    have : idxJ w = -1:=by unfold idxJ; rw [hk]
    simp only [this,k2,k4,k5,k8,o2,f1,f2,kB,kZ,kD,kE,xl,xg,xk,xc,xd,xe,xf,xj,xi,xh,reduceIte,reduceCtorEq,xy,xw,xq]
    exact ⟨⟨0,d,0,0,0,0,g⟩,rfl,fun x hx=>hx.elim,f3⟩
  | some k =>
    obtain ⟨ho,hnm⟩:=idxK_some hk
    have hkb:=oneK_bnd ho
    have hj : idxJ w = ((k - 1).toNat : Int):=by unfold idxJ; rw [hk]; show k - 1 = _; omega
    have hlt0 : decide (((k - 1).toNat : Int) < 0) = false:=decide_eq_false (by omega)
    have h04 : (0 : Int)≤((k - 1).toNat : Int):=by omega
    have h25 : ((k - 1).toNat : Int) < 25:=by omega
    have hwk : IntKind.wrap .i64 (((k - 1).toNat : Int) + 1) = k:=by rw [wrap_small (by omega) (by omega)]; omega
    obtain ⟨t1,t2,t3,t4,_,_,_,_⟩:=bits ho
    have t240:=b240 ho
    have hld : ∀ L,St.atN (s++L) 0 ((k - 1).toNat * 3) 3 = some [iA (usesK k),iA (classK k),sA (nmK k)]:=fun L=>by
      have hlen : formCells.length = 75:=rfl
      rw [atN_box (by rw [List.getElem?_append_left (List.getElem?_eq_some_iff.1 hf).1]; exact hf) (by decide) ((k - 1).toNat * 3) 3 (by rw [hlen]; omega)]
      have:=form_row (k - 1).toNat (by omega)
      rw [Nat.zero_add,nmJ_eq] at this
      rw [this,nmK_J ho]
      unfold usesK classK
      rw [if_pos ho,if_pos ho]
    have hld0:=hld []
    rw [List.append_nil] at hld0
    simp only [hj,hlt0,h04,h25,hwk,hld0,k2,k4,k5,k8,kB,kZ,kD,kE,xl,xg,xk,xc,xd,xe,xf,xj,xi,xh,reduceIte,reduceCtorEq,xy,xw,xq]
    have hR1:=hRO.app [⟨[iA (usesK k),iA (classK k),sA (nmK k)],0,1⟩]
    obtain ⟨S1,e1,hR,hag1⟩:=hR1.put_out 0 (by simp) (iA k) rfl
    replace hR : RO st S1 rb ob lb [iA k,iA d,iA 0,iA 0,iA 0,iA 0,iA g] lv (w :: t):=hR
    have hfb0 : (s++[⟨[iA (usesK k),iA (classK k),sA (nmK k)],0,1⟩])[s.length]? = some ⟨[iA (usesK k),iA (classK k),sA (nmK k)],0,1⟩:=by simp
    have hlbs:=hRO.lt
    have hord:=hRO.ord
    have hfb:=hag1.box hfb0 (by omega)
    have hlvb : ∀ b,boxOf lv = some b→b < s.length:=fun b hb=>hss.boxlt hb
    have hsl : s.length + 1≤S1.length:=by have:=hag1.len; simpa using this
    simp only [e1,k2,k4,k5,k8,kB,kZ,kD,kE,xl,xg,xk,xc,xd,xe,xf,xj,xi,xh,reduceIte,reduceCtorEq,xy,xw,xq]
    clear e1 hag1 hR1 hRO hss hlb l0 o2 f1 f2 f3 hld hld0 hfb0 hgs hf
    generalize s.length = fb at *
    generalize hlo0 : fb + 1 = lo at *
    have hlo : lb < lo∧fb < lo∧∀ b,boxOf lv = some b→b < lo:=⟨by omega,by omega,fun b hb=>by have:=hlvb b hb; omega⟩
    have x0 : ∀ o,St.at1 S1 fb o = ([iA (usesK k),iA (classK k),sA (nmK k)] : List AV)[o]?:=fun o=>at1_box hfb (by decide) o
    have o2:=hR.outN rfl
    obtain ⟨S3,f1,f2,f3⟩:=hR.fin rfl rfl
    have cn:=fun ox oy=>c_neb dst (hasDst k) ox oy
    rw [←h.P] at cn
    simp only [k2,k4,k5,k8,x0,c_and,t1,cn,kB,kZ,kD,kE,xl,xg,xk,xc,xd,xe,xf,xj,xi,xh,reduceIte,reduceCtorEq,xy,xw,xq]
    refine condO_intro ?_ ?_<;>intro hcd
    · have hne : dst≠hasDst k:=by simpa using hcd
      rw [if_neg hne]
      simp only [k2,k4,k5,k8,o2,f1,f2,kB,kZ,kD,kE,xl,xg,xk,xc,xd,xe,xf,xj,xi,xh,reduceIte,reduceCtorEq,xy,xw,xq]
      exact ⟨⟨k,d,0,0,0,0,g⟩,rfl,fun x hx=>hx.elim,f3⟩
    have heq : dst = hasDst k:=by simpa using hcd
    rw [if_pos heq]
    clear f1 f2 f3 S3 o2 hcd cn
    simp only [k2,k4,k5,k8,kB,kZ,kD,kE,xl,xg,xk,xc,xd,xe,xf,xj,xi,xh,reduceIte,reduceCtorEq,xy,xw,xq]
    refine anyLoop (mB m0) (fun e s=>∃ v13,e 2 = .ptr rb 0∧e 4 = .ptr ob 0∧e 5 = .ptr lb 0∧e 12 = .ptr fb 0∧e 13 = v13∧RO st s rb ob lb [iA k,iA d,iA 0,iA 0,iA 0,iA 0,iA g] lv (w :: t)∧s[fb]? = some ⟨[iA (usesK k),iA (classK k),sA (nmK k)],0,1⟩∧OwnS s lo v13 1 (ptrR ob (cI k 3))∧lo≤s.length) ?_ ?_
    · refine loop_inv (fun n e s=>∃ (i : Nat) (v13 : AV),i + n = 3∧e 2 = .ptr rb 0∧e 4 = .ptr ob 0∧e 5 = .ptr lb 0∧e 12 = .ptr fb 0∧e 13 = v13∧e 101 = .agg [.ptr ob 2,.ptr ob 3,.ptr ob 4]∧e 102 = iA i∧RO st s rb ob lb [iA k,iA d,iA 0,iA 0,iA 0,iA 0,iA g] lv (w :: t)∧s[fb]? = some ⟨[iA (usesK k),iA (classK k),sA (nmK k)],0,1⟩∧OwnS s lo v13 1 (ptrR ob (cI k i))∧lo≤s.length) ?_ 3 ?_
      case refine_2=>exact ⟨0,_,by omega,by simp only [k2,kB,kZ,kD,kE,xl,xg,xk,xc,xd,xe,xf,xj,xi,xh,reduceIte,reduceCtorEq,xy,xw,xq],by simp only [k4,kB,kZ,kD,kE,xl,xg,xk,xc,xd,xe,xf,xj,xi,xh,reduceIte,reduceCtorEq,xy,xw,xq],by simp only [k5,kB,kZ,kD,kE,xl,xg,xk,xc,xd,xe,xf,xj,xi,xh,reduceIte,reduceCtorEq,xy,xw,xq],rfl,rfl,rfl,rfl,hR,hfb,own_nil _ _ _,hsl⟩
      clear hR hfb hsl k2 k4 k5 k8 x0
      rintro n e s ⟨i,v13,hin,k2,k4,k5,k12,k13,k101,k102,hR,hfb,hown,hsl⟩
      simp only [k2,k4,k5,k12,k13,k101,k102,kB,kZ,kD,kE,xl,xg,xk,xc,xd,xe,xf,xj,xi,xh,reduceIte,reduceCtorEq,xy,xw,xq]
      refine condO_intro ?_ ?_<;>intro hc3
      case refine_2 =>
        have hi : i = 3:=by have:=of_decide_eq_false hc3; omega
        subst hi
        simp only [k2,k4,k5,k12,k13,kB,kZ,kD,kE,xl,xg,xk,xc,xd,xe,xf,xj,xi,xh,reduceIte,reduceCtorEq,xy,xw,xq]
        exact ⟨hR,hfb,hown,hsl⟩
      have hi : i < 3:=by have:=of_decide_eq_true hc3; omega
      have hidx : ([.ptr ob 2,.ptr ob 3,.ptr ob 4] : List AV)[i]? = some (.ptr ob (2 + i)):=by
        match i,hi with
        | 0,_=>rfl
        | 1,_=>rfl
        | 2,_=>rfl
      have h03 : (0 : Int)≤(i : Int):=by omega
      have h3 : (i : Int) < 3:=by omega
      have hsh:=fun ox oy=>sh_i X.P 3 hi ox oy
      have hbi:=bit_i ho hi
      have hcs:=cI_succ k hi
      have hwi : IntKind.wrap .i64 ((i : Int) + 1) = ((i + 1 : Nat) : Int):=by rw [wrap_small (by omega) (by omega)]; omega
      have hci:=cI_le k i
      have x0 : ∀ o,St.at1 s fb o = ([iA (usesK k),iA (classK k),sA (nmK k)] : List AV)[o]?:=fun o=>at1_box hfb (by decide) o
      simp only [k2,k4,k5,k12,k13,k101,k102,h03,h3,hidx,x0,hsh,c_and,hbi,kB,kZ,kD,kE,xl,xg,xk,xc,xd,xe,xf,xj,xi,xh,reduceIte,reduceCtorEq,xy,xw,xq]
      refine condO_intro ?_ ?_<;>intro hc4
      · have hfull:=cI_full k hi hc4
        simp only [k2,k4,k5,k12,k13,k101,k102,kB,kZ,kD,kE,xl,xg,xk,xc,xd,xe,xf,xj,xi,xh,reduceIte,reduceCtorEq,xy,xw,xq]
        refine opR_cell (a:=.ptr ob (2 + i)) hown hsl (by unfold ptrR; simp; omega) rfl (by simp only [k13,kB,kZ,kD,kE,xl,xg,xk,xc,xd,xe,xf,xj,xi,xh,reduceIte,reduceCtorEq,xy,xw,xq]) (by simp only [kB,kZ,kD,kE,xl,xg,xk,xc,xd,xe,xf,xj,xi,xh,reduceIte,reduceCtorEq,xy,xw,xq]) ?_
        intro w' s' hag hown'
        obtain ⟨hR',hf'⟩:=hR.step hfb hown hlo hag
        simp only [k2,k4,k5,k12,k13,k101,k102,hwi,kB,kZ,kD,kE,xl,xg,xk,xc,xd,xe,xf,xj,xi,xh,reduceIte,reduceCtorEq,xy,xw,xq]
        refine ⟨n - 1,by omega,i + 1,w',by omega,rfl,rfl,hR',hf',?_,Nat.le_trans hsl hag.len⟩
        rw [hcs,hc4]
        show OwnS s' lo w' 1 (ptrR ob (cI k i + 1))
        rw [ptrR_succ,hfull] at *
        exact hown'
      · simp only [k2,k4,k5,k12,k13,k101,k102,hwi,kB,kZ,kD,kE,xl,xg,xk,xc,xd,xe,xf,xj,xi,xh,reduceIte,reduceCtorEq,xy,xw,xq]
        refine ⟨n - 1,by omega,i + 1,v13,by omega,rfl,rfl,hR,hfb,?_,hsl⟩
        rw [hcs,hc4]
        exact hown
    clear hR hfb hsl k2 k4 k5 k8 x0
    rintro e s ⟨v13,k2,k4,k5,k12,k13,hR,hfb,hown,hsl⟩
    have x0 : ∀ o,St.at1 s fb o = ([iA (usesK k),iA (classK k),sA (nmK k)] : List AV)[o]?:=fun o=>at1_box hfb (by decide) o
    have hlen13 : lenA v13 = some (cI k 3):=by
      have:=hown.arr.len
      simpa [ptrR] using this
    simp only [k2,k4,k5,k12,k13,x0,hlen13,c_and,t240,kB,kZ,kD,kE,xl,xg,xk,xc,xd,xe,xf,xj,xi,xh,reduceIte,reduceCtorEq,xy,xw,xq]
    have hc3:=cI_le k 3
    refine anyCond m0 (fun e s'=>s' = s∧e 2 = .ptr rb 0∧e 4 = .ptr ob 0∧e 5 = .ptr lb 0∧e 13 = v13∧e 16 = iA (cntK k)) ?_ ?_
    · have hwc : IntKind.wrap .i64 ((cI k 3 : Int) + 1) = ((cI k 3 + 1 : Nat) : Int):=by rw [wrap_small (by omega) (by omega)]; omega
      refine condO_intro ?_ ?_<;>intro hcn<;>have hcn : hasN k = _:=hcn
      · have e1 : cntK k = cI k 3 + 1:=by rw [cnt_eq,hcn]; rfl
        simp only [k2,k4,k5,k12,k13,hwc,e1,kB,kZ,kD,kE,xl,xg,xk,xc,xd,xe,xf,xj,xi,xh,reduceIte,reduceCtorEq,xy,xw,xq]
      · have e1 : cntK k = cI k 3:=by rw [cnt_eq,hcn]; rfl
        simp only [k2,k4,k5,k12,k13,e1,kB,kZ,kD,kE,xl,xg,xk,xc,xd,xe,xf,xj,xi,xh,reduceIte,reduceCtorEq,xy,xw,xq]
    clear k2 k4 k5 k12 k13 x0
    rintro e s' ⟨rfl,k2,k4,k5,k13,k16⟩
    have hcnt : cntK k≤4:=by have:=b2_le (hasN k); rw [cnt_eq]; omega
    have l0:=hR.l0
    obtain ⟨slo2,shi2,hss⟩:=hR.strs
    simp only [k2,k4,k5,k13,k16,l0,kB,kZ,kD,kE,xl,xg,xk,xc,xd,xe,xf,xj,xi,xh,reduceIte,reduceCtorEq,xy,xw,xq]
    refine opR_sufS (n:=1) (by simp only [kB,kZ,kD,kE,xl,xg,xk,xc,xd,xe,xf,xj,xi,xh,reduceIte,reduceCtorEq,xy,xw,xq]) rfl hss (by simp) ?_
    intro w3 hw3 _
    simp only [List.map_cons,List.drop_succ_cons,List.drop_zero] at hw3
    simp only [k2,k4,k5,k13,k16,kB,kZ,kD,kE,xl,xg,xk,xc,xd,xe,xf,xj,xi,xh,reduceIte,reduceCtorEq,xy,xw,xq]
    refine wpF.mono (w_code_numbers h (hR.gb hg) hw3 (fun p hp=>by have:=hpl2 p hp; omega) (by omega) (cntK k) (by omega)) ?_
    rintro r1 S1 ⟨wn,m2,rfl,rfl,hwn⟩
    refine ⟨kept_app _ _ _ _,?_⟩
    have hR2:=hR.app m2
    have hown2:=own_frame hown m2
    have o2:=hR2.outN rfl
    obtain ⟨S3,f1,f2,f3⟩:=hR2.fin rfl rfl
    cases hn : nums t (cntK k) with
    | none =>
      simp only [Option.map_none,Option.isSome_none,k2,k4,k5,k13,k16,o2,f1,f2,kB,kZ,kD,kE,xl,xg,xk,xc,xd,xe,xf,xj,xi,xh,reduceIte,reduceCtorEq,xy,xw,xq]
      exact ⟨⟨k,d,0,0,0,0,g⟩,rfl,fun x hx=>hx.elim,f3⟩
    | some n =>
      have hwn:=hwn n hn
      obtain ⟨_,hnl,hnI⟩:=nums_some hn
      clear f1 f2 f3 S3 o2
      have hlo2 : lo≤s'.length:=hsl
      generalize hlo2' : s'.length = lo2 at *
      have hsl2 : lo2≤(s'++m2).length:=by simp; omega
      generalize s'++m2 = S2 at *
      simp only [Option.map_some,Option.isSome_some,k2,k4,k5,k13,k16,hlen13,kB,kZ,kD,kE,xl,xg,xk,xc,xd,xe,xf,xj,xi,xh,reduceIte,reduceCtorEq,xy,xw,xq]
      refine anyLoop (mB m0) (fun e s=>e 2 = .ptr rb 0∧e 4 = .ptr ob 0∧e 13 = v13∧e 16 = iA (cntK k)∧e 17 = wn∧RO st s rb ob lb (oR k d g n (cI k 3)) lv (w :: t)∧OwnS s lo2 wn 1 (rowsI n)) ?_ ?_
      · refine loop_inv (fun nn e s=>∃ (i : Nat),i + nn = cI k 3∧e 2 = .ptr rb 0∧e 4 = .ptr ob 0∧e 13 = v13∧e 16 = iA (cntK k)∧e 17 = wn∧e 135 = v13∧e 136 = iA (cI k 3 : Nat)∧e 137 = iA i∧RO st s rb ob lb (oR k d g n i) lv (w :: t)∧OwnS s lo v13 1 (ptrR ob (cI k 3))∧OwnS s lo2 wn 1 (rowsI n)) ?_ (cI k 3) ?_
        case refine_2=>exact ⟨0,by omega,by simp only [k2,kB,kZ,kD,kE,xl,xg,xk,xc,xd,xe,xf,xj,xi,xh,reduceIte,reduceCtorEq,xy,xw,xq],by simp only [k4,kB,kZ,kD,kE,xl,xg,xk,xc,xd,xe,xf,xj,xi,xh,reduceIte,reduceCtorEq,xy,xw,xq],by simp only [k13,kB,kZ,kD,kE,xl,xg,xk,xc,xd,xe,xf,xj,xi,xh,reduceIte,reduceCtorEq,xy,xw,xq],by simp only [k16,kB,kZ,kD,kE,xl,xg,xk,xc,xd,xe,xf,xj,xi,xh,reduceIte,reduceCtorEq,xy,xw,xq],rfl,rfl,rfl,rfl,hR2,hown2,hwn⟩
        clear hR2 hown2 hwn k2 k4 k5 k13 k16
        rintro nn e s ⟨i,hin,k2,k4,k13,k16,k17,k135,k136,k137,hR2,hown2,hwn⟩
        simp only [k2,k4,k13,k16,k17,k135,k136,k137,kB,kZ,kD,kE,xl,xg,xk,xc,xd,xe,xf,xj,xi,xh,reduceIte,reduceCtorEq,xy,xw,xq]
        refine condO_intro ?_ ?_<;>intro hc5
        case refine_2 =>
          have hi : i = cI k 3:=by have:=of_decide_eq_false hc5; omega
          subst hi
          simp only [k2,k4,k13,k16,k17,kB,kZ,kD,kE,xl,xg,xk,xc,xd,xe,xf,xj,xi,xh,reduceIte,reduceCtorEq,xy,xw,xq]
          exact ⟨hR2,hwn⟩
        have hi : i < cI k 3:=by have:=of_decide_eq_true hc5; omega
        obtain ⟨bp,op,gp,_,pp,_⟩:=hown2.arr.get i (by simpa [ptrR] using hi)
        have pp:=pp [] 0 (by omega)
        simp only [List.append_nil,ptrR,List.getElem_map,List.getElem_range,Nat.add_zero,List.getElem?_cons_zero] at pp
        obtain ⟨bn,on,gn,pn,_⟩:=ser_at hwn i (by rw [hnl,cnt_eq]; omega)
        have pn:=pn []
        simp only [List.append_nil] at pn
        obtain ⟨S4,e4,hR4,hag4⟩:=hR2.put_out (2 + i) (by unfold oR; simp; omega) (iA (n.getD i 0)) rfl
        rw [oR_set _ _ _ _ (by omega)] at hR4
        have hwi : IntKind.wrap .i64 ((i : Int) + 1) = ((i + 1 : Nat) : Int):=by rw [wrap_small (by omega) (by omega)]; omega
        simp only [k2,k4,k13,k16,k17,k135,k136,k137,gp,pp,gn,pn,e4,hwi,kB,kZ,kD,kE,xl,xg,xk,xc,xd,xe,xf,xj,xi,xh,reduceIte,reduceCtorEq,xy,xw,xq]
        exact ⟨nn - 1,by omega,i + 1,by omega,rfl,hR4,hown2.agree hag4 fun b hb hx=>by have:=(hown2.bnd b hb).1; omega,hwn.agree hag4 fun b hb hx=>by have:=(hwn.bnd b hb).1; omega⟩
      clear hR2 hown2 hwn k2 k4 k5 k13 k16
      rintro e s ⟨k2,k4,k13,k16,k17,hR2,hwn⟩
      have hlt : decide ((cI k 3 : Int) < (cntK k : Int)) = hasN k:=by
        rw [cnt_eq]
        cases hasN k
        · exact decide_eq_false (by simp [b2])
        · exact decide_eq_true (by simp only [b2,if_true]; omega)
      simp only [k2,k4,k13,k16,k17,hlen13,hlt,kB,kZ,kD,kE,xl,xg,xk,xc,xd,xe,xf,xj,xi,xh,reduceIte,reduceCtorEq,xy,xw,xq]
      refine anyCond m0 (fun e s=>e 2 = .ptr rb 0∧e 4 = .ptr ob 0∧RO st s rb ob lb (mkOp k g d n).row lv (w :: t)) ?_ ?_
      · refine condO_intro ?_ ?_<;>intro hc6<;>have hc6 : hasN k = _:=hc6
        · have hpos : 1≤cntK k:=by rw [cnt_eq,hc6]; simp [b2]
          have hw1 : IntKind.wrap .i64 ((cntK k : Int) - 1) = ((cntK k - 1 : Nat) : Int):=by rw [wrap_small (by omega) (by omega)]; omega
          obtain ⟨bn,on,gn,pn,_⟩:=ser_at hwn (cntK k - 1) (by omega)
          have pn:=pn []
          simp only [List.append_nil] at pn
          obtain ⟨S4,e4,hR4,hag4⟩:=hR2.put_out 5 (by unfold oR; simp) (iA (n.getD (cntK k - 1) 0)) rfl
          have hmk:=oR_mk k d g n
          rw [if_pos hc6] at hmk
          rw [hmk] at hR4
          simp only [k2,k4,k13,k16,k17,hw1,gn,pn,e4,kB,kZ,kD,kE,xl,xg,xk,xc,xd,xe,xf,xj,xi,xh,reduceIte,reduceCtorEq,xy,xw,xq]
          exact hR4
        · have hmk:=oR_mk k d g n
          rw [if_neg (by rw [hc6]; decide)] at hmk
          have : (oR k d g n (cI k 3)).set 5 (iA 0) = oR k d g n (cI k 3):=rfl
          rw [this] at hmk
          rw [hmk] at hR2
          simp only [k2,k4,kB,kZ,kD,kE,xl,xg,xk,xc,xd,xe,xf,xj,xi,xh,reduceIte,reduceCtorEq,xy,xw,xq]
          exact hR2
      clear hR2 hwn k2 k4 k13 k16 k17
      rintro e s ⟨k2,k4,hR2⟩
      have o2:=hR2.outN rfl
      obtain ⟨S3,f1,f2,f3⟩:=hR2.fin rfl rfl
      clear hR2
      generalize mkOp k g d n = oo at *
      obtain ⟨k',d',a',b',c',n',g'⟩:=oo
      simp only [OpV.row] at o2 f1 f2
      simp only [k2,k4,o2,f1,f2,kB,kZ,kD,kE,xl,xg,xk,xc,xd,xe,xf,xj,xi,xh,reduceIte,reduceCtorEq,xy,xw,xq]
      exact ⟨⟨k',d',a',b',c',n',g'⟩,rfl,fun x hx=>hx,f3⟩
end
end Go.VX.Seat
end
section
set_option maxRecDepth 4000
namespace Go.VX.Seat
open Go.Proofs
def UBox (sz bl : AV) (f : Nat→AV) (n b : Nat) : Prop:=boxOf sz = some b∨boxOf bl = some b∨∃ j,j < n∧boxOf (f j) = some b
theorem OwnB.agree' {X : Nat→Prop} {s s' : St} {lo : Nat} {bl : AV} {f : Nat→AV} {l : List BlkV} (h : OwnB s lo bl f l) (ha : Agree X s s') (hx : ∀ b,boxOf bl = some b→¬ X b) (hx2 : ∀ j,j < l.length→∀ b,boxOf (f j) = some b→¬ X b) : OwnB s' lo bl f l where
  own:=h.own.agree ha hx
  box:=h.box.agree ha hx
  ops:=fun i hi=>(h.ops i hi).agree ha (hx2 i hi)
  sep1:=h.sep1
  sep2:=h.sep2
structure UPtr (s : St) (ub lo : Nat) (sz bl : AV) (f : Nat→AV) (U : UnitV) : Prop where
  box : ∃ ver,s[ub]? = some ⟨[sz,iA U.params,iA U.regs,iA U.code,iA U.spill,bl],0,ver⟩
  sep : ¬ UBox sz bl f U.blocks.length ub
  z : OwnZ s lo sz bl f U.sizes U.blocks
  b : OwnB s lo bl f U.blocks
theorem UPtr.lt {s : St} {ub lo : Nat} {sz bl : AV} {f : Nat→AV} {U : UnitV} (h : UPtr s ub lo sz bl f U) : ub < s.length:=let ⟨_,hb⟩:=h.box; (List.getElem?_eq_some_iff.1 hb).1
theorem UPtr.agree {X : Nat→Prop} {s s' : St} {ub lo : Nat} {sz bl : AV} {f : Nat→AV} {U : UnitV} (h : UPtr s ub lo sz bl f U) (ha : Agree X s s') (h1 : ¬ X ub) (h2 : ∀ b,UBox sz bl f U.blocks.length b→b < s.length→¬ X b) : UPtr s' ub lo sz bl f U :=
  let ⟨ver,hb⟩:=h.box
  ⟨⟨ver,ha.box hb h1⟩,h.sep,⟨h.z.own.agree ha fun b hb=>h2 b (.inl hb) (h.z.own.bnd b hb).2,h.z.sep⟩,h.b.agree' ha (fun b hb=>h2 b (.inr (.inl hb)) (h.b.own.bnd b hb).2) (fun j hj b hb=>h2 b (.inr (.inr ⟨j,hj,hb⟩)) ((h.b.ops j hj).bnd b hb).2)⟩
theorem UPtr.regs {s : St} {ub lo : Nat} {sz bl : AV} {f : Nat→AV} {U : UnitV} (h : UPtr s ub lo sz bl f U) (r : Int) :
    ∃ s',s.put ub 2 [iA r] = some s'∧Agree (fun n=>n = ub) s s'∧UPtr s' ub lo sz bl f { U with regs:=r }:=by
  obtain ⟨ver,hbx⟩:=h.box
  have hput:=put_box (o:=2) (vs:=[iA r]) hbx (by simp) rfl
  refine ⟨_,hput,Agree.set _ _ _,⟨⟨ver + 1,by rw [List.getElem?_set_self (List.getElem?_eq_some_iff.1 hbx).1]; rfl⟩,h.sep,⟨h.z.own.agree (Agree.set _ _ _) (fun b hb e=>?_),h.z.sep⟩,h.b.agree' (Agree.set _ _ _) (fun b hb e=>?_) (fun j hj b hb e=>?_)⟩⟩
  · exact h.sep (.inl (e ▸ hb))
  · exact h.sep (.inr (.inl (e ▸ hb)))
  · exact h.sep (.inr (.inr ⟨j,hj,e ▸ hb⟩))
theorem UPtr.addops {X : Nat→Prop} {s s1 : St} {ub lo : Nat} {sz bl w : AV} {f : Nat→AV} {U : UnitV} (h : UPtr s ub lo sz bl f U) (i : Nat) (hi : i < U.blocks.length) (l2 : List OpV) (ha : Agree X s s1) (hX : ∀ n,n < s.length→X n→boxOf (f i) = some n)
    (hw : OwnS s1 lo w 7 ((U.blocks[i].ops++l2).map OpV.row)) (hwn : w = f i∨boxOf w = some s.length) :
    ∃ bb s2,boxOf bl = some bb∧elemA bl 6 (i : Int) = some (.ptr bb (i * 6))∧s1.put bb (i * 6 + 0) [w] = some s2∧Agree (fun n=>X n∨n = bb) s s2∧UPtr s2 ub lo sz bl (fun j=>if j = i then w else f j) { U with blocks:=U.blocks.set i { U.blocks[i] with ops:=U.blocks[i].ops++l2 } }:=by
  obtain ⟨ver,hb⟩:=h.box
  have hub:=(List.getElem?_eq_some_iff.1 hb).1
  have hXub : ¬ X ub:=fun hx=>h.sep (.inr (.inr ⟨i,hi,hX ub hub hx⟩))
  have hbl1 : ∀ b,boxOf bl = some b→¬ X b:=fun b hb hx=>h.b.sep1 i hi b hb (hX b (h.b.own.bnd b hb).2 hx)
  have hB1:=h.b.own.agree ha hbl1
  have hE1:=h.b.box.agree ha hbl1
  obtain ⟨bb,s2,hbb,hel,hput,hag,hB2,hE2⟩:=own_setops hB1 hE1 i hi (U.blocks[i].ops++l2) (isCell_len hw.arr.len)
  have hbb0:=h.b.own.bnd bb hbb
  have hbu : bb≠ub:=fun e=>h.sep (by rw [←e]; exact .inr (.inl hbb))
  have hwb : ∀ n,boxOf w = some n→boxOf (f i) = some n∨n = s.length:=fun n hn=>by
    rcases hwn with rfl | h1
    · exact .inl hn
    · rw [h1] at hn; cases hn; exact .inr rfl
  have hwbb : ∀ n,boxOf w = some n→n≠bb:=fun n hn e=>by
    subst e
    rcases hwb _ hn with h1 | h1
    · exact h.b.sep1 i hi _ hbb h1
    · omega
  have hlen : ∀ (j : Nat),j < (U.blocks.set i { U.blocks[i] with ops:=U.blocks[i].ops++l2 }).length→j < U.blocks.length:=fun j hj=>by simpa using hj
  have hboxj : ∀ j,j < U.blocks.length→∀ n,boxOf (if j = i then w else f j) = some n→boxOf (f j) = some n∨(j = i∧n = s.length):=fun j hj n hn=>by
    by_cases hji : j = i
    · subst hji
      rw [if_pos rfl] at hn
      rcases hwb n hn with h1 | h1
      · exact .inl h1
      · exact .inr ⟨rfl,h1⟩
    · rw [if_neg hji] at hn
      exact .inl hn
  refine ⟨bb,s2,hbb,hel,hput,ha.trans hag,⟨⟨ver,hag.box (ha.box hb hXub) (fun e=>hbu e.symm)⟩,fun hx=>?_,⟨?_,fun b hbz=>⟨(h.z.sep b hbz).1,fun j hj hjb=>?_⟩⟩,⟨hB2,hE2,fun j hj=>?_,fun j hj b hbl hjb=>?_,fun j k hj hk hjk b hjb hkb=>?_⟩⟩⟩
  · rcases hx with hx | hx | ⟨j,hj,hx⟩
    · exact h.sep (.inl hx)
    · exact h.sep (.inr (.inl hx))
    · rcases hboxj j (hlen j hj) _ hx with h1 | ⟨_,h1⟩
      · exact h.sep (.inr (.inr ⟨j,hlen j hj,h1⟩))
      · omega
  · refine (h.z.own.agree ha fun b hbz hx=>?_).agree hag fun b hbz hx=>?_
    · exact (h.z.sep b hbz).2 i hi (hX b (h.z.own.bnd b hbz).2 hx)
    · subst hx; exact (h.z.sep _ hbz).1 hbb
  · rcases hboxj j (hlen j hj) b hjb with h1 | ⟨_,h1⟩
    · exact (h.z.sep b hbz).2 j (hlen j hj) h1
    · have:=(h.z.own.bnd b hbz).2
      omega
  · have hj':=hlen j hj
    simp only [List.getElem_set]
    by_cases hji : i = j
    · subst hji
      simp only [if_true]
      exact hw.agree hag fun b hb=>hwbb b hb
    · have hij : ¬ j = i:=fun e=>hji e.symm
      simp only [hji,hij,if_false]
      refine ((h.b.ops j hj').agree ha fun b hb hx=>?_).agree hag fun b hb hx=>?_
      · exact h.b.sep2 j i hj' hi (fun e=>hji e.symm) b hb (hX b ((h.b.ops j hj').bnd b hb).2 hx)
      · subst hx; exact h.b.sep1 j hj' _ hbb hb
  · rw [hbb] at hbl
    cases hbl
    rcases hboxj j (hlen j hj) _ hjb with h1 | ⟨_,h1⟩
    · exact h.b.sep1 j (hlen j hj) _ hbb h1
    · omega
  · have hj':=hlen j hj
    have hk':=hlen k hk
    rcases hboxj j hj' b hjb with h1 | ⟨h1,h1'⟩<;>rcases hboxj k hk' b hkb with h2 | ⟨h2,h2'⟩
    · exact h.b.sep2 j k hj' hk' hjk b h1 h2
    · have:=((h.b.ops j hj').bnd b h1).2
      omega
    · have:=((h.b.ops k hk').bnd b h2).2
      omega
    · omega
theorem UPtr.setend {s : St} {ub lo : Nat} {sz bl : AV} {f : Nat→AV} {U : UnitV} (h : UPtr s ub lo sz bl f U) (i : Nat) (hi : i < U.blocks.length) (e : EndV) :
    ∃ bb s2,boxOf bl = some bb∧elemA bl 6 (i : Int) = some (.ptr bb (i * 6))∧s.put bb (i * 6 + 1) [iA e.k,iA e.a,iA e.t,iA e.e] = some s2∧Agree (fun n=>n = bb) s s2∧UPtr s2 ub lo sz bl f { U with blocks:=U.blocks.set i { U.blocks[i] with e:=e } }:=by
  obtain ⟨ver,hb⟩:=h.box
  obtain ⟨bb,s2,hbb,hel,hput,hag,hB2,hE2⟩:=own_setend h.b.own h.b.box i hi e
  have hbu : bb≠ub:=fun e=>h.sep (by rw [←e]; exact .inr (.inl hbb))
  have hlen : ∀ (j : Nat),j < (U.blocks.set i { U.blocks[i] with e:=e }).length→j < U.blocks.length:=fun j hj=>by simpa using hj
  refine ⟨bb,s2,hbb,hel,hput,hag,⟨⟨ver,hag.box hb (fun e=>hbu e.symm)⟩,(by simpa using h.sep),⟨?_,fun b hbz=>⟨(h.z.sep b hbz).1,fun j hj hjb=>(h.z.sep b hbz).2 j (hlen j hj) hjb⟩⟩,⟨hB2,hE2,fun j hj=>?_,fun j hj b hbl hjb=>h.b.sep1 j (hlen j hj) b hbl hjb,fun j k hj hk hjk b hjb hkb=>h.b.sep2 j k (hlen j hj) (hlen k hk) hjk b hjb hkb⟩⟩⟩
  · exact h.z.own.agree hag fun b hbz hx=>(by subst hx; exact (h.z.sep _ hbz).1 hbb)
  · have hj':=hlen j hj
    have:=(h.b.ops j hj').agree hag fun b hb hx=>(by subst hx; exact h.b.sep1 j hj' _ hbb hb)
    simp only [List.getElem_set]
    by_cases hji : i = j
    · subst hji
      simpa using this
    · simpa [hji] using this
theorem UPtr.own {s : St} {ub lo : Nat} {sz bl : AV} {f : Nat→AV} {U : UnitV} (h : UPtr s ub lo sz bl f U) : OwnU s lo (.agg [sz,iA U.params,iA U.regs,iA U.code,iA U.spill,bl]) U:=⟨sz,bl,f,rfl,h.z,h.b⟩
theorem UPtr.row {s : St} {ub lo : Nat} {sz bl : AV} {f : Nat→AV} {U : UnitV} (h : UPtr s ub lo sz bl f U) (x : Nat) (hx : x < U.blocks.length) {bb : Nat} (hbb : boxOf bl = some bb) :
    elemA bl 6 (x : Int) = some (.ptr bb (x * 6))∧lo≤bb∧bb < s.length∧St.at1 s bb (x * 6 + 0) = some (f x)∧St.at1 s bb (x * 6 + 1 + 1) = some (iA U.blocks[x].e.a)∧St.at1 s bb (x * 6 + 1 + 2) = some (iA U.blocks[x].e.t)∧St.at1 s bb (x * 6 + 1 + 3) = some (iA U.blocks[x].e.e):=by
  obtain ⟨bb',s2,hbb',hel,_⟩:=h.setend x hx U.blocks[x].e
  rw [hbb] at hbb'
  cases hbb'
  obtain ⟨b1,o1,he1,hn1,ha1,_⟩:=h.b.own.arr.get x (by rw [blkRows_length]; exact hx)
  rw [hel] at he1
  cases he1
  rw [blkRows_get _ _ _ hx] at ha1
  have a : ∀ k,k < 6→St.at1 s bb (x * 6 + k) = (U.blocks[x].row (f x))[k]?:=fun k hk=>by simpa using ha1 [] k hk
  have h0:=h.b.own.bnd bb hbb
  exact ⟨hel,h0.1,h0.2,a 0 (by omega),by rw [Nat.add_assoc]; exact a 2 (by omega),by rw [Nat.add_assoc]; exact a 3 (by omega),by rw [Nat.add_assoc]; exact a 4 (by omega)⟩
theorem UPtr.cells {s : St} {ub lo : Nat} {sz bl : AV} {f : Nat→AV} {U : UnitV} (h : UPtr s ub lo sz bl f U) (k : Nat) : St.at1 s ub k = [sz,iA U.params,iA U.regs,iA U.code,iA U.spill,bl][k]? :=
  let ⟨_,hb⟩:=h.box
  at1_box hb (by decide) k
end Go.VX.Seat
end
section
set_option maxRecDepth 4000
namespace Go.VX.Seat
open Go.Proofs Go.Lib
theorem cut_le (c : UInt8) (t : List UInt8) : (cutC c t).1.length≤t.length∧(cutC c t).2.1.length≤t.length∧((cutC c t).2.2 = true→(cutC c t).2.1.length + 1≤t.length):=by
  rcases cut_cases c t with ⟨a,b,rfl,_,hc,_⟩ | ⟨_,hc,_⟩
  · rw [hc]
    simp only [List.length_append,List.length_cons]
    exact ⟨by omega,by omega,fun _=>by omega⟩
  · rw [hc]
    exact ⟨Nat.le_refl _,by simp,fun h=>by cases h⟩
structure Small (U : UnitV) (n : Nat) : Prop where
  sizes : U.sizes.length + n≤2500000
  blocks : U.blocks.length + n≤2500000
  ops : ∀ b ∈ U.blocks,b.ops.length + n≤2500000
theorem Small.less {U : UnitV} {n m : Nat} (h : Small U n) (hm : m≤n) : Small U m:=⟨by have:=h.sizes; omega,by have:=h.blocks; omega,fun b hb=>by have:=h.ops b hb; omega⟩
structure PS (st s : St) (lb ub lo : Nat) (k : Int) (t : List UInt8) (sz bl : AV) (f : Nat→AV) (U : UnitV) : Prop where
  pre : ∃ m,s = st++m
  l : ∃ ver,s[lb]? = some ⟨[sA t,iA k],0,ver⟩
  ord : st.length≤lb∧st.length≤ub∧lb≠ub∧lb < lo∧ub < lo∧lo≤s.length
  u : UPtr s ub lo sz bl f U
  k0 : 0≤k∧k + t.length≤2500000
section
variable {st s : St} {lb ub lo : Nat} {k : Int} {t : List UInt8} {sz bl : AV} {f : Nat→AV} {U : UnitV}
theorem UPtr.ubox (h : UPtr s ub lo sz bl f U) {b : Nat} (hb : UBox sz bl f U.blocks.length b) : lo≤b∧b < s.length:=by
  rcases hb with hb | hb | ⟨j,hj,hb⟩
  · exact h.z.own.bnd b hb
  · exact h.b.own.bnd b hb
  · exact (h.b.ops j hj).bnd b hb
theorem PS.gb (h : PS st s lb ub lo k t sz bl f U) (hg : GB st) : GB s:=by
  obtain ⟨m,e⟩:=h.pre
  rw [e]
  exact hg.app m
theorem PS.app (h : PS st s lb ub lo k t sz bl f U) (L : St) : PS st (s++L) lb ub lo k t sz bl f U:=by
  obtain ⟨⟨m,hm⟩,⟨v,hl⟩,hord,hu,hk⟩:=h
  refine ⟨⟨m++L,by rw [hm,List.append_assoc]⟩,⟨v,by rw [List.getElem?_append_left (List.getElem?_eq_some_iff.1 hl).1]; exact hl⟩,?_,hu.agree (Agree.app (fun _=>False) s L) (fun h=>h) (fun _ _ _ h=>h),hk⟩
  simp only [List.length_append]
  omega
theorem PS.line (h : PS st s lb ub lo k t sz bl f U) {s' : St} {ver : Nat} {k' : Int} {t' : List UInt8} (ha : Agree (fun b=>b = lb) s s') (hl : s'[lb]? = some ⟨[sA t',iA k'],0,ver⟩) (hk : 0≤k'∧k' + t'.length≤2500000) : PS st s' lb ub lo k' t' sz bl f U:=by
  obtain ⟨⟨m,hm⟩,_,hord,hu,_⟩:=h
  refine ⟨ha.ext ⟨m,hm⟩ fun b hb hx=>by omega,⟨ver,hl⟩,?_,hu.agree ha (by omega) (fun b hb hlt hx=>by have:=(hu.ubox hb).1; omega),hk⟩
  have:=ha.len
  omega
theorem PS.upd (h : PS st s lb ub lo k t sz bl f U) {X : Nat→Prop} {s' : St} {sz' bl' : AV} {f' : Nat→AV} {U' : UnitV} (ha : Agree X s s') (hX : ∀ b,b < s.length→X b→b = ub∨lo≤b) (hu : UPtr s' ub lo sz' bl' f' U') : PS st s' lb ub lo k t sz' bl' f' U':=by
  obtain ⟨⟨m,hm⟩,⟨v,hl⟩,hord,_,hk⟩:=h
  have hll:=(List.getElem?_eq_some_iff.1 hl).1
  refine ⟨ha.ext ⟨m,hm⟩ fun b hb hx=>?_,⟨v,ha.box hl fun hx=>?_⟩,?_,hu,hk⟩
  · by_cases hbs : b < s.length
    · have:=hX b hbs hx; omega
    · rw [hm] at hbs; simp at hbs; omega
  · have:=hX lb hll hx; omega
  · have:=ha.len; omega
end
section
variable {X : Cx} {st : St}
theorem j_peek (h : OnH X) {s : St} {lb ver : Nat} {t : List UInt8} {k : Int} (hl : s[lb]? = some ⟨[sA t,iA k],0,ver⟩) (ht : t.length≤2500000) : J X.P X.F X.H (.call 44 [.ptr lb 0] s (.ret (.tup [sA (cutC 10 t).1,bA (cutC 10 t).2.2])) s):=by
  refine pure_intro (by rw [h.F]; rfl) rfl ?_
  have x0 : St.at1 (s++[]) lb 0 = some (sA t):=by rw [List.append_nil]; exact at1_box hl (by decide) 0
  simp only [v_code_lines_peek,x0,kB,kZ,kD,kE,xl,xg,xk,xc,xd,xe,xf,xj,xi,xh,reduceIte,reduceCtorEq,xy,xw,xq]
  refine callO_same (j_Cut (st:=s++[]) h 10 t ht) ?_
  simp only [kB,kZ,kD,kE,xl,xg,xk,xc,xd,xe,xf,xj,xi,xh,reduceIte,reduceCtorEq,xy,xw,xq]
  first | exact ⟨_,rfl⟩ | exact ⟨rfl,_,rfl⟩ | exact ⟨trivial,_,rfl⟩ | exact ⟨[],(List.append_nil _).symm⟩
theorem w_take (h : OnH X) {s : St} {lb ver : Nat} {t : List UInt8} {k : Int} (hl : s[lb]? = some ⟨[sA t,iA k],0,ver⟩) (ht : t.length≤2500000) (hk : 0≤k∧k≤2500000) : wpF X 46 [.ptr lb 0] s fun r s'=>r = .ret (.tup [])∧Agree (fun b=>b = lb) s s'∧∃ ver,s'[lb]? = some ⟨[sA (cutC 10 t).2.1,iA (k + 1)],0,ver⟩:=by
  refine wpF_go (fn:=v_code_lines_take) (by rw [h.F]; rfl) ?_
  rw [List.append_nil]
  have x0 : St.at1 s lb 0 = some (sA t):=at1_box hl (by decide) 0
  obtain ⟨s1,e1,h1,a1⟩:=put_one hl 0 (by simp) (sA (cutC 10 t).2.1) rfl
  have x1 : St.at1 s1 lb 1 = some (iA k):=at1_box h1 (by decide) 1
  obtain ⟨s2,e2,h2,a2⟩:=put_one h1 1 (by simp) (iA (k + 1)) rfl
  have hw : IntKind.wrap .i64 (k + 1) = k + 1:=wrap_small (by omega) (by omega)
  simp only [v_code_lines_take,x0,kB,kZ,kD,kE,xl,xg,xk,xc,xd,xe,xf,xj,xi,xh,reduceIte,reduceCtorEq,xy,xw,xq]
  refine callO_same (j_Cut h 10 t ht) ?_
  simp only [e1,x1,hw,e2,kB,kZ,kD,kE,xl,xg,xk,xc,xd,xe,xf,xj,xi,xh,reduceIte,reduceCtorEq,xy,xw,xq]
  exact ⟨(a1.trans a2).mono fun b _ hb=>by omega,ver + 1 + 1,h2⟩
end
end Go.VX.Seat
end
section
set_option maxRecDepth 4000
namespace Go.VX.Seat
open Go.Proofs Go.Lib
theorem runT_miss {s : Nat} {k : Int} {U : UnitV} {t : List UInt8} (h : (cutC 10 t).2.2 = false) (hs : s≠1) : runT s k U t = .error k:=by
  rw [runT_eq,if_neg (by rw [h]; decide),if_neg (fun e=>hs e.2)]
theorem runT_none {s : Nat} {k : Int} {U : UnitV} {t : List UInt8} (h : (cutC 10 t).2.2 = true) (hs : stepL s U (cutC 10 t).1 = none) : runT s k U t = .error k:=by
  rw [runT_eq,if_pos h,hs]
theorem runT_some {s s' : Nat} {k : Int} {U U' : UnitV} {t : List UInt8} (h : (cutC 10 t).2.2 = true) (hs : stepL s U (cutC 10 t).1 = some (s',U')) : runT s k U t = runT s' (k + 1) U' (cutC 10 t).2.1:=by
  rw [runT_eq,if_pos h,hs]
theorem step3_none {U : UnitV} {p : List UInt8} (h : lineB U p = none) : stepL 3 U p = none:=by
  unfold stepL
  rw [if_neg (by decide),if_pos rfl,h]
theorem step3_end {U V : UnitV} {p : List UInt8} (h : lineB U p = some (true,V)) : stepL 3 U p = some (1,V):=by
  unfold stepL
  rw [if_neg (by decide),if_pos rfl,h]
theorem step3_op {U V : UnitV} {p : List UInt8} (h : lineB U p = some (false,V)) : stepL 3 U p = some (3,V):=by
  unfold stepL
  rw [if_neg (by decide),if_pos rfl,h]
theorem setLast_eq (U : UnitV) (hn : 0 < U.blocks.length) (g : BlkV→BlkV) : setLast U g = { U with blocks:=U.blocks.set (U.blocks.length - 1) (g (U.blocks[U.blocks.length - 1]'(by omega))) }:=by
  unfold setLast
  rw [List.getD_eq_getElem?_getD,List.getElem?_eq_getElem (by omega)]
  rfl
section
variable {X : Cx} {st : St}
set_option maxHeartbeats 4000000 in
theorem w_lines_block (h : OnH X) (hg : GB st) {s0 : St} {lb ub lo : Nat} {k0 : Int} {t0 : List UInt8} {sz bl : AV} {f0 : Nat→AV} {U0 : UnitV} (hP0 : PS st s0 lb ub lo k0 t0 sz bl f0 U0) (hS0 : Small U0 t0.length) {bb nb : Nat} (hbb : boxOf bl = some bb) (hnb : U0.blocks.length = nb + 1) :
    wpF X 47 [.ptr lb 0,.ptr bb (nb * 6)] s0 fun r s'=>∃ ok k' t' f' U',r = .ret (bA ok)∧PS st s' lb ub lo k' t' sz bl f' U'∧Small U' t'.length∧U'.blocks.length = nb + 1∧t'.length≤t0.length∧(ok = true→runT 3 k0 U0 t0 = runT 1 k' U' t')∧(ok = false→runT 3 k0 U0 t0 = .error k'):=by
  refine wpF_go (fn:=v_code_lines_block) (by rw [h.F]; rfl) ?_
  rw [List.append_nil]
  simp only [v_code_lines_block,kB,kZ,kD,kE,xl,xg,xk,xc,xd,xe,xf,xj,xi,xh,reduceIte,reduceCtorEq,xy,xw,xq]
  refine loop_inv (fun n e s=>∃ (k : Int) (t : List UInt8) (f : Nat→AV) (U : UnitV),t.length = n∧e 0 = .ptr lb 0∧e 1 = .ptr bb (nb * 6)∧PS st s lb ub lo k t sz bl f U∧Small U t.length∧U.blocks.length = nb + 1∧t.length≤t0.length∧runT 3 k0 U0 t0 = runT 3 k U t) ?_ t0.length ?_
  case refine_2=>exact ⟨k0,t0,f0,U0,rfl,rfl,rfl,hP0,hS0,hnb,Nat.le_refl _,rfl⟩
  rintro n e s ⟨k,t,f,U,hn,e0,e1,hP,hS,hnU,htt,hrun⟩
  obtain ⟨lv,hl⟩:=hP.l
  have hk:=hP.k0
  have htl : t.length≤2500000:=by omega
  obtain ⟨c1,c2,c3⟩:=cut_le 10 t
  simp only [e0,e1,kB,kZ,kD,kE,xl,xg,xk,xc,xd,xe,xf,xj,xi,xh,reduceIte,reduceCtorEq,xy,xw,xq]
  refine callO_same (j_peek h hl htl) ?_
  simp only [e0,e1,kB,kZ,kD,kE,xl,xg,xk,xc,xd,xe,xf,xj,xi,xh,reduceIte,reduceCtorEq,xy,xw,xq]
  refine callO_same (j_CutPrefix2 h _) ?_
  simp only [e0,e1,kB,kZ,kD,kE,xl,xg,xk,xc,xd,xe,xf,xj,xi,xh,reduceIte,reduceCtorEq,xy,xw,xq]
  cases hok : (cutC 10 t).2.2 with
  | false =>
    simp only [kB,kZ,kD,kE,xl,xg,xk,xc,xd,xe,xf,xj,xi,xh,reduceIte,reduceCtorEq,xy,xw,xq]
    exact ⟨false,k,t,f,U,rfl,hP,hS,hnU,htt,(fun e=>by cases e),fun _=>by rw [hrun]; exact runT_miss hok (by decide)⟩
  | true =>
    have hc3:=c3 hok
    by_cases hp : (cutC 10 t).1.take 2 = [32,32]
    case neg =>
      have hd : decide ((cutC 10 t).1.take 2 = [32,32]) = false:=decide_eq_false hp
      simp only [hd,kB,kZ,kD,kE,xl,xg,xk,xc,xd,xe,xf,xj,xi,xh,reduceIte,reduceCtorEq,xy,xw,xq]
      exact ⟨false,k,t,f,U,rfl,hP,hS,hnU,htt,(fun e=>by cases e),fun _=>by rw [hrun]; exact runT_none hok (step3_none (by unfold lineB; rw [if_neg hp]))⟩
    have hd : decide ((cutC 10 t).1.take 2 = [32,32]) = true:=decide_eq_true hp
    have hql : ((cutC 10 t).1.drop 2).length≤2500000:=by simp only [List.length_drop]; omega
    have hlB : lineB U (cutC 10 t).1 = match endP ((cutC 10 t).1.drop 2) with
        | some e=>some (true,setLast U fun b=>{ b with e:=e })
        | none=>match opP ((cutC 10 t).1.drop 2) with
          | some o=>some (false,setLast U fun b=>{ b with ops:=b.ops++[o] })
          | none=>none:=by unfold lineB; exact if_pos hp
    rw [if_pos hp]
    generalize (cutC 10 t).1.drop 2 = q at *
    simp only [hd,e0,e1,kB,kZ,kD,kE,xl,xg,xk,xc,xd,xe,xf,xj,xi,xh,reduceIte,reduceCtorEq,xy,xw,xq]
    refine callO_same (j_code_readEnd h (hP.gb hg) q hql) ?_
    simp only [e0,e1,kB,kZ,kD,kE,xl,xg,xk,xc,xd,xe,xf,xj,xi,xh,reduceIte,reduceCtorEq,xy,xw,xq]
    have hU:=hP.u
    have hib : nb < U.blocks.length:=by omega
    cases hE : endP q with
    | some ev =>
      rw [hE] at hlB
      dsimp only at hlB
      have hP1:=hP.app [⟨[iA ev.k,iA ev.a,iA ev.t,iA ev.e],0,1⟩]
      obtain ⟨bb',s2,hbb',hel,hput,hag,hU2⟩:=hP1.u.setend nb hib ev
      rw [hbb] at hbb'
      cases hbb'
      have hsl : setLast U (fun b=>{ b with e:=ev }) = { U with blocks:=U.blocks.set nb { U.blocks[nb] with e:=ev } }:=by
        rw [setLast_eq U (by omega)]
        simp only [hnU,Nat.add_sub_cancel]
      have hbbd:=hP1.u.ubox (b:=bb) (.inr (.inl hbb))
      have hP2:=hP1.upd hag (fun b _ hb=>.inr (by omega)) hU2
      have hS2 : Small { U with blocks:=U.blocks.set nb { U.blocks[nb] with e:=ev } } t.length:=⟨hS.sizes,(by simpa using hS.blocks),fun b hb=>by
        rcases List.mem_or_eq_of_mem_set hb with hb | rfl
        · exact hS.ops b hb
        · exact hS.ops U.blocks[nb] (List.getElem_mem hib)⟩
      obtain ⟨lv2,hl2⟩:=hP2.l
      simp only [Option.getD_some,Option.isSome_some,EndV.row,e0,e1,hput,kB,kZ,kD,kE,xl,xg,xk,xc,xd,xe,xf,xj,xi,xh,reduceIte,reduceCtorEq,xy,xw,xq]
      refine wpF.mono (w_take h hl2 htl (by omega)) ?_
      rintro r s3 ⟨rfl,hag3,lv3,hl3⟩
      refine ⟨keptA_nil _ _ _,?_⟩
      simp only [kB,kZ,kD,kE,xl,xg,xk,xc,xd,xe,xf,xj,xi,xh,reduceIte,reduceCtorEq,xy,xw,xq]
      have hP3:=hP2.line hag3 hl3 (by omega)
      refine ⟨true,k + 1,_,_,_,rfl,hP3,hS2.less c2,by simp [hnU],by omega,fun _=>?_,fun e=>by cases e⟩
      rw [hrun,runT_some hok (step3_end hlB),hsl]
    | none =>
      rw [hE] at hlB
      dsimp only at hlB
      simp only [Option.getD_none,Option.isSome_none,zeroE,EndV.row,e0,e1,kB,kZ,kD,kE,xl,xg,xk,xc,xd,xe,xf,xj,xi,xh,reduceIte,reduceCtorEq,xy,xw,xq]
      have hP1:=hP.app [⟨[iA 0,iA 0,iA 0,iA 0],0,1⟩]
      refine wpF.mono (w_code_readOp h (hP1.gb hg) q hql) ?_
      rintro r s1 ⟨o,rfl,ho,m,rfl⟩
      refine ⟨kept_app _ _ _ _,?_⟩
      have hP2:=hP1.app m
      simp only [OpV.row,e0,e1,kB,kZ,kD,kE,xl,xg,xk,xc,xd,xe,xf,xj,xi,xh,reduceIte,reduceCtorEq,xy,xw,xq]
      cases hO : opP q with
      | none =>
        rw [hO] at hlB
        dsimp only at hlB
        simp only [Option.isSome_none,kB,kZ,kD,kE,xl,xg,xk,xc,xd,xe,xf,xj,xi,xh,reduceIte,reduceCtorEq,xy,xw,xq]
        have hP3:=hP2.app [⟨[iA o.k,iA o.d,iA o.a,iA o.b,iA o.c,iA o.n,iA o.g],0,1⟩]
        simp only [List.append_assoc,List.cons_append,List.nil_append] at hP3
        exact ⟨false,k,t,f,U,rfl,hP3,hS,hnU,htt,(fun e=>by cases e),fun _=>by rw [hrun]; exact runT_none hok (step3_none hlB)⟩
      | some ov =>
        obtain rfl:=ho ov hO
        rw [hO] at hlB
        dsimp only at hlB
        simp only [Option.isSome_some,e0,e1,kB,kZ,kD,kE,xl,xg,xk,xc,xd,xe,xf,xj,xi,xh,reduceIte,reduceCtorEq,xy,xw,xq]
        have hP3:=hP2.app [⟨[iA o.k,iA o.d,iA o.a,iA o.b,iA o.c,iA o.n,iA o.g],0,1⟩]
        simp only [List.append_assoc,List.cons_append,List.nil_append] at hP3
        have hop5 : St.atN (s++⟨[iA 0,iA 0,iA 0,iA 0],0,1⟩ :: (m++[⟨[iA o.k,iA o.d,iA o.a,iA o.b,iA o.c,iA o.n,iA o.g],0,1⟩])) (s.length + (m.length + 1)) 0 7 = some [iA o.k,iA o.d,iA o.a,iA o.b,iA o.c,iA o.n,iA o.g]:=by
          have hx : (s++(⟨[iA 0,iA 0,iA 0,iA 0],0,1⟩ : Box) :: (m++[(⟨[iA o.k,iA o.d,iA o.a,iA o.b,iA o.c,iA o.n,iA o.g],0,1⟩ : Box)]) : List Box)[s.length + (m.length + 1)]? = some ⟨[iA o.k,iA o.d,iA o.a,iA o.b,iA o.c,iA o.n,iA o.g],0,1⟩:=by simp
          rw [atN_box hx (by decide) 0 7 (by simp)]
          rfl
        generalize s++(⟨[iA 0,iA 0,iA 0,iA 0],0,1⟩ : Box) :: (m++[⟨[iA o.k,iA o.d,iA o.a,iA o.b,iA o.c,iA o.n,iA o.g],0,1⟩]) = S5 at *
        obtain ⟨_,hbl1,hbl2,r0,_⟩:=hP3.u.row nb hib hbb
        simp only [r0,hop5,e0,e1,kB,kZ,kD,kE,xl,xg,xk,xc,xd,xe,xf,xj,xi,xh,reduceIte,reduceCtorEq,xy,xw,xq]
        have hP4:=hP3.app [⟨[iA o.k,iA o.d,iA o.a,iA o.b,iA o.c,iA o.n,iA o.g],0,0⟩]
        have hrow : ArrAt (S5++[⟨[iA o.k,iA o.d,iA o.a,iA o.b,iA o.c,iA o.n,iA o.g],0,0⟩]) S5.length (S5.length + 1) (.sl S5.length 0 1 7 true) 7 [o.row]:=ArrAt.ofBox (mode:=0) (ver:=0) (by simp [OpV.row]) (by decide) (fun r hr=>by rw [List.mem_singleton.1 hr]; rfl) rfl
        have hopn:=hS.ops U.blocks[nb] (List.getElem_mem hib)
        refine opR_append (vx:=f nb) (vy:=.sl S5.length 0 1 7 true) (rows:=U.blocks[nb].ops.map OpV.row) (rows2:=[o.row]) (lo:=lo) (by simp only [kB,kZ,kD,kE,xl,xg,xk,xc,xd,xe,xf,xj,xi,xh,reduceIte,reduceCtorEq,xy,xw,xq]) (by simp only [kB,kZ,kD,kE,xl,xg,xk,xc,xd,xe,xf,xj,xi,xh,reduceIte,reduceCtorEq,xy,xw,xq]) (hP4.u.b.ops nb hib) (by have:=hP4.ord; omega) hrow (by simp; omega) rfl ?_
        intro w' s6 hag6 hown6 hcase
        have hw6 : boxOf w' = some (S5++[(⟨[iA o.k,iA o.d,iA o.a,iA o.b,iA o.c,iA o.n,iA o.g],0,0⟩ : Box)]).length:=by
          rcases hcase with ⟨h1,_⟩ | ⟨_,h1,_⟩
          · cases h1
          · exact h1
        have hag6':=hag6.mono (Y:=fun b=>boxOf (f nb) = some b) fun n _ h=>h.2
        generalize S5++[⟨[iA o.k,iA o.d,iA o.a,iA o.b,iA o.c,iA o.n,iA o.g],0,0⟩] = S6 at *
        have hown7 : OwnS s6 lo w' 7 ((U.blocks[nb].ops++[o]).map OpV.row):=by rw [List.map_append]; exact hown6
        obtain ⟨bb',s7,hbb',hel,hput,hag7,hU7⟩:=hP4.u.addops nb hib [o] hag6' (fun n _ hx=>hx) hown7 (.inr hw6)
        rw [hbb] at hbb'
        cases hbb'
        have hsl : setLast U (fun b=>{ b with ops:=b.ops++[o] }) = { U with blocks:=U.blocks.set nb { U.blocks[nb] with ops:=U.blocks[nb].ops++[o] } }:=by
          rw [setLast_eq U (by omega)]
          simp only [hnU,Nat.add_sub_cancel]
        have hbbU:=hP4.u.ubox (b:=bb) (.inr (.inl hbb))
        have hP7:=hP4.upd hag7 (fun b _ hx=>.inr (by
          rcases hx with hx | rfl
          · exact (hP4.u.ubox (.inr (.inr ⟨nb,hib,hx⟩))).1
          · exact hbbU.1)) hU7
        have hS7 : Small { U with blocks:=U.blocks.set nb { U.blocks[nb] with ops:=U.blocks[nb].ops++[o] } } (cutC 10 t).2.1.length:=⟨by have:=hS.sizes; simp only; omega,(by have:=hS.blocks; simp only [List.length_set]; omega),fun b hb=>by
          rcases List.mem_or_eq_of_mem_set hb with hb | rfl
          · have:=hS.ops b hb; omega
          · simp only [List.length_append,List.length_cons,List.length_nil]; omega⟩
        have hcw:=cells_cell (isCell_len hown7.arr.len)
        obtain ⟨lv2,hl2⟩:=hP7.l
        simp only [e0,e1,hput,hcw,kB,kZ,kD,kE,xl,xg,xk,xc,xd,xe,xf,xj,xi,xh,reduceIte,reduceCtorEq,xy,xw,xq]
        refine wpF.mono (w_take h hl2 htl (by omega)) ?_
        rintro r s8 ⟨rfl,hag8,lv8,hl8⟩
        refine ⟨keptA_nil _ _ _,?_⟩
        have hP8:=hP7.line hag8 hl8 (by omega)
        simp only [e0,e1,kB,kZ,kD,kE,xl,xg,xk,xc,xd,xe,xf,xj,xi,xh,reduceIte,reduceCtorEq,xy,xw,xq]
        refine ⟨(cutC 10 t).2.1.length,by omega,k + 1,_,_,_,rfl,hP8,hS7,by simp [hnU],by omega,?_⟩
        rw [hrun,runT_some hok (step3_op hlB),hsl]
end
end Go.VX.Seat
end
section
set_option maxRecDepth 4000
namespace Go.VX.Seat
open Go.Proofs Go.Lib
section
variable {s : St} {ub lo : Nat} {sz bl : AV} {f : Nat→AV} {U : UnitV}
def setN (U : UnitV) (o : Nat) (z : Int) : UnitV:=if o = 1 then { U with params:=z } else if o = 2 then { U with regs:=z } else if o = 3 then { U with code:=z } else { U with spill:=z }
theorem UPtr.num (h : UPtr s ub lo sz bl f U) (o : Nat) (ho : 1≤o∧o≤4) (z : Int) : ∃ s',s.put ub o [iA z] = some s'∧Agree (fun n=>n = ub) s s'∧UPtr s' ub lo sz bl f (setN U o z):=by
  obtain ⟨ver,hbx⟩:=h.box
  obtain ⟨s',e1,e2,e3⟩:=put_one hbx o (by simp; omega) (iA z) rfl
  refine ⟨s',e1,e3,?_⟩
  have hz : OwnZ s' lo sz bl f U.sizes U.blocks:=⟨h.z.own.agree e3 (fun b hb e=>h.sep (.inl (e ▸ hb))),h.z.sep⟩
  have hB : OwnB s' lo bl f U.blocks:=h.b.agree' e3 (fun b hb e=>h.sep (.inr (.inl (e ▸ hb)))) (fun j hj b hb e=>h.sep (.inr (.inr ⟨j,hj,e ▸ hb⟩)))
  match o,ho with
  | 1,_=>exact ⟨⟨_,e2⟩,h.sep,hz,hB⟩
  | 2,_=>exact ⟨⟨_,e2⟩,h.sep,hz,hB⟩
  | 3,_=>exact ⟨⟨_,e2⟩,h.sep,hz,hB⟩
  | 4,_=>exact ⟨⟨_,e2⟩,h.sep,hz,hB⟩
theorem UPtr.addsize {X : Nat→Prop} {s1 : St} {w : AV} {z : Int} (h : UPtr s ub lo sz bl f U) (ha : Agree X s s1) (hX : ∀ n,n < s.length→X n→boxOf sz = some n) (hw : OwnS s1 lo w 1 ((U.sizes++[z]).map fun n=>[iA n])) (hwn : boxOf w = some s.length) :
    ∃ s2,s1.put ub 0 [w] = some s2∧Agree (fun n=>X n∨n = ub) s s2∧UPtr s2 ub lo w bl f { U with sizes:=U.sizes++[z] }:=by
  obtain ⟨ver,hbx⟩:=h.box
  have hub:=(List.getElem?_eq_some_iff.1 hbx).1
  have hXub : ¬ X ub:=fun hx=>h.sep (.inl (hX ub hub hx))
  obtain ⟨s2,e1,e2,e3⟩:=put_one (ha.box hbx hXub) 0 (by simp) w (isCell_len hw.arr.len)
  refine ⟨s2,e1,ha.trans e3,⟨⟨_,e2⟩,fun hx=>?_,⟨hw.agree e3 fun b hb e=>?_,fun b hb=>⟨fun hbl=>?_,fun i hi hfi=>?_⟩⟩,(h.b.agree' ha (fun b hb hx=>?_) (fun j hj b hb hx=>?_)).agree' e3 (fun b hb e=>?_) (fun j hj b hb e=>?_)⟩⟩
  · rcases hx with hx | hx | hx
    · rw [hwn] at hx; cases hx; omega
    · exact h.sep (.inr (.inl hx))
    · exact h.sep (.inr (.inr hx))
  · rw [hwn] at hb; cases hb; omega
  · rw [hwn] at hb; cases hb
    have:=(h.b.own.bnd _ hbl).2; omega
  · rw [hwn] at hb; cases hb
    have:=((h.b.ops i hi).bnd _ hfi).2; omega
  · have h0:=(h.b.own.bnd b hb).2
    exact (h.z.sep b (hX b h0 hx)).1 hb
  · have h0:=((h.b.ops j hj).bnd b hb).2
    exact (h.z.sep b (hX b h0 hx)).2 j hj hb
  · exact h.sep (.inr (.inl (e ▸ hb)))
  · exact h.sep (.inr (.inr ⟨j,hj,e ▸ hb⟩))
theorem UPtr.addblk {X : Nat→Prop} {s1 : St} {w : AV} {b : BlkV} (h : UPtr s ub lo sz bl f U) (ha : Agree X s s1) (hX : ∀ n,n < s.length→X n→boxOf bl = some n) (hb0 : b.ops = []) (hw : OwnS s1 lo w 6 (blkRows U.blocks f++[b.row (.sc (.slice none 0 0))])) (hex : ExactBox s1 w 6 (blkRows U.blocks f++[b.row (.sc (.slice none 0 0))])) (hwn : boxOf w = some s.length) :
    ∃ s2 f',s1.put ub 5 [w] = some s2∧Agree (fun n=>X n∨n = ub) s s2∧UPtr s2 ub lo sz w f' { U with blocks:=U.blocks++[b] }:=by
  obtain ⟨ver,hbx⟩:=h.box
  have hub:=(List.getElem?_eq_some_iff.1 hbx).1
  have hXub : ¬ X ub:=fun hx=>h.sep (.inr (.inl (hX ub hub hx)))
  obtain ⟨s2,e1,e2,e3⟩:=put_one (ha.box hbx hXub) 5 (by simp) w (isCell_len hw.arr.len)
  have hB:=OwnB.snoc (w:=.sc (.slice none 0 0)) (b:=b) h.b ha hX (by rw [hb0]; exact own_nil _ _ _) (fun n hn=>by cases hn) hw hex (fun n hn=>⟨by rw [hwn] at hn; cases hn; omega,fun e=>by cases e⟩)
  have hZ:=OwnZ.snoc (w:=.sc (.slice none 0 0)) (b:=b) (bl':=w) h.z ha hX (fun n hn=>by cases hn) (fun n hn=>by rw [hwn] at hn; cases hn; omega)
  have hfub : ∀ j,j < (U.blocks++[b]).length→boxOf (if j = U.blocks.length then (.sc (.slice none 0 0) : AV) else f j)≠some ub:=fun j hj e=>by
    split at e
    · cases e
    · rename_i hne
      simp at hj
      exact h.sep (.inr (.inr ⟨j,by omega,e⟩))
  refine ⟨s2,_,e1,ha.trans e3,⟨⟨_,e2⟩,fun hx=>?_,⟨hZ.own.agree e3 fun c hc e=>?_,hZ.sep⟩,hB.agree' e3 (fun c hc e=>?_) (fun j hj c hc e=>?_)⟩⟩
  · rcases hx with hx | hx | ⟨j,hj,hx⟩
    · exact h.sep (.inl hx)
    · rw [hwn] at hx; cases hx; omega
    · exact hfub j hj hx
  · exact h.sep (.inl (e ▸ hc))
  · rw [hwn] at hc; cases hc; omega
  · exact hfub j hj (e ▸ hc)
end
theorem step1_arr {U : UnitV} {p : List UInt8} {n : List Int} (h0 : U.blocks.length = 0) (h : headP p w_array 1 = some n) : stepL 1 U p = some (1,{ U with sizes:=U.sizes++[n.getD 0 0] }):=by
  unfold stepL
  rw [if_neg (by decide),if_neg (by decide),if_pos h0,h]
theorem step1_blk {U : UnitV} {p : List UInt8} {n : List Int} (h0 : (if U.blocks.length = 0 then headP p w_array 1 else none) = none) (h : headP p w_block 1 = some n) : stepL 1 U p = some (3,{ U with blocks:=U.blocks++[⟨[],⟨0,0,0,0⟩,n.getD 0 0⟩] }):=by
  unfold stepL
  rw [if_neg (by decide),if_neg (by decide),h0,h]
theorem step1_none {U : UnitV} {p : List UInt8} (h0 : (if U.blocks.length = 0 then headP p w_array 1 else none) = none) (h : headP p w_block 1 = none) : stepL 1 U p = none:=by
  unfold stepL
  rw [if_neg (by decide),if_neg (by decide),h0,h]
theorem step0_some {U : UnitV} {p : List UInt8} {n : List Int} (h : headP p w_unit 4 = some n) : stepL 0 U p = some (1,{ U with params:=n.getD 0 0,regs:=n.getD 1 0,code:=n.getD 2 0,spill:=n.getD 3 0 }):=by
  unfold stepL
  rw [if_pos rfl,h]
theorem step0_none {U : UnitV} {p : List UInt8} (h : headP p w_unit 4 = none) : stepL 0 U p = none:=by
  unfold stepL
  rw [if_pos rfl,h]
theorem runT_end {k : Int} {U : UnitV} : runT 1 k U [] = .ok U:=by
  rw [runT_eq,if_neg (by decide),if_pos ⟨rfl,rfl⟩]
theorem runT_rest {s : Nat} {k : Int} {U : UnitV} {t : List UInt8} (h : (cutC 10 t).2.2 = false) (ht : t≠[]) : runT s k U t = .error k:=by
  rw [runT_eq,if_neg (by rw [h]; decide),if_neg (fun e=>ht e.1)]
end Go.VX.Seat
end
section
set_option maxRecDepth 4000
namespace Go.VX.Seat
open Go.Proofs Go.Lib
section
variable {X : Cx} {st : St}
set_option maxHeartbeats 4000000 in
theorem w_lines_unit (h : OnH X) (hg : GB st) {s0 : St} {lb ub lo : Nat} {t0 : List UInt8} {f0 : Nat→AV} (hP0 : PS st s0 lb ub lo 1 t0 (.sc (.slice none 0 0)) (.sc (.slice none 0 0)) f0 zeroU) (ht0 : t0.length≤2400000) :
    wpF X 26 [.ptr lb 0,.ptr ub 0] s0 fun r s'=>∃ ok k' t' sz' bl' f' U',r = .ret (bA ok)∧PS st s' lb ub lo k' t' sz' bl' f' U'∧(ok = true→runT 0 1 zeroU t0 = .ok U')∧(ok = false→runT 0 1 zeroU t0 = .error k'):=by
  refine wpF_go (fn:=v_code_lines_unit) (by rw [h.F]; rfl) ?_
  rw [List.append_nil]
  obtain ⟨lv,hl⟩:=hP0.l
  have hk:=hP0.k0
  obtain ⟨c1,c2,c3⟩:=cut_le 10 t0
  have eu : (#[117,110,105,116] : Array UInt8) = w_unit.toArray:=rfl
  simp only [v_code_lines_unit,kB,kZ,kD,kE,xl,xg,xk,xc,xd,xe,xf,xj,xi,xh,reduceIte,reduceCtorEq,xy,xw,xq]
  refine callO_same (j_peek h hl (by omega)) ?_
  simp only [kB,kZ,kD,kE,xl,xg,xk,xc,xd,xe,xf,xj,xi,xh,reduceIte,reduceCtorEq,xy,xw,xq]
  refine wpF.mono (w_code_headed h (hP0.gb hg) (cutC 10 t0).1 w_unit (by omega) 4 (by omega)) ?_
  rintro r s1 ⟨w,m,rfl,rfl,hw⟩
  refine ⟨kept_app _ _ _ _,?_⟩
  have hP1:=hP0.app m
  have hs0 : lo≤s0.length:=hP0.ord.2.2.2.2.2
  obtain ⟨lv1,hl1⟩:=hP1.l
  simp only [kB,kZ,kD,kE,xl,xg,xk,xc,xd,xe,xf,xj,xi,xh,reduceIte,reduceCtorEq,xy,xw,xq]
  refine callO_same (j_peek h hl1 (by omega)) ?_
  cases hH : headP (cutC 10 t0).1 w_unit 4 with
  | none =>
    simp only [Option.isSome_none,kB,kZ,kD,kE,xl,xg,xk,xc,xd,xe,xf,xj,xi,xh,reduceIte,reduceCtorEq,xy,xw,xq]
    refine ⟨false,1,t0,_,_,f0,zeroU,rfl,hP1,(fun e=>by cases e),fun _=>?_⟩
    cases hok : (cutC 10 t0).2.2
    · exact runT_miss hok (by decide)
    · exact runT_none hok (step0_none hH)
  | some n =>
    have hw:=hw n hH
    obtain ⟨hnl,hnI⟩:=headP_len hH
    cases hok : (cutC 10 t0).2.2 with
    | false =>
      simp only [Option.isSome_some,kB,kZ,kD,kE,xl,xg,xk,xc,xd,xe,xf,xj,xi,xh,reduceIte,reduceCtorEq,xy,xw,xq]
      exact ⟨false,1,t0,_,_,f0,zeroU,rfl,hP1,(fun e=>by cases e),fun _=>runT_miss hok (by decide)⟩
    | true =>
      have hc3:=c3 hok
      obtain ⟨b0,o0,g0,p0,q0⟩:=ser_at hw 0 (by omega)
      obtain ⟨b1,o1,g1,p1,q1⟩:=ser_at hw 1 (by omega)
      obtain ⟨b2,o2,g2,p2,q2⟩:=ser_at hw 2 (by omega)
      obtain ⟨b3,o3,g3,p3,q3⟩:=ser_at hw 3 (by omega)
      have p0:=p0 []
      have p1:=p1 []
      have p2:=p2 []
      have p3:=p3 []
      simp only [List.append_nil] at p0 p1 p2 p3
      simp only [Int.natCast_zero,Int.cast_ofNat_Int] at g0 g1 g2 g3
      generalize s0++m = s1 at *
      obtain ⟨s2,e1,a1,u1⟩:=hP1.u.num 1 (by omega) (n.getD 0 0)
      have hP2:=hP1.upd a1 (fun b _ hb=>.inl hb) u1
      obtain ⟨s3,e2,a2,u2⟩:=u1.num 2 (by omega) (n.getD 1 0)
      have hP3:=hP2.upd a2 (fun b _ hb=>.inl hb) u2
      obtain ⟨s4,e3,a3,u3⟩:=u2.num 3 (by omega) (n.getD 2 0)
      have hP4:=hP3.upd a3 (fun b _ hb=>.inl hb) u3
      obtain ⟨s5,e4,a4,u4⟩:=u3.num 4 (by omega) (n.getD 3 0)
      have hP5:=hP4.upd a4 (fun b _ hb=>.inl hb) u4
      obtain ⟨lv5,hl5⟩:=hP5.l
      simp only [Option.isSome_some,g0,g1,g2,g3,p0,p1,p2,p3,e1,e2,e3,e4,kB,kZ,kD,kE,xl,xg,xk,xc,xd,xe,xf,xj,xi,xh,reduceIte,reduceCtorEq,xy,xw,xq]
      refine wpF.mono (w_take h hl5 (by omega) (by omega)) ?_
      rintro r s6 ⟨rfl,hag6,lv6,hl6⟩
      refine ⟨keptA_nil _ _ _,?_⟩
      have hP6:=hP5.line hag6 hl6 (by omega)
      have hrun:=runT_some (s:=0) (k:=1) (U:=zeroU) hok (step0_some hH)
      have hU6 : setN (setN (setN (setN zeroU 1 (n.getD 0 0)) 2 (n.getD 1 0)) 3 (n.getD 2 0)) 4 (n.getD 3 0) = { zeroU with params:=n.getD 0 0,regs:=n.getD 1 0,code:=n.getD 2 0,spill:=n.getD 3 0 }:=rfl
      rw [hU6] at hP6
      generalize hUx : ({ zeroU with params:=n.getD 0 0,regs:=n.getD 1 0,code:=n.getD 2 0,spill:=n.getD 3 0 } : UnitV) = U1 at *
      have hS6 : Small U1 (cutC 10 t0).2.1.length:=by
        rw [←hUx]
        exact ⟨by simp only [zeroU,List.length_nil]; omega,by simp only [zeroU,List.length_nil]; omega,fun b hb=>by simp [zeroU] at hb⟩
      simp only [kB,kZ,kD,kE,xl,xg,xk,xc,xd,xe,xf,xj,xi,xh,reduceIte,reduceCtorEq,xy,xw,xq]
      refine anyLoop (mB m0) (fun e s=>∃ (k : Int) (sz bl : AV) (f : Nat→AV) (U : UnitV),PS st s lb ub lo k [] sz bl f U∧runT 0 1 zeroU t0 = .ok U) ?_ ?_
      · refine loop_inv (fun nn e s=>∃ (k : Int) (t : List UInt8) (sz bl : AV) (f : Nat→AV) (U : UnitV),t.length = nn∧e 0 = .ptr lb 0∧e 1 = .ptr ub 0∧PS st s lb ub lo k t sz bl f U∧Small U t.length∧runT 0 1 zeroU t0 = runT 1 k U t) ?_ (cutC 10 t0).2.1.length ?_
        case refine_2=>exact ⟨1 + 1,_,_,_,_,_,rfl,rfl,rfl,hP6,hS6,hrun⟩
        clear hP0 hP1 hP2 hP3 hP4 hP5 hP6 hS6 hrun u1 u2 u3 u4 a1 a2 a3 a4 e1 e2 e3 e4 g0 g1 g2 g3 p0 p1 p2 p3 hw hl hl1 hl5 hl6 hag6 hU6 hUx hk c1 c2 c3 hc3
        rintro nn e s ⟨k,t,sz,bl,f,U,hn,e0,e1,hP,hS,hrun⟩
        obtain ⟨lv,hl⟩:=hP.l
        have hk:=hP.k0
        obtain ⟨c1,c2,c3⟩:=cut_le 10 t
        have x0 : St.at1 s lb 0 = some (sA t):=at1_box hl (by decide) 0
        have g0:=fun ox oy=>k_ne X.P ox oy t []
        simp only [e0,e1,x0,g0,kB,kZ,kD,kE,xl,xg,xk,xc,xd,xe,xf,xj,xi,xh,reduceIte,reduceCtorEq,xy,xw,xq]
        refine condO_intro ?_ ?_<;>intro hc
        case refine_2 =>
          have ht : t = []:=by simpa using hc
          subst ht
          simp only [kB,kZ,kD,kE,xl,xg,xk,xc,xd,xe,xf,xj,xi,xh,reduceIte,reduceCtorEq,xy,xw,xq]
          exact ⟨k,sz,bl,f,U,hP,by rw [hrun,runT_end]⟩
        have ht : t≠[]:=by simpa using hc
        simp only [e0,e1,kB,kZ,kD,kE,xl,xg,xk,xc,xd,xe,xf,xj,xi,xh,reduceIte,reduceCtorEq,xy,xw,xq]
        refine callO_same (j_peek h hl (by omega)) ?_
        simp only [e0,e1,kB,kZ,kD,kE,xl,xg,xk,xc,xd,xe,xf,xj,xi,xh,reduceIte,reduceCtorEq,xy,xw,xq]
        refine wpF.mono (w_code_headed h (hP.gb hg) (cutC 10 t).1 w_array (by omega) 1 (by omega)) ?_
        rintro r s1 ⟨wa,m1,rfl,rfl,hwa⟩
        refine ⟨kept_app _ _ _ _,?_⟩
        have hP1:=hP.app m1
        have hs1 : lo≤s.length:=hP.ord.2.2.2.2.2
        simp only [e0,e1,kB,kZ,kD,kE,xl,xg,xk,xc,xd,xe,xf,xj,xi,xh,reduceIte,reduceCtorEq,xy,xw,xq]
        refine wpF.mono (w_code_headed h (hP1.gb hg) (cutC 10 t).1 w_block (by omega) 1 (by omega)) ?_
        rintro r s2 ⟨wb,m2,rfl,rfl,hwb⟩
        refine ⟨kept_app _ _ _ _,?_⟩
        have hP2:=hP1.app m2
        have hs2 : lo≤(s++m1).length:=hP1.ord.2.2.2.2.2
        simp only [e0,e1,kB,kZ,kD,kE,xl,xg,xk,xc,xd,xe,xf,xj,xi,xh,reduceIte,reduceCtorEq,xy,xw,xq]
        cases hok : (cutC 10 t).2.2 with
        | false =>
          simp only [kB,kZ,kD,kE,xl,xg,xk,xc,xd,xe,xf,xj,xi,xh,reduceIte,reduceCtorEq,xy,xw,xq]
          simp only [List.append_assoc] at hP2
          exact ⟨false,k,t,sz,bl,f,U,rfl,hP2,(fun e=>by cases e),fun _=>by rw [hrun]; exact runT_rest hok ht⟩
        | true =>
          have hc3:=c3 hok
          have c5:=hP2.u.cells 5
          have c0:=hP2.u.cells 0
          have hbll : lenA bl = some U.blocks.length:=by
            have:=hP2.u.b.own.arr.len
            rwa [blkRows_length] at this
          simp only [e0,e1,kB,kZ,kD,kE,xl,xg,xk,xc,xd,xe,xf,xj,xi,xh,reduceIte,reduceCtorEq,xy,xw,xq]
          refine anyG m0 (fun e' s'=>s' = s++m1++m2∧e' 0 = .ptr lb 0∧e' 1 = .ptr ub 0∧e' 13 = wa∧e' 15 = wb∧e' 16 = bA (headP (cutC 10 t).1 w_block 1).isSome∧e' 87 = bA (if U.blocks.length = 0 then headP (cutC 10 t).1 w_array 1 else none).isSome) ?_ ?_
          · cases hA : headP (cutC 10 t).1 w_array 1 with
            | none =>
              have : (if U.blocks.length = 0 then (none : Option (List Int)) else none) = none:=by split<;>rfl
              simp only [this,Option.isSome_none,e0,e1,List.append_assoc,kB,kZ,kD,kE,xl,xg,xk,xc,xd,xe,xf,xj,xi,xh,reduceIte,reduceCtorEq,xy,xw,xq]
            | some na =>
              have : bA (if U.blocks.length = 0 then some na else none).isSome = bA (decide ((U.blocks.length : Int) = 0)):=by
                by_cases h0 : U.blocks.length = 0
                · rw [if_pos h0,decide_eq_true (by omega)]; rfl
                · rw [if_neg h0,decide_eq_false (by omega)]; rfl
              rw [this]
              simp only [List.append_assoc] at c5
              simp only [Option.isSome_some,e0,e1,c5,hbll,List.append_assoc,kB,kZ,kD,kE,xl,xg,xk,xc,xd,xe,xf,xj,xi,xh,reduceIte,reduceCtorEq,xy,xw,xq]
          clear e0 e1
          rintro e s' ⟨rfl,e0,e1,e13,e15,e16,e87⟩
          generalize hS3 : s++m1++m2 = S3 at *
          simp only [e0,e1,e13,e15,e16,e87,kB,kZ,kD,kE,xl,xg,xk,xc,xd,xe,xf,xj,xi,xh,reduceIte,reduceCtorEq,xy,xw,xq]
          have hs3 : lo≤S3.length:=hP2.ord.2.2.2.2.2
          cases hArr : (if U.blocks.length = 0 then headP (cutC 10 t).1 w_array 1 else none) with
          | some na =>
            have h0 : U.blocks.length = 0:=by
              by_cases h0 : U.blocks.length = 0
              · exact h0
              · rw [if_neg h0] at hArr; cases hArr
            rw [if_pos h0] at hArr
            have hw1:=(own_frame (hwa na hArr) m2)
            rw [hS3] at hw1
            obtain ⟨hnl,_⟩:=headP_len hArr
            obtain ⟨b0,o0,g0,p0,_⟩:=ser_at hw1 0 (by omega)
            have p0:=p0 []
            simp only [List.append_nil] at p0
            simp only [Int.natCast_zero] at g0
            have c0' : St.at1 S3 ub 0 = some sz:=c0
            simp only [Option.isSome_some,e0,e1,e13,c0',g0,p0,kB,kZ,kD,kE,xl,xg,xk,xc,xd,xe,xf,xj,xi,xh,reduceIte,reduceCtorEq,xy,xw,xq]
            have hP4:=hP2.app [⟨[iA (na.getD 0 0)],0,0⟩]
            have hrow : ArrAt (S3++[⟨[iA (na.getD 0 0)],0,0⟩]) S3.length (S3.length + 1) (.sl S3.length 0 1 1 true) 1 [[iA (na.getD 0 0)]]:=ArrAt.ofBox (mode:=0) (ver:=0) (by simp) (by decide) (fun r hr=>by rw [List.mem_singleton.1 hr]; rfl) rfl
            have hsz:=hS.sizes
            refine opR_append (vx:=sz) (vy:=.sl S3.length 0 1 1 true) (rows:=U.sizes.map fun n=>[iA n]) (rows2:=[[iA (na.getD 0 0)]]) (lo:=lo) (by simp only [kB,kZ,kD,kE,xl,xg,xk,xc,xd,xe,xf,xj,xi,xh,reduceIte,reduceCtorEq,xy,xw,xq]) (by simp only [kB,kZ,kD,kE,xl,xg,xk,xc,xd,xe,xf,xj,xi,xh,reduceIte,reduceCtorEq,xy,xw,xq]) hP4.u.z.own hP4.ord.2.2.2.2.2 hrow (by simp; omega) rfl ?_
            intro w' s6 hag6 hown6 hcase
            have hw6 : boxOf w' = some (S3++[(⟨[iA (na.getD 0 0)],0,0⟩ : Box)]).length:=by
              rcases hcase with ⟨h1,_⟩ | ⟨_,h1,_⟩
              · cases h1
              · exact h1
            have hag6':=hag6.mono (Y:=fun b=>boxOf sz = some b) fun n _ h=>h.2
            generalize S3++[⟨[iA (na.getD 0 0)],0,0⟩] = S6 at *
            have hown7 : OwnS s6 lo w' 1 ((U.sizes++[na.getD 0 0]).map fun n=>[iA n]):=by rw [List.map_append]; exact hown6
            obtain ⟨s7,hput,hag7,hU7⟩:=hP4.u.addsize hag6' (fun n _ hx=>hx) hown7 hw6
            have hP7:=hP4.upd hag7 (fun b _ hx=>by
              rcases hx with hx | hx
              · exact .inr (hP4.u.ubox (.inl hx)).1
              · exact .inl hx) hU7
            have hS7 : Small { U with sizes:=U.sizes++[na.getD 0 0] } (cutC 10 t).2.1.length:=⟨by simp; omega,by have:=hS.blocks; simp only; omega,fun b hb=>by have:=hS.ops b hb; omega⟩
            have hcw:=cells_cell (isCell_len hown7.arr.len)
            obtain ⟨lv2,hl2⟩:=hP7.l
            simp only [e0,e1,hput,hcw,kB,kZ,kD,kE,xl,xg,xk,xc,xd,xe,xf,xj,xi,xh,reduceIte,reduceCtorEq,xy,xw,xq]
            refine wpF.mono (w_take h hl2 (by omega) (by omega)) ?_
            rintro r s8 ⟨rfl,hag8,lv8,hl8⟩
            refine ⟨keptA_nil _ _ _,?_⟩
            have hP8:=hP7.line hag8 hl8 (by omega)
            simp only [e0,e1,kB,kZ,kD,kE,xl,xg,xk,xc,xd,xe,xf,xj,xi,xh,reduceIte,reduceCtorEq,xy,xw,xq]
            refine ⟨(cutC 10 t).2.1.length,by omega,k + 1,_,_,_,_,_,rfl,hP8,hS7,?_⟩
            rw [hrun,runT_some hok (step1_arr h0 hArr)]
          | none =>
            cases hB : headP (cutC 10 t).1 w_block 1 with
            | none =>
              simp only [Option.isSome_none,e0,e1,e16,hB,kB,kZ,kD,kE,xl,xg,xk,xc,xd,xe,xf,xj,xi,xh,reduceIte,reduceCtorEq,xy,xw,xq]
              exact ⟨false,k,t,sz,bl,f,U,rfl,hP2,(fun e=>by cases e),fun _=>by rw [hrun]; exact runT_none hok (step1_none hArr hB)⟩
            | some n1 =>
              have hw1:=hwb n1 hB
              obtain ⟨hnl,_⟩:=headP_len hB
              obtain ⟨b0,o0,g0,p0,_⟩:=ser_at hw1 0 (by omega)
              have p0:=p0 []
              simp only [List.append_nil] at p0
              simp only [Int.natCast_zero] at g0
              have c5' : St.at1 S3 ub 5 = some bl:=c5
              simp only [Option.isSome_some,Option.isSome_none,e0,e1,e15,e16,hB,c5',g0,p0,kB,kZ,kD,kE,xl,xg,xk,xc,xd,xe,xf,xj,xi,xh,reduceIte,reduceCtorEq,xy,xw,xq]
              have hP4:=hP2.app [⟨[.sc (.slice none 0 0),iA 0,iA 0,iA 0,iA 0,iA (n1.getD 0 0)],0,0⟩]
              have hrow : ArrAt (S3++[⟨[.sc (.slice none 0 0),iA 0,iA 0,iA 0,iA 0,iA (n1.getD 0 0)],0,0⟩]) S3.length (S3.length + 1) (.sl S3.length 0 1 6 true) 6 [(⟨[],⟨0,0,0,0⟩,n1.getD 0 0⟩ : BlkV).row (.sc (.slice none 0 0))]:=ArrAt.ofBox (mode:=0) (ver:=0) (by simp [BlkV.row]) (by decide) (fun r hr=>by rw [List.mem_singleton.1 hr]; rfl) rfl
              have hsb:=hS.blocks
              refine opR_append (vx:=bl) (vy:=.sl S3.length 0 1 6 true) (rows:=blkRows U.blocks f) (rows2:=[(⟨[],⟨0,0,0,0⟩,n1.getD 0 0⟩ : BlkV).row (.sc (.slice none 0 0))]) (lo:=lo) (by simp only [kB,kZ,kD,kE,xl,xg,xk,xc,xd,xe,xf,xj,xi,xh,reduceIte,reduceCtorEq,xy,xw,xq]) (by simp only [kB,kZ,kD,kE,xl,xg,xk,xc,xd,xe,xf,xj,xi,xh,reduceIte,reduceCtorEq,xy,xw,xq]) hP4.u.b.own hP4.ord.2.2.2.2.2 hrow (by rw [blkRows_length]; simp; omega) rfl ?_
              intro w' s6 hag6 hown6 hcase
              have hw6 : boxOf w' = some (S3++[(⟨[.sc (.slice none 0 0),iA 0,iA 0,iA 0,iA 0,iA (n1.getD 0 0)],0,0⟩ : Box)]).length∧ExactBox s6 w' 6 (blkRows U.blocks f++[(⟨[],⟨0,0,0,0⟩,n1.getD 0 0⟩ : BlkV).row (.sc (.slice none 0 0))]):=by
                rcases hcase with ⟨h1,_⟩ | ⟨_,h1,h2⟩
                · cases h1
                · exact ⟨h1,h2⟩
              have hag6':=hag6.mono (Y:=fun b=>boxOf bl = some b) fun n _ h=>h.2
              generalize S3++[⟨[.sc (.slice none 0 0),iA 0,iA 0,iA 0,iA 0,iA (n1.getD 0 0)],0,0⟩] = S6 at *
              obtain ⟨s7,f7,hput,hag7,hU7⟩:=hP4.u.addblk hag6' (fun n _ hx=>hx) rfl hown6 hw6.2 hw6.1
              have hP7:=hP4.upd hag7 (fun b _ hx=>by
                rcases hx with hx | hx
                · exact .inr (hP4.u.ubox (.inr (.inl hx))).1
                · exact .inl hx) hU7
              have hS7 : Small { U with blocks:=U.blocks++[⟨[],⟨0,0,0,0⟩,n1.getD 0 0⟩] } (cutC 10 t).2.1.length:=⟨by have:=hS.sizes; simp only; omega,by simp; omega,fun b hb=>by
                rcases List.mem_append.1 hb with hb | hb
                · have:=hS.ops b hb; omega
                · rw [List.mem_singleton.1 hb]; simp; omega⟩
              have hcw:=cells_cell (isCell_len hown6.arr.len)
              obtain ⟨lv2,hl2⟩:=hP7.l
              simp only [e0,e1,hput,hcw,kB,kZ,kD,kE,xl,xg,xk,xc,xd,xe,xf,xj,xi,xh,reduceIte,reduceCtorEq,xy,xw,xq]
              refine wpF.mono (w_take h hl2 (by omega) (by omega)) ?_
              rintro r s8 ⟨rfl,hag8,lv8,hl8⟩
              refine ⟨keptA_nil _ _ _,?_⟩
              have hP8:=hP7.line hag8 hl8 (by omega)
              have hnb : (U.blocks++[(⟨[],⟨0,0,0,0⟩,n1.getD 0 0⟩ : BlkV)]).length = U.blocks.length + 1:=by simp
              obtain ⟨hel,_⟩:=hP8.u.row U.blocks.length (by rw [hnb]; omega) hw6.1
              have c58:=hP8.u.cells 5
              have c58' : St.at1 s8 ub 5 = some w':=c58
              have hln8 : lenA w' = some (U.blocks.length + 1):=by
                have:=hP8.u.b.own.arr.len
                rw [blkRows_length,hnb] at this
                exact this
              have hwn : IntKind.wrap .i64 (((U.blocks.length + 1 : Nat) : Int) - 1) = (U.blocks.length : Int):=by rw [wrap_small (by omega) (by omega)]; omega
              simp only [e0,e1,c58',hln8,hwn,hel,kB,kZ,kD,kE,xl,xg,xk,xc,xd,xe,xf,xj,xi,xh,reduceIte,reduceCtorEq,xy,xw,xq]
              refine wpF.mono (w_lines_block h hg hP8 hS7 hw6.1 hnb) ?_
              rintro r s9 ⟨ok9,k9,t9,f9,U9,rfl,hP9,hS9,hnb9,htt9,hyes,hno⟩
              refine ⟨keptA_nil _ _ _,?_⟩
              have hr9:=runT_some (k:=k) hok (step1_blk hArr hB)
              cases ok9 with
              | false =>
                simp only [e0,e1,kB,kZ,kD,kE,xl,xg,xk,xc,xd,xe,xf,xj,xi,xh,reduceIte,reduceCtorEq,xy,xw,xq]
                exact ⟨false,k9,t9,sz,w',f9,U9,rfl,hP9,(fun e=>by cases e),fun _=>by rw [hrun,hr9]; exact hno rfl⟩
              | true =>
                simp only [e0,e1,kB,kZ,kD,kE,xl,xg,xk,xc,xd,xe,xf,xj,xi,xh,reduceIte,reduceCtorEq,xy,xw,xq]
                exact ⟨t9.length,by omega,k9,t9,sz,w',f9,U9,rfl,hP9,hS9,by rw [hrun,hr9]; exact hyes rfl⟩
      rintro e s ⟨k,sz,bl,f,U,hP,hrun⟩
      simp only [kB,kZ,kD,kE,xl,xg,xk,xc,xd,xe,xf,xj,xi,xh,reduceIte,reduceCtorEq,xy,xw,xq]
      exact ⟨true,k,[],sz,bl,f,U,rfl,hP,fun _=>hrun,fun e=>by cases e⟩
end
end Go.VX.Seat
end
section
set_option maxRecDepth 4000
namespace Go.VX.Seat
open Go.Proofs Go.Lib
theorem zero_ptr {s : St} {ub lo ver : Nat} (h : s[ub]? = some ⟨[.sc (.slice none 0 0),iA 0,iA 0,iA 0,iA 0,.sc (.slice none 0 0)],0,ver⟩) : UPtr s ub lo (.sc (.slice none 0 0)) (.sc (.slice none 0 0)) (fun _=>.sc (.slice none 0 0)) zeroU :=
  ⟨⟨ver,h⟩,(fun hx=>by rcases hx with hx | hx | ⟨j,hj,hx⟩<;>cases hx),⟨own_nil _ _ _,fun b hb=>by cases hb⟩,⟨own_nil _ _ _,fun hne=>absurd rfl hne,fun i hi=>absurd hi (by simp [zeroU]),fun i hi=>absurd hi (by simp [zeroU]),fun i j hi=>absurd hi (by simp [zeroU])⟩⟩
theorem own_zero (s : St) (lo : Nat) : OwnU s lo (.agg [.sc (.slice none 0 0),iA 0,iA 0,iA 0,iA 0,.sc (.slice none 0 0)]) zeroU :=
  ⟨_,_,(fun _=>.sc (.slice none 0 0)),rfl,⟨own_nil _ _ _,fun b hb=>by cases hb⟩,⟨own_nil _ _ _,fun hne=>absurd rfl hne,fun i hi=>absurd hi (by simp [zeroU]),fun i hi=>absurd hi (by simp [zeroU]),fun i j hi=>absurd hi (by simp [zeroU])⟩⟩
section
variable {X : Cx} {st : St}
set_option maxHeartbeats 2000000 in
theorem w_code_Parse (h : OnH X) (hg : GB st) (t : List UInt8) :
    wpF X 12 [sA t] st fun r s=>∃ w,r = .ret (.tup [w,iA (parseT t).2.1,iA (parseT t).2.2])∧(∃ m,s = st++m)∧OwnU s st.length w (parseT t).1:=by
  refine wpF_go (fn:=v_code_Parse) (by rw [h.F]; rfl) ?_
  have q1:=k_len h.toOn t
  simp only [v_code_Parse,q1,kB,kZ,kD,kE,xl,xg,xk,xc,xd,xe,xf,xj,xi,xh,reduceIte,reduceCtorEq,xy,xw,xq]
  refine condO_intro ?_ ?_<;>intro hc
  · have hlt : 2000000 < (t.length : Int):=of_decide_eq_true hc
    have e : parseT t = (zeroU,0,3):=by unfold parseT; rw [if_pos hlt]
    rw [e]
    simp only [kB,kZ,kD,kE,xl,xg,xk,xc,xd,xe,xf,xj,xi,xh,reduceIte,reduceCtorEq,xy,xw,xq]
    exact ⟨_,rfl,⟨_,rfl⟩,own_zero _ _⟩
  have hlt : ¬ 2000000 < (t.length : Int):=of_decide_eq_false hc
  have ht : t.length≤2400000:=by omega
  have eP : parseT t = match runT 0 1 zeroU t with
      | .error k=>(zeroU,k,4)
      | .ok U=>if chkU U = 0 then (U,0,0) else (zeroU,0,chkU U):=by unfold parseT; exact if_neg hlt
  simp only [kB,kZ,kD,kE,xl,xg,xk,xc,xd,xe,xf,xj,xi,xh,reduceIte,reduceCtorEq,xy,xw,xq]
  obtain ⟨st1,hst1⟩ : ∃ st1 : St,st1 = st++[⟨[.sc (.slice none 0 0),iA 0,iA 0,iA 0,iA 0,.sc (.slice none 0 0)],0,0⟩]:=⟨_,rfl⟩
  have hl1 : st1.length = st.length + 1:=by rw [hst1]; simp
  have hg1 : GB st1:=by rw [hst1]; exact hg.app _
  have hr1 : st1[st.length + 0]? = some ⟨[.sc (.slice none 0 0),iA 0,iA 0,iA 0,iA 0,.sc (.slice none 0 0)],0,0⟩:=by rw [hst1]; simp
  have hP : PS st1 (st++[⟨[.sc (.slice none 0 0),iA 0,iA 0,iA 0,iA 0,.sc (.slice none 0 0)],0,0⟩,⟨[.sc (.slice none 0 0),iA 0,iA 0,iA 0,iA 0,.sc (.slice none 0 0)],0,0⟩,⟨[sA t,iA 1],0,0⟩]) (st.length + 2) (st.length + 1) (st.length + 3) 1 t (.sc (.slice none 0 0)) (.sc (.slice none 0 0)) (fun _=>.sc (.slice none 0 0)) zeroU :=
    ⟨⟨[⟨[.sc (.slice none 0 0),iA 0,iA 0,iA 0,iA 0,.sc (.slice none 0 0)],0,0⟩,⟨[sA t,iA 1],0,0⟩],by rw [hst1]; simp⟩,⟨0,by simp⟩,⟨by omega,by omega,by omega,by omega,by omega,by simp⟩,zero_ptr (ver:=0) (by simp),⟨by omega,by omega⟩⟩
  refine wpF.mono (w_lines_unit h hg1 hP ht) ?_
  rintro r s ⟨ok,k,t',sz,bl,f,U,rfl,hP2,hyes,hno⟩
  refine ⟨keptA_nil _ _ _,?_⟩
  clear hP
  obtain ⟨m,hm⟩:=hP2.pre
  have hr2 : s[st.length + 0]? = some ⟨[.sc (.slice none 0 0),iA 0,iA 0,iA 0,iA 0,.sc (.slice none 0 0)],0,0⟩:=by
    rw [hm,List.getElem?_append_left (by omega)]
    exact hr1
  have hpre : ∃ m,s = st++m:=⟨_,by rw [hm,hst1,List.append_assoc]⟩
  obtain ⟨lv,hl⟩:=hP2.l
  have x1 : St.at1 s (st.length + 2) 1 = some (iA k):=at1_box hl (by decide) 1
  have hz : ∃ S',St.put s (st.length + 0) 0 [.sc (.slice none 0 0),iA 0,iA 0,iA 0,iA 0,.sc (.slice none 0 0)] = some S'∧St.atN S' (st.length + 0) 0 6 = some [.sc (.slice none 0 0),iA 0,iA 0,iA 0,iA 0,.sc (.slice none 0 0)]∧(∃ m,S' = st++m)∧Agree (fun b=>b = st.length + 0) s S':=by
    obtain ⟨S',e1,e2,e3⟩:=put_whole hr2 (cells:=[.sc (.slice none 0 0),iA 0,iA 0,iA 0,iA 0,.sc (.slice none 0 0)]) rfl rfl
    exact ⟨S',e1,by rw [atN_box e2 (by decide) 0 6 (by simp)]; rfl,e3.ext hpre fun b hb e=>by omega,e3⟩
  obtain ⟨S1,z1,z2,z3,z4⟩:=hz
  cases ok with
  | false =>
    have hr:=hno rfl
    rw [eP,hr]
    simp only [x1,z1,z2,kB,kZ,kD,kE,xl,xg,xk,xc,xd,xe,xf,xj,xi,xh,reduceIte,reduceCtorEq,xy,xw,xq]
    refine ⟨kept_oneP (b:=st.length + 2) (o:=1) rfl (z4.eq _ (List.getElem?_eq_some_iff.1 hl).1 (by omega)),_,rfl,z3,own_zero _ _⟩
  | true =>
    have hr:=hyes rfl
    have hown:=hP2.u.own
    obtain ⟨uv,hub⟩:=hP2.u.box
    have hu:=hown.unit
    have x6 : St.atN s (st.length + 1) 0 6 = some [sz,iA U.params,iA U.regs,iA U.code,iA U.spill,bl]:=by
      rw [atN_box hub (by decide) 0 6 (by simp)]
      rfl
    simp only [x6,kB,kZ,kD,kE,xl,xg,xk,xc,xd,xe,xf,xj,xi,xh,reduceIte,reduceCtorEq,xy,xw,xq]
    refine callO_same (j_code_Check h (hP2.gb hg1) hu) ?_
    by_cases hc0 : chkU U = 0
    · have e : parseT t = (U,0,0):=by rw [eP,hr]; show (if chkU U = 0 then _ else _) = _; rw [if_pos hc0]
      rw [e]
      have hszc:=isCell_len hP2.u.z.own.arr.len
      have hblc:=isCell_len hP2.u.b.own.arr.len
      obtain ⟨S2,e1,e2,e3⟩:=put_whole hr2 (cells:=[sz,iA U.params,iA U.regs,iA U.code,iA U.spill,bl]) rfl (show (sz.isCell && (true && (true && (true && (true && (bl.isCell && true)))))) = true by rw [hszc,hblc]; rfl)
      have e4 : St.atN S2 (st.length + 0) 0 6 = some [sz,iA U.params,iA U.regs,iA U.code,iA U.spill,bl]:=by
        rw [atN_box e2 (by decide) 0 6 (by simp)]
        rfl
      have d0 : decide ((0 : Int)≠0) = false:=rfl
      simp only [hc0,d0,x6,e1,e4,kB,kZ,kD,kE,xl,xg,xk,xc,xd,xe,xf,xj,xi,xh,reduceIte,reduceCtorEq,xy,xw,xq]
      exact ⟨_,rfl,e3.ext hpre fun b hb e=>by omega,(hown.agree e3 fun b hb _ hx=>by omega).low (by omega)⟩
    · have e : parseT t = (zeroU,0,chkU U):=by rw [eP,hr]; show (if chkU U = 0 then _ else _) = _; rw [if_neg hc0]
      rw [e]
      have d0 : decide (chkU U≠0) = true:=decide_eq_true hc0
      simp only [d0,z1,z2,kB,kZ,kD,kE,xl,xg,xk,xc,xd,xe,xf,xj,xi,xh,reduceIte,reduceCtorEq,xy,xw,xq]
      exact ⟨_,rfl,z3,own_zero _ _⟩
end
end Go.VX.Seat
end
section
set_option maxRecDepth 4000
namespace Go.VX.Seat
open Go.Proofs Go.Lib
theorem op_one {U : UnitV} {o : OpV} (h : opErrU U o = 0) : oneK o.k = true:=by
  cases e : oneK o.k
  · unfold opErrU opErr at h
    rw [if_pos e] at h
    cases h
  · rfl
theorem end_kind {U : UnitV} {e : EndV} (h : endErrU U e = 0) : 1≤e.k∧e.k≤4:=by
  unfold endErrU endErr at h
  split at h
  · cases h
  · rename_i hc
    simp only [Bool.or_eq_true,decide_eq_true_eq] at hc
    omega
theorem Bl.arr {S0 s st : St} {bx lo hi esz : Nat} {l : List UInt8} {v : AV} {rows : List (List AV)} (h : Bl S0 s bx l) (hS : ∃ k,S0 = st++k) (ha : ArrAt st lo hi v esz rows) : ArrAt s lo hi v esz rows:=by
  obtain ⟨k,rfl⟩:=h.pre
  obtain ⟨k0,rfl⟩:=hS
  rw [List.append_assoc]
  exact ha.mono _
theorem ser_one {s : St} {b n : Nat} {ns : List Int} (hx : s[b]? = some ⟨ns.map (fun n=>iA n),0,0⟩) (hn : n = ns.length) : IntsAt s b (b + 1) (.sl b 0 n 1 true) ns:=by
  have hf : ∀ q : List Int,(q.map fun n=>[iA n]).flatten = q.map fun n=>iA n:=fun q=>by
    induction q with
    | nil=>rfl
    | cons a r ih=>simp only [List.map_cons,List.flatten_cons,ih]; rfl
  exact ArrAt.ofBox (mode:=0) (ver:=0) (by rw [hf]; exact hx) (by decide) (fun r hr=>by obtain ⟨p,_,rfl⟩:=List.mem_map.1 hr; rfl) (by simp [hn])
section
variable {X : Cx} {st : St}
set_option maxHeartbeats 4000000 in
theorem j_code_Text (h : OnH X) (hg : GB st) {lo hi : Nat} {v : AV} {U : UnitV} (hv : UnitAt st lo hi v U) (hI : UnitI U) : J X.P X.F X.H (.call 9 [v] st (.ret (.tup [sA (if chkU U = 0 then txtU U else []),iA (chkU U)])) st):=by
  refine pure_intro (by rw [h.F]; rfl) rfl ?_
  have hm:=fun L=>hv.mono L
  obtain ⟨sz,bl,rfl,hs,hb⟩:=hv
  obtain ⟨f,hbl,hops⟩:=hb
  simp only [v_code_Text,kB,kZ,kD,kE,xl,xg,xk,xc,xd,xe,xf,xj,xi,xh,reduceIte,reduceCtorEq,xy,xw,xq]
  refine callO_same (j_code_Check h (hg.app _) (hm _)) ?_
  simp only [kB,kZ,kD,kE,xl,xg,xk,xc,xd,xe,xf,xj,xi,xh,reduceIte,reduceCtorEq,xy,xw,xq]
  by_cases hc : chkU U = 0
  case neg =>
    have e : decide (chkU U≠0) = true:=by simpa using hc
    simp only [e,hc,kB,kZ,kD,kE,xl,xg,xk,xc,xd,xe,xf,xj,xi,xh,reduceIte,reduceCtorEq,xy,xw,xq]
    exact ⟨_,rfl⟩
  simp only [hc,Int.reduceEq,Int.reduceNe,v_allocF,kB,kZ,kD,kE,xl,xg,xk,xc,xd,xe,xf,xj,xi,xh,reduceIte,reduceCtorEq,xy,xw,xq]
  have wf:=chk_wf hc
  have hszl:=hs.len
  have hbll:=hbl.len
  simp only [List.length_map,List.length_mapIdx] at hszl hbll
  have hPL:=part_len hI wf
  obtain ⟨S0,hS0⟩ : ∃ S0 : St,S0 = st++[⟨[sz,iA U.params,iA U.regs,iA U.code,iA U.spill,bl],0,0⟩]:=⟨_,rfl⟩
  have hB0 : Bl S0 (st++[⟨[sz,iA U.params,iA U.regs,iA U.code,iA U.spill,bl],0,0⟩,⟨bldCells [],3,0⟩]) (st.length + 1) []:=⟨⟨[⟨bldCells [],3,0⟩],by rw [hS0]; simp⟩,by rw [hS0]; simp,0,by simp⟩
  have hg0 : GB S0:=by rw [hS0]; exact hg.app _
  have g1 : S0[st.length + 0]? = some ⟨[sz,iA U.params,iA U.regs,iA U.code,iA U.spill,bl],0,0⟩:=by rw [hS0]; simp
  have hl0 : S0.length = st.length + 1:=by rw [hS0]; simp
  have hpre0 : ∃ k,S0 = st++k:=⟨_,hS0⟩
  have q1 : ∀ {s l},Bl S0 s (st.length + 1) l→∀ k,St.at1 s (st.length + 0) k = ([sz,iA U.params,iA U.regs,iA U.code,iA U.spill,bl] : List AV)[k]?:=fun hb k=>at1_box (hb.get g1) (by decide) k
  have hcells : (⟨[iA 1,iA 58,iA 5,.sc (.string ⟨#[]⟩)],3,0⟩ : Box) = ⟨bldCells [],3,0⟩:=rfl
  rw [hcells]
  generalize (st++[⟨[sz,iA U.params,iA U.regs,iA U.code,iA U.spill,bl],0,0⟩,⟨bldCells [],3,0⟩] : St) = S at *
  clear hS0 hcells
  refine callO_write (l:=[]) (t:=[117,110,105,116]) h hB0 (by simp) (by simp) ?_
  intro s1 hB1 _
  clear hB0
  simp only [q1 hB1,kB,kZ,kD,kE,xl,xg,xk,xc,xd,xe,xf,xj,xi,xh,reduceIte,reduceCtorEq,xy,xw,xq]
  obtain ⟨ns,hns⟩ : ∃ ns : List Int,ns = [U.params,U.regs,U.code,U.spill]:=⟨_,rfl⟩
  have hN4 : ns.length = 4:=by rw [hns]; rfl
  have hnI : ∀ n ∈ ns,I64 n:=fun n hn=>by
    rw [hns] at hn
    simp only [List.mem_cons,List.not_mem_nil,or_false] at hn
    rcases hn with rfl | rfl | rfl | rfl
    · exact hI.params
    · exact hI.regs
    · exact hI.code
    · exact hI.spill
  have hmap : ns.map (fun n=>iA n) = [iA U.params,iA U.regs,iA U.code,iA U.spill]:=by rw [hns]; rfl
  have hB2:=hB1.app [⟨[iA U.params,iA U.regs,iA U.code,iA U.spill],0,0⟩]
  have hown : OwnS (s1++[⟨[iA U.params,iA U.regs,iA U.code,iA U.spill],0,0⟩]) (st.length + 2) (.sl s1.length 0 4 1 true) 1 (rowsI ns) :=
    ⟨(ser_one (ns:=ns) (by rw [hmap]; simp) hN4.symm).wide' (by have:=hB1.lt; omega) (by simp),fun b hb=>by cases hb; have:=hB1.lt; simp; omega,fun b o n e full hv=>by cases hv; exact .inl rfl⟩
  clear hmap
  generalize s1++[⟨[iA U.params,iA U.regs,iA U.code,iA U.spill],0,0⟩] = s2 at *
  generalize AV.sl s1.length 0 4 1 true = w at *
  refine anyLoop (mB m0) (fun e s=>e 1 = .ptr (st.length + 0) 0∧e 5 = .ptr (st.length + 1) 0∧Bl S0 s (st.length + 1) ([117,110,105,116]++catI ns)) ?_ ?_
  · refine loop_inv (fun k e s=>∃ i : Nat,i + k = 4∧e 1 = .ptr (st.length + 0) 0∧e 5 = .ptr (st.length + 1) 0∧e 28 = w∧e 29 = iA 4∧e 30 = iA i∧OwnS s (st.length + 2) w 1 (rowsI ns)∧Bl S0 s (st.length + 1) ([117,110,105,116]++catI (ns.take i))) ?_ 4 ?_
    case refine_2=>exact ⟨0,by omega,rfl,rfl,rfl,rfl,rfl,hown,by simpa [catI] using hB2⟩
    clear hB1 hB2 hown
    rintro k e s ⟨i,hik,k1,k5,k28,k29,k30,hown,hB⟩
    simp only [k1,k5,k28,k29,k30,kB,kZ,kD,kE,xl,xg,xk,xc,xd,xe,xf,xj,xi,xh,reduceIte,reduceCtorEq,xy,xw,xq]
    refine condO_intro ?_ ?_<;>intro hc
    case refine_2 =>
      have hi : i = 4:=by have:=of_decide_eq_false hc; omega
      subst hi
      simp only [k1,k5,kB,kZ,kD,kE,xl,xg,xk,xc,xd,xe,xf,xj,xi,xh,reduceIte,reduceCtorEq,xy,xw,xq]
      rw [List.take_of_length_le (by omega)] at hB
      exact hB
    have hii : i < ns.length:=by have:=of_decide_eq_true hc; omega
    obtain ⟨b1,o1,he1,hn1,ha1,_⟩:=hown.arr.get i (by simpa using hii)
    have p1:=ha1 [] 0 (by omega)
    simp only [List.append_nil,List.getElem_map,Nat.add_zero,List.getElem?_cons_zero] at p1
    have hx:=hnI _ (List.getElem_mem hii)
    have htk:=catI_take hii
    have hcl:=catI_len (ns:=ns.take i) fun x hx=>hnI x (List.mem_of_mem_take hx)
    have hll : (ns.take i).length≤4:=by simp; omega
    generalize ns[i] = n at *
    have hil:=itoa_len64 hx
    have a1:=fun ox oy=>k_add X.P ox oy [32] (itoa n) (by simp; omega)
    have hwi : IntKind.wrap .i64 ((i : Int) + 1) = ((i + 1 : Nat) : Int):=by rw [wrap_small (by omega) (by omega)]; omega
    simp only [k1,k5,k28,k29,k30,he1,p1,kB,kZ,kD,kE,xl,xg,xk,xc,xd,xe,xf,xj,xi,xh,reduceIte,reduceCtorEq,xy,xw,xq]
    refine callO_same (j_Itoa h (hB.gb hg0) n hx) ?_
    simp only [k1,k5,k28,k29,k30,a1,kB,kZ,kD,kE,xl,xg,xk,xc,xd,xe,xf,xj,xi,xh,reduceIte,reduceCtorEq,xy,xw,xq]
    refine callO_write h hB (by simp; omega) (by simp; omega) ?_
    intro s' hB' hag
    have hown':=hown.agree hag fun b hb e=>by have:=(hown.bnd b hb).1; omega
    simp only [k1,k5,k28,k29,k30,hwi,kB,kZ,kD,kE,xl,xg,xk,xc,xd,xe,xf,xj,xi,xh,reduceIte,reduceCtorEq,xy,xw,xq]
    refine ⟨k - 1,by omega,i + 1,by omega,rfl,hown',?_⟩
    rw [htk]
    simpa using hB'
  clear hB1 hB2 hown
  rintro e s ⟨k1,k5,hB⟩
  have hcl:=catI_len hnI
  have hhd:=hdX_len hI
  simp only [k1,k5,kB,kZ,kD,kE,xl,xg,xk,xc,xd,xe,xf,xj,xi,xh,reduceIte,reduceCtorEq,xy,xw,xq]
  refine callO_write (t:=[10]) h hB (by simp; omega) (by simp) ?_
  intro s2 hB2 _
  rw [hns] at hB2
  have e0 : [117,110,105,116]++catI [U.params,U.regs,U.code,U.spill]++[10] = hdX U:=rfl
  rw [e0] at hB2
  clear hB hcl hnI hN4 hns ns w
  simp only [k1,k5,q1 hB2,hszl,kB,kZ,kD,kE,xl,xg,xk,xc,xd,xe,xf,xj,xi,xh,reduceIte,reduceCtorEq,xy,xw,xq]
  refine anyLoop (mB m0) (fun e s=>e 1 = .ptr (st.length + 0) 0∧e 5 = .ptr (st.length + 1) 0∧Bl S0 s (st.length + 1) (hdX U++szsX U.sizes)) ?_ ?_
  · refine loop_inv (fun k e s=>∃ i : Nat,i + k = U.sizes.length∧e 1 = .ptr (st.length + 0) 0∧e 5 = .ptr (st.length + 1) 0∧e 41 = sz∧e 42 = iA (U.sizes.length : Int)∧e 43 = iA i∧Bl S0 s (st.length + 1) (hdX U++szsX (U.sizes.take i))) ?_ U.sizes.length ?_
    case refine_2=>exact ⟨0,by omega,by simp only [k1,kB,kZ,kD,kE,xl,xg,xk,xc,xd,xe,xf,xj,xi,xh,reduceIte,reduceCtorEq,xy,xw,xq],by simp only [k5,kB,kZ,kD,kE,xl,xg,xk,xc,xd,xe,xf,xj,xi,xh,reduceIte,reduceCtorEq,xy,xw,xq],rfl,rfl,rfl,by simpa [szsX] using hB2⟩
    clear hB2 k1 k5
    rintro k e s ⟨i,hik,k1,k5,k28,k29,k30,hB⟩
    simp only [k1,k5,k28,k29,k30,kB,kZ,kD,kE,xl,xg,xk,xc,xd,xe,xf,xj,xi,xh,reduceIte,reduceCtorEq,xy,xw,xq]
    refine condO_intro ?_ ?_<;>intro hc
    case refine_2 =>
      have hi : i = U.sizes.length:=by have:=of_decide_eq_false hc; omega
      subst hi
      simp only [k1,k5,kB,kZ,kD,kE,xl,xg,xk,xc,xd,xe,xf,xj,xi,xh,reduceIte,reduceCtorEq,xy,xw,xq]
      rw [List.take_length] at hB
      exact hB
    have hii : i < U.sizes.length:=by have:=of_decide_eq_true hc; omega
    have hsz:=wf.sizes
    obtain ⟨b1,o1,he1,hn1,ha1,_⟩:=(hB.arr hpre0 hs).get i (by simpa using hii)
    have p1:=ha1 [] 0 (by omega)
    simp only [List.append_nil,List.getElem_map,Nat.add_zero,List.getElem?_cons_zero] at p1
    have hx:=hI.sizes _ (List.getElem_mem hii)
    have htk:=szsX_take hii
    have hpl:=hPL i 0
    simp only [List.take_zero,blksX,List.map_nil,List.flatten_nil,List.append_nil] at hpl
    generalize U.sizes[i] = n at *
    have hil:=itoa_len64 hx
    have a1:=fun ox oy=>k_add X.P ox oy [97,114,114,97,121,32] (itoa n) (by simp; omega)
    have a2:=fun ox oy=>k_add X.P ox oy ([97,114,114,97,121,32]++itoa n) [10] (by simp; omega)
    simp only [List.cons_append,List.nil_append,List.append_assoc] at a1 a2
    have hwi : IntKind.wrap .i64 ((i : Int) + 1) = ((i + 1 : Nat) : Int):=by rw [wrap_small (by omega) (by omega)]; omega
    simp only [k1,k5,k28,k29,k30,he1,p1,kB,kZ,kD,kE,xl,xg,xk,xc,xd,xe,xf,xj,xi,xh,reduceIte,reduceCtorEq,xy,xw,xq]
    refine callO_same (j_Itoa h (hB.gb hg0) n hx) ?_
    simp only [k1,k5,k28,k29,k30,a1,a2,List.append_assoc,kB,kZ,kD,kE,xl,xg,xk,xc,xd,xe,xf,xj,xi,xh,reduceIte,reduceCtorEq,xy,xw,xq]
    refine callO_write h hB (by omega) (by simp; omega) ?_
    intro s' hB' hag
    simp only [k1,k5,k28,k29,k30,hwi,kB,kZ,kD,kE,xl,xg,xk,xc,xd,xe,xf,xj,xi,xh,reduceIte,reduceCtorEq,xy,xw,xq]
    refine ⟨k - 1,by omega,i + 1,by omega,rfl,?_⟩
    rw [htk,← List.append_assoc]
    have : sizeX n = 97 :: 114 :: 114 :: 97 :: 121 :: 32 :: (itoa n++[10]):=by simp [sizeX]
    rw [this]
    exact hB'
  clear hB2 k1 k5
  rintro e s ⟨k1,k5,hB⟩
  simp only [k1,k5,q1 hB,hbll,kB,kZ,kD,kE,xl,xg,xk,xc,xd,xe,xf,xj,xi,xh,reduceIte,reduceCtorEq,xy,xw,xq]
  refine anyLoop (mB m0) (fun e s=>e 5 = .ptr (st.length + 1) 0∧Bl S0 s (st.length + 1) (txtU U)) ?_ ?_
  · refine loop_inv (fun k e s=>∃ i : Nat,i + k = U.blocks.length∧e 1 = .ptr (st.length + 0) 0∧e 5 = .ptr (st.length + 1) 0∧e 54 = bl∧e 55 = iA (U.blocks.length : Int)∧e 56 = iA i∧Bl S0 s (st.length + 1) (hdX U++szsX U.sizes++blksX (U.blocks.take i))) ?_ U.blocks.length ?_
    case refine_2=>exact ⟨0,by omega,by simp only [k1,kB,kZ,kD,kE,xl,xg,xk,xc,xd,xe,xf,xj,xi,xh,reduceIte,reduceCtorEq,xy,xw,xq],by simp only [k5,kB,kZ,kD,kE,xl,xg,xk,xc,xd,xe,xf,xj,xi,xh,reduceIte,reduceCtorEq,xy,xw,xq],rfl,rfl,rfl,by simpa [blksX] using hB⟩
    clear hB k1 k5
    rintro k e s ⟨i,hik,k1,k5,k54,k55,k56,hB⟩
    simp only [k1,k5,k54,k55,k56,kB,kZ,kD,kE,xl,xg,xk,xc,xd,xe,xf,xj,xi,xh,reduceIte,reduceCtorEq,xy,xw,xq]
    refine condO_intro ?_ ?_<;>intro hc
    case refine_2 =>
      have hi : i = U.blocks.length:=by have:=of_decide_eq_false hc; omega
      subst hi
      simp only [k1,k5,kB,kZ,kD,kE,xl,xg,xk,xc,xd,xe,xf,xj,xi,xh,reduceIte,reduceCtorEq,xy,xw,xq]
      rw [List.take_length] at hB
      exact hB
    have hii : i < U.blocks.length:=by have:=of_decide_eq_true hc; omega
    have hnb:=wf.nb
    obtain ⟨b1,o1,he1,hn1,ha1,_⟩:=(hB.arr hpre0 hbl).get i (by simpa using hii)
    have p1:=hn1 []
    simp only [List.append_nil,List.getElem_mapIdx] at p1
    have hop:=hops i hii
    have bI:=hI.blocks _ (List.getElem_mem hii)
    have bW:=wf.blk _ (List.getElem_mem hii)
    have htk:=blksX_take hii
    have hpl:=hPL U.sizes.length i
    rw [List.take_length] at hpl
    generalize U.blocks[i] = b at *
    generalize f i = fi at *
    have hpl2:=opsX_len bI.ops
    have hbo:=bW.ops
    have hil:=itoa_len64 bI.c
    have hwi : IntKind.wrap .i64 ((i : Int) + 1) = ((i + 1 : Nat) : Int):=by rw [wrap_small (by omega) (by omega)]; omega
    have a1:=fun ox oy=>k_add X.P ox oy [98,108,111,99,107,32] (itoa b.catch_) (by simp; omega)
    have a2:=fun ox oy=>k_add X.P ox oy ([98,108,111,99,107,32]++itoa b.catch_) [10] (by simp; omega)
    simp only [List.cons_append,List.nil_append,List.append_assoc] at a1 a2
    have hopl:=hop.len
    simp only [List.length_map] at hopl
    have hopc:=isCell_len hopl
    simp only [BlkV.row] at p1
    simp only [k1,k5,k54,k55,k56,he1,p1,hopc,kB,kZ,kD,kE,xl,xg,xk,xc,xd,xe,xf,xj,xi,xh,reduceIte,reduceCtorEq,xy,xw,xq]
    generalize hP : hdX U++szsX U.sizes++blksX (U.blocks.take i) = P at *
    have hB1:=hB.app [⟨[fi,iA b.e.k,iA b.e.a,iA b.e.t,iA b.e.e,iA b.catch_],0,1⟩]
    have hbb : (s++[⟨[fi,iA b.e.k,iA b.e.a,iA b.e.t,iA b.e.e,iA b.catch_],0,1⟩])[s.length]? = some ⟨[fi,iA b.e.k,iA b.e.a,iA b.e.t,iA b.e.e,iA b.catch_],0,1⟩:=by simp
    have hsl:=hB.lt
    generalize s++[⟨[fi,iA b.e.k,iA b.e.a,iA b.e.t,iA b.e.e,iA b.catch_],0,1⟩] = s1 at *
    generalize s.length = bb at *
    refine callO_same (j_Itoa h (hB1.gb hg0) _ bI.c) ?_
    simp only [k1,k5,k54,k55,k56,a1,a2,List.append_assoc,kB,kZ,kD,kE,xl,xg,xk,xc,xd,xe,xf,xj,xi,xh,reduceIte,reduceCtorEq,xy,xw,xq]
    refine callO_write h hB1 (by omega) (by simp; omega) ?_
    intro s2 hB2 hag
    have hbb2:=hag.box hbb (by omega)
    clear hB hB1 hbb hag
    have x0 : ∀ k,St.at1 s2 bb k = ([fi,iA b.e.k,iA b.e.a,iA b.e.t,iA b.e.e,iA b.catch_] : List AV)[k]?:=fun k=>at1_box hbb2 (by decide) k
    simp only [k1,k5,k54,k55,k56,x0,hopl,kB,kZ,kD,kE,xl,xg,xk,xc,xd,xe,xf,xj,xi,xh,reduceIte,reduceCtorEq,xy,xw,xq]
    clear x0
    refine anyLoop (mB m0) (fun e s=>e 1 = .ptr (st.length + 0) 0∧e 5 = .ptr (st.length + 1) 0∧e 54 = bl∧e 55 = iA (U.blocks.length : Int)∧e 56 = iA i∧e 11 = .ptr bb 0∧s[bb]? = some ⟨[fi,iA b.e.k,iA b.e.a,iA b.e.t,iA b.e.e,iA b.catch_],0,1⟩∧Bl S0 s (st.length + 1) (P++98 :: 108 :: 111 :: 99 :: 107 :: 32 :: (itoa b.catch_++[10])++opsX b.ops)) ?_ ?_
    · refine loop_inv (fun k e s=>∃ j : Nat,j + k = b.ops.length∧e 1 = .ptr (st.length + 0) 0∧e 5 = .ptr (st.length + 1) 0∧e 54 = bl∧e 55 = iA (U.blocks.length : Int)∧e 56 = iA i∧e 11 = .ptr bb 0∧e 67 = fi∧e 68 = iA (b.ops.length : Int)∧e 69 = iA j∧s[bb]? = some ⟨[fi,iA b.e.k,iA b.e.a,iA b.e.t,iA b.e.e,iA b.catch_],0,1⟩∧Bl S0 s (st.length + 1) (P++98 :: 108 :: 111 :: 99 :: 107 :: 32 :: (itoa b.catch_++[10])++opsX (b.ops.take j))) ?_ b.ops.length ?_
      case refine_2=>exact ⟨0,by omega,by simp only [k1,kB,kZ,kD,kE,xl,xg,xk,xc,xd,xe,xf,xj,xi,xh,reduceIte,reduceCtorEq,xy,xw,xq],by simp only [k5,kB,kZ,kD,kE,xl,xg,xk,xc,xd,xe,xf,xj,xi,xh,reduceIte,reduceCtorEq,xy,xw,xq],by simp only [k54,kB,kZ,kD,kE,xl,xg,xk,xc,xd,xe,xf,xj,xi,xh,reduceIte,reduceCtorEq,xy,xw,xq],by simp only [k55,kB,kZ,kD,kE,xl,xg,xk,xc,xd,xe,xf,xj,xi,xh,reduceIte,reduceCtorEq,xy,xw,xq],by simp only [k56,kB,kZ,kD,kE,xl,xg,xk,xc,xd,xe,xf,xj,xi,xh,reduceIte,reduceCtorEq,xy,xw,xq],rfl,rfl,rfl,rfl,hbb2,by simpa [opsX] using hB2⟩
      clear hB2 hbb2 k1 k5 k54 k55 k56
      rintro k e s ⟨j,hjk,k1,k5,k54,k55,k56,k11,k67,k68,k69,hbb,hB⟩
      simp only [k1,k5,k54,k55,k56,k11,k67,k68,k69,kB,kZ,kD,kE,xl,xg,xk,xc,xd,xe,xf,xj,xi,xh,reduceIte,reduceCtorEq,xy,xw,xq]
      refine condO_intro ?_ ?_<;>intro hc
      case refine_2 =>
        have hj : j = b.ops.length:=by have:=of_decide_eq_false hc; omega
        subst hj
        simp only [k1,k5,k54,k55,k56,k11,kB,kZ,kD,kE,xl,xg,xk,xc,xd,xe,xf,xj,xi,xh,reduceIte,reduceCtorEq,xy,xw,xq]
        rw [List.take_length] at hB
        exact ⟨hbb,hB⟩
      have hjj : j < b.ops.length:=by have:=of_decide_eq_true hc; omega
      obtain ⟨b2,o2,he2,hn2,ha2,_⟩:=(hB.arr hpre0 hop).get j (by simpa using hjj)
      have p2:=hn2 []
      simp only [List.append_nil,List.getElem_map] at p2
      have oI:=bI.ops _ (List.getElem_mem hjj)
      have oW:=op_one (bW.op _ (List.getElem_mem hjj))
      have htk2:=opsX_take hjj
      have hol:=opsX_len (l:=b.ops.take j) fun o ho=>bI.ops o (List.mem_of_mem_take ho)
      have hol2 : (b.ops.take j).length≤400:=by simp; omega
      generalize b.ops[j] = o at *
      have hxl:=opX_len oI
      have c1:=fun ox oy=>k_add X.P ox oy [32,32] (opX o) (by simp; omega)
      have c2:=fun ox oy=>k_add X.P ox oy ([32,32]++opX o) [10] (by simp; omega)
      simp only [List.cons_append,List.nil_append,List.append_assoc] at c1 c2
      have hwj : IntKind.wrap .i64 ((j : Int) + 1) = ((j + 1 : Nat) : Int):=by rw [wrap_small (by omega) (by omega)]; omega
      have jt:=fun L=>j_code_opText (st:=s++L) h ((hB.app L).gb hg0) o oW oI
      simp only [OpV.row] at p2 jt
      have hB3:=hB.app [⟨[iA o.k,iA o.d,iA o.a,iA o.b,iA o.c,iA o.n,iA o.g],0,1⟩]
      simp only [k1,k5,k54,k55,k56,k11,k67,k68,k69,he2,p2,kB,kZ,kD,kE,xl,xg,xk,xc,xd,xe,xf,xj,xi,xh,reduceIte,reduceCtorEq,xy,xw,xq]
      refine callO_same (jt _) ?_
      simp only [k1,k5,k54,k55,k56,k11,k67,k68,k69,c1,c2,List.append_assoc,kB,kZ,kD,kE,xl,xg,xk,xc,xd,xe,xf,xj,xi,xh,reduceIte,reduceCtorEq,xy,xw,xq]
      refine callO_write h hB3 (by simp; omega) (by simp; omega) ?_
      intro s' hB' hag
      have hbb':=hag.box (x:=⟨[fi,iA b.e.k,iA b.e.a,iA b.e.t,iA b.e.e,iA b.catch_],0,1⟩) (b:=bb) (by rw [List.getElem?_append_left (List.getElem?_eq_some_iff.1 hbb).1]; exact hbb) (by omega)
      simp only [k1,k5,k54,k55,k56,k11,k67,k68,k69,hwj,kB,kZ,kD,kE,xl,xg,xk,xc,xd,xe,xf,xj,xi,xh,reduceIte,reduceCtorEq,xy,xw,xq]
      refine ⟨k - 1,by omega,j + 1,by omega,rfl,hbb',?_⟩
      rw [htk2]
      simpa [lineX] using hB'
    clear hB2 hbb2 k1 k5 k54 k55 k56
    rintro e s ⟨k1,k5,k54,k55,k56,k11,hbb,hB⟩
    have heI:=bI.e
    have hek:=end_kind bW.end_
    have hel:=endX_len heI
    have x1 : St.atN s bb 1 4 = some b.e.row:=by
      rw [atN_box hbb (by decide) 1 4 (by simp)]
      rfl
    have c1:=fun ox oy=>k_add X.P ox oy [32,32] (endX b.e) (by simp; omega)
    have c2:=fun ox oy=>k_add X.P ox oy ([32,32]++endX b.e) [10] (by simp; omega)
    simp only [List.cons_append,List.nil_append,List.append_assoc] at c1 c2
    simp only [k1,k5,k54,k55,k56,k11,x1,kB,kZ,kD,kE,xl,xg,xk,xc,xd,xe,xf,xj,xi,xh,reduceIte,reduceCtorEq,xy,xw,xq]
    refine callO_same (j_code_endText h (hB.gb hg0) b.e hek heI) ?_
    simp only [k1,k5,k54,k55,k56,k11,c1,c2,List.append_assoc,kB,kZ,kD,kE,xl,xg,xk,xc,xd,xe,xf,xj,xi,xh,reduceIte,reduceCtorEq,xy,xw,xq]
    refine callO_write h hB (by simp; omega) (by simp; omega) ?_
    intro s' hB' hag
    simp only [k1,k5,k54,k55,k56,k11,hwi,kB,kZ,kD,kE,xl,xg,xk,xc,xd,xe,xf,xj,xi,xh,reduceIte,reduceCtorEq,xy,xw,xq]
    refine ⟨k - 1,by omega,i + 1,by omega,rfl,?_⟩
    have : hdX U++(szsX U.sizes++blksX (U.blocks.take (i + 1))) = P++98 :: 108 :: 111 :: 99 :: 107 :: 32 :: (itoa b.catch_++[10])++opsX b.ops++32 :: 32 :: (endX b.e++[10]):=by
      rw [htk,← List.append_assoc,← List.append_assoc,hP]
      simp [blkX,lineX]
    rw [this]
    simpa using hB'
  clear hB k1 k5
  rintro e s ⟨k5,hB⟩
  have htl:=txtU_len hI wf
  simp only [k5,kB,kZ,kD,kE,xl,xg,xk,xc,xd,xe,xf,xj,xi,xh,reduceIte,reduceCtorEq,xy,xw,xq]
  refine callO_same (j_BString h hB (by omega)) ?_
  simp only [kB,kZ,kD,kE,xl,xg,xk,xc,xd,xe,xf,xj,xi,xh,reduceIte,reduceCtorEq,xy,xw,xq]
  obtain ⟨k,e1⟩:=hB.pre
  obtain ⟨k0,e0⟩:=hpre0
  exact ⟨k0++k,by rw [e1,e0,List.append_assoc]⟩
end
end Go.VX.Seat
end
section
set_option maxRecDepth 4000
namespace Go.VX.Seat
open Go.Proofs Go.Lib
structure CanE (e : EndV) : Prop where
  k : 1≤e.k∧e.k≤4
  i : EndI e
  a : e.k = 1→e.a = 0
  t : e.k≠1→e.k≠2→e.t = 0
  e : e.k≠2→e.e = 0
theorem runT_line {s : Nat} {k : Int} {U : UnitV} {a b : List UInt8} (h : (10 : UInt8) ∉ a) : runT s k U (a++10 :: b) = match stepL s U a with
    | some (s',U')=>runT s' (k + 1) U' b
    | none=>.error k:=by
  rw [runT_eq,cutC_hit h]
  rfl
theorem setLast_snoc (U : UnitV) (bs : List BlkV) (b : BlkV) (g : BlkV→BlkV) (h : U.blocks = bs++[b]) : setLast U g = { U with blocks:=bs++[g b] }:=by
  rw [setLast_eq U (by rw [h]; simp)]
  simp only [h]
  congr 1
  have hl : (bs++[b]).length - 1 = bs.length:=by simp
  simp only [hl,List.getElem_append_right (Nat.le_refl _),Nat.sub_self,List.getElem_cons_zero]
  rw [List.set_append_right _ _ (Nat.le_refl _)]
  simp
structure CanB (b : BlkV) : Prop where
  ops : ∀ o ∈ b.ops,CanO o
  e : CanE b.e
  c : I64 b.catch_
end Go.VX.Seat
end
section
set_option maxRecDepth 4000
namespace Go.VX.Seat
open Go.Proofs Go.Lib
theorem headP_inv {p w : List UInt8} {c : Nat} {n : List Int} (h : headP p w c = some n) : p = w++catI n∧n.length = c∧∀ x ∈ n,I64 x:=by
  have hj:=(join_spl 32 p).1
  unfold headP at h
  obtain ⟨x,t,e⟩:=spl_cons 32 p
  rw [e] at hj
  rw [show spl p = x :: t from e] at h
  dsimp only at h
  split at h
  · rename_i hw
    obtain ⟨e1,e2,e3⟩:=nums_some h
    refine ⟨?_,e2,e3⟩
    rw [←hj,e1,hw,join_map]
  · cases h
theorem i64_k {k : Int} (h1 : 1≤k) (h2 : k≤4) : I64 k:=⟨by omega,by omega⟩
theorem canE1 {a : Int} (h : I64 a) : CanE ⟨1,0,a,0⟩:=⟨⟨show (1 : Int)≤1 by decide,show (1 : Int)≤4 by decide⟩,⟨show I64 1 from i64_k (by decide) (by decide),I64_0,h,I64_0⟩,fun _=>rfl,fun h=>absurd rfl h,fun _=>rfl⟩
theorem canE2 {a b c : Int} (ha : I64 a) (hb : I64 b) (hc : I64 c) : CanE ⟨2,a,b,c⟩:=⟨⟨show (1 : Int)≤2 by decide,show (2 : Int)≤4 by decide⟩,⟨show I64 2 from i64_k (by decide) (by decide),ha,hb,hc⟩,fun h=>absurd (show (2 : Int) = 1 from h) (by decide),fun _ h=>absurd rfl h,fun h=>absurd rfl h⟩
theorem canE3 {a : Int} (h : I64 a) : CanE ⟨3,a,0,0⟩:=⟨⟨show (1 : Int)≤3 by decide,show (3 : Int)≤4 by decide⟩,⟨show I64 3 from i64_k (by decide) (by decide),h,I64_0,I64_0⟩,fun h=>absurd (show (3 : Int) = 1 from h) (by decide),fun _ _=>rfl,fun _=>rfl⟩
theorem canE4 {a : Int} (h : I64 a) : CanE ⟨4,a,0,0⟩:=⟨⟨show (1 : Int)≤4 by decide,show (4 : Int)≤4 by decide⟩,⟨show I64 4 from i64_k (by decide) (by decide),h,I64_0,I64_0⟩,fun h=>absurd (show (4 : Int) = 1 from h) (by decide),fun _ _=>rfl,fun _=>rfl⟩
theorem endP_inv {q : List UInt8} {e : EndV} (h : endP q = some e) : q = endX e∧CanE e:=by
  have l1 : ∀ n : List Int,n.length = 1→∃ a,n = [a]:=fun n hn=>by
    match n,hn with
    | [a],_=>exact ⟨a,rfl⟩
  have l3 : ∀ n : List Int,n.length = 3→∃ a b c,n = [a,b,c]:=fun n hn=>by
    match n,hn with
    | [a,b,c],_=>exact ⟨a,b,c,rfl⟩
  unfold endP at h
  split at h
  · rename_i n hn
    obtain ⟨e1,e2,e3⟩:=headP_inv hn
    obtain ⟨a,rfl⟩:=l1 n e2
    cases h
    exact ⟨e1,canE1 (e3 a (by simp))⟩
  · split at h
    · rename_i n hn
      obtain ⟨e1,e2,e3⟩:=headP_inv hn
      obtain ⟨a,b,c,rfl⟩:=l3 n e2
      cases h
      exact ⟨e1,canE2 (e3 a (by simp)) (e3 b (by simp)) (e3 c (by simp))⟩
    · split at h
      · rename_i n hn
        obtain ⟨e1,e2,e3⟩:=headP_inv hn
        obtain ⟨a,rfl⟩:=l1 n e2
        cases h
        exact ⟨e1,canE3 (e3 a (by simp))⟩
      · split at h
        · rename_i n hn
          obtain ⟨e1,e2,e3⟩:=headP_inv hn
          obtain ⟨a,rfl⟩:=l1 n e2
          cases h
          exact ⟨e1,canE4 (e3 a (by simp))⟩
        · cases h
theorem runT_ok {s : Nat} {k : Int} {U V : UnitV} {t : List UInt8} (h : runT s k U t = .ok V) : (t = []∧s = 1∧U = V)∨∃ p r s' U',t = p++10 :: r∧(10 : UInt8) ∉ p∧stepL s U p = some (s',U')∧runT s' (k + 1) U' r = .ok V:=by
  rw [runT_eq] at h
  rcases cut_cases 10 t with ⟨a,b,e,hn,hc,_⟩ | ⟨_,hc,_⟩
  · rw [hc] at h
    simp only [if_true] at h
    split at h
    · rename_i s' U' hs
      exact .inr ⟨a,b,s',U',e,hn,hs,h⟩
    · cases h
  · rw [hc] at h
    simp only [Bool.false_eq_true,if_false] at h
    split at h
    · rename_i he
      cases h
      exact .inl ⟨he.1,he.2,rfl⟩
    · cases h
theorem lineB_some {U V : UnitV} {p : List UInt8} {b : Bool} (h : lineB U p = some (b,V)) : p = 32 :: 32 :: p.drop 2∧((b = true∧∃ e,endP (p.drop 2) = some e∧V = setLast U fun b=>{ b with e:=e })∨(b = false∧∃ o,opP (p.drop 2) = some o∧V = setLast U fun b=>{ b with ops:=b.ops++[o] })):=by
  unfold lineB at h
  split at h
  · rename_i h2
    refine ⟨?_,?_⟩
    · have:=List.take_append_drop 2 p
      rw [h2] at this
      exact this.symm
    · split at h
      · rename_i e he
        cases h
        exact .inl ⟨rfl,e,he,rfl⟩
      · split at h
        · rename_i o ho
          cases h
          exact .inr ⟨rfl,o,ho,rfl⟩
        · cases h
  · cases h
theorem step3_some {U V : UnitV} {p : List UInt8} {s' : Nat} (h : stepL 3 U p = some (s',V)) : (s' = 1∧lineB U p = some (true,V))∨(s' = 3∧lineB U p = some (false,V)):=by
  unfold stepL at h
  rw [if_neg (by decide),if_pos rfl] at h
  split at h
  · rename_i W hB
    cases h
    exact .inl ⟨rfl,hB⟩
  · rename_i W hB
    cases h
    exact .inr ⟨rfl,hB⟩
  · cases h
theorem inv3 : ∀ (m : Nat) {k : Int} {U V : UnitV} {t : List UInt8} {bs : List BlkV} {b : BlkV},t.length≤m→U.blocks = bs++[b]→runT 3 k U t = .ok V→∃ (ops : List OpV) (e : EndV) (r : List UInt8) (k' : Int),t = opsX ops++(lineX (endX e)++r)∧(∀ o ∈ ops,CanO o)∧CanE e∧runT 1 k' { U with blocks:=bs++[{ b with ops:=b.ops++ops,e:=e }] } r = .ok V
  | m,k,U,V,t,bs,b,hm,hb,h=>by
    rcases runT_ok h with ⟨_,h3,_⟩ | ⟨p,r,s',U',rfl,hn,hs,hr⟩
    · cases h3
    · rcases step3_some hs with ⟨rfl,hB⟩ | ⟨rfl,hB⟩
      · obtain ⟨hp,⟨_,e,he,rfl⟩ | ⟨h0,_⟩⟩:=lineB_some hB
        · obtain ⟨hq,hc⟩:=endP_inv he
          rw [setLast_snoc U bs b _ hb] at hr
          refine ⟨[],e,r,k + 1,?_,by simp,hc,by simpa using hr⟩
          rw [hp,hq]
          simp [opsX,lineX]
        · cases h0
      · obtain ⟨hp,⟨h0,_⟩ | ⟨_,o,ho,rfl⟩⟩:=lineB_some hB
        · cases h0
        · obtain ⟨hq,hc⟩:=opP_some ho
          rw [setLast_snoc U bs b _ hb] at hr
          match m,hm with
          | 0,hm=>simp at hm
          | m + 1,hm =>
            obtain ⟨ops,e,r2,k',e1,e2,e3,e4⟩:=inv3 m (bs:=bs) (b:={ b with ops:=b.ops++[o] }) (by simp only [List.length_append,List.length_cons] at hm; omega) rfl hr
            refine ⟨o :: ops,e,r2,k',?_,?_,e3,by simpa using e4⟩
            · rw [hp,hq,e1]
              simp [opsX,lineX]
            · intro x hx
              rcases List.mem_cons.1 hx with rfl | hx
              · exact hc
              · exact e2 x hx
theorem step1_some {U V : UnitV} {p : List UInt8} {s' : Nat} (h : stepL 1 U p = some (s',V)) : (s' = 1∧U.blocks = []∧∃ z,I64 z∧p = w_array++catI [z]∧V = { U with sizes:=U.sizes++[z] })∨(s' = 3∧∃ c,I64 c∧p = w_block++catI [c]∧V = { U with blocks:=U.blocks++[⟨[],⟨0,0,0,0⟩,c⟩] }):=by
  have l1 : ∀ n : List Int,n.length = 1→∃ a,n = [a]:=fun n hn=>by
    match n,hn with
    | [a],_=>exact ⟨a,rfl⟩
  unfold stepL at h
  rw [if_neg (by decide),if_neg (by decide)] at h
  split at h
  · rename_i n hn
    split at hn
    · rename_i h0
      obtain ⟨e1,e2,e3⟩:=headP_inv hn
      obtain ⟨a,rfl⟩:=l1 n e2
      cases h
      exact .inl ⟨rfl,List.length_eq_zero_iff.1 h0,a,e3 a (by simp),e1,rfl⟩
    · cases hn
  · split at h
    · rename_i n hn
      obtain ⟨e1,e2,e3⟩:=headP_inv hn
      obtain ⟨a,rfl⟩:=l1 n e2
      cases h
      exact .inr ⟨rfl,a,e3 a (by simp),e1,rfl⟩
    · cases h
theorem inv1 : ∀ (m : Nat) {k : Int} {U V : UnitV} {t : List UInt8},t.length≤m→runT 1 k U t = .ok V→∃ (zs : List Int) (bl : List BlkV),t = szsX zs++blksX bl∧V = { U with sizes:=U.sizes++zs,blocks:=U.blocks++bl }∧(∀ z ∈ zs,I64 z)∧(∀ b ∈ bl,CanB b)∧(U.blocks≠[]→zs = [])
  | m,k,U,V,t,hm,h=>by
    rcases runT_ok h with ⟨rfl,_,rfl⟩ | ⟨p,r,s',U',rfl,hn,hs,hr⟩
    · exact ⟨[],[],rfl,by simp,by simp,by simp,fun _=>rfl⟩
    match m,hm with
    | 0,hm=>simp at hm
    | m + 1,hm =>
    simp only [List.length_append,List.length_cons] at hm
    rcases step1_some hs with ⟨rfl,hb0,z,hz,hp,rfl⟩ | ⟨rfl,c,hc,hp,rfl⟩
    · obtain ⟨zs,bl,e1,e2,e3,e4,_⟩:=inv1 m (by omega) hr
      refine ⟨z :: zs,bl,?_,?_,?_,e4,fun h=>absurd hb0 h⟩
      · rw [hp,e1]
        simp [szsX,sizeX,w_array,catI]
      · rw [e2]; simp
      · intro x hx
        rcases List.mem_cons.1 hx with rfl | hx
        · exact hz
        · exact e3 x hx
    · obtain ⟨ops,e,r2,k',e1,e2,e3,e4⟩:=inv3 m (bs:=U.blocks) (b:=⟨[],⟨0,0,0,0⟩,c⟩) (by omega) rfl hr
      have hr2 : r2.length≤m:=by
        have:=congrArg List.length e1
        simp only [List.length_append] at this
        omega
      obtain ⟨zs,bl,f1,f2,f3,f4,f5⟩:=inv1 m hr2 e4
      obtain rfl:=f5 (by simp)
      refine ⟨[],⟨ops,e,c⟩ :: bl,?_,?_,by simp,?_,fun _=>rfl⟩
      · rw [hp,e1,f1]
        simp [szsX,blksX,blkX,w_block,catI,lineX]
      · rw [f2]; simp
      · intro x hx
        rcases List.mem_cons.1 hx with rfl | hx
        · exact ⟨e2,e3,hc⟩
        · exact f4 x hx
theorem inv0 {k : Int} {V : UnitV} {t : List UInt8} (h : runT 0 k zeroU t = .ok V) : t = txtU V∧UnitI V∧∀ b ∈ V.blocks,CanB b:=by
  rcases runT_ok h with ⟨_,h0,_⟩ | ⟨p,r,s',U',rfl,hn,hs,hr⟩
  · cases h0
  unfold stepL at hs
  rw [if_pos rfl] at hs
  split at hs
  · rename_i n hn
    obtain ⟨e1,e2,e3⟩:=headP_inv hn
    match n,e2 with
    | [a,b,c,d],_ =>
    cases hs
    obtain ⟨zs,bl,f1,f2,f3,f4,_⟩:=inv1 r.length (Nat.le_refl _) hr
    subst f2
    refine ⟨?_,⟨?_,e3 a (by simp),e3 b (by simp),e3 c (by simp),e3 d (by simp),?_⟩,?_⟩
    · rw [e1,f1]
      simp [txtU,hdX,w_unit,zeroU]
    · intro z hz
      exact f3 z (by simpa [zeroU] using hz)
    · intro x hx
      have hx:=f4 x (by simpa [zeroU] using hx)
      exact ⟨fun o ho=>(hx.ops o ho).i,hx.e.i,hx.c⟩
    · intro x hx
      exact f4 x (by simpa [zeroU] using hx)
  · cases hs
theorem err_at : ∀ (m : Nat) {s : Nat} {k k' : Int} {U : UnitV} {t : List UInt8},t.length≤m→runT s k U t = .error k'→k≤k'∧k'≤k + t.length
  | m,s,k,k',U,t,hm,h=>by
    rw [runT_eq] at h
    rcases cut_cases 10 t with ⟨a,b,rfl,hn,hc,_⟩ | ⟨_,hc,_⟩
    · rw [hc] at h
      simp only [if_true] at h
      split at h
      · match m,hm with
        | 0,hm=>simp at hm
        | m + 1,hm =>
          simp only [List.length_append,List.length_cons] at hm
          have:=err_at m (by omega) h
          simp only [List.length_append,List.length_cons]
          omega
      · cases h
        omega
    · rw [hc] at h
      simp only [Bool.false_eq_true,if_false] at h
      split at h
      · cases h
      · cases h
        omega
theorem more_line : ∀ (m : Nat) {s : Nat} {k : Int} {U V : UnitV} {t : List UInt8},t.length≤m→runT s k U t = .ok V→∃ k',k≤k'∧runT s k U (t++[10]) = .error k'
  | m,s,k,U,V,t,hm,h=>by
    rcases runT_ok h with ⟨rfl,rfl,rfl⟩ | ⟨p,r,s',U',rfl,hn,hs,hr⟩
    · refine ⟨k,Int.le_refl _,?_⟩
      have e : ([]++[10] : List UInt8) = []++10 :: []:=rfl
      rw [e,runT_line (by simp)]
      have hh : ∀ w : List UInt8,w≠[]→headP [] w 1 = none:=fun w hw=>by
        unfold headP
        show (if [] = w then _ else none) = none
        rw [if_neg (fun e=>hw e.symm)]
      rw [step1_none (by rw [hh _ (by decide)]; split<;>rfl) (hh _ (by decide))]
    · match m,hm with
      | 0,hm=>simp at hm
      | m + 1,hm =>
        simp only [List.length_append,List.length_cons] at hm
        obtain ⟨k',h1,h2⟩:=more_line m (by omega) hr
        refine ⟨k',by omega,?_⟩
        have e : (p++10 :: r)++[10] = p++10 :: (r++[10]):=by simp
        rw [e,runT_line hn,hs]
        exact h2
theorem op_no4 {U : UnitV} {o : OpV} (h : CanO o) : opErrU U o≠4:=by
  unfold opErrU opErr
  rw [if_neg (by rw [h.k]; decide)]
  split
  · decide
  · split
    · decide
    · split
      · decide
      · rw [if_neg,if_neg]
        · decide
        · simp only [Bool.and_eq_true,Bool.not_eq_true',decide_eq_true_eq,not_and,Decidable.not_not]
          exact h.n
        · simp only [Bool.or_eq_true,Bool.and_eq_true,Bool.not_eq_true',decide_eq_true_eq,not_or,not_and,Decidable.not_not]
          exact ⟨⟨⟨h.d,h.a⟩,h.b⟩,h.c⟩
theorem end_no4 {U : UnitV} {e : EndV} (h : CanE e) : endErrU U e≠4:=by
  unfold endErrU endErr
  have hk:=h.k
  rw [if_neg (by simp only [Bool.or_eq_true,decide_eq_true_eq]; omega)]
  split
  · decide
  · split
    · decide
    · rw [if_neg]
      · decide
      · simp only [Bool.or_eq_true,Bool.and_eq_true,Bool.not_eq_true',decide_eq_true_eq,not_or,not_and,Decidable.not_not,endA,endTo,endElse,Bool.or_eq_false_iff,decide_eq_false_iff_not]
        refine ⟨⟨fun h1=>h.a ?_,fun h1=>h.t h1.1 h1.2⟩,fun h1=>h.e h1⟩
        by_cases e1 : e.k = 1
        · exact e1
        · exact absurd h1 (by simp [e1])
theorem ops_no4 {U : UnitV} {i : Nat} : ∀ {l : List OpV} {k : Nat} {x : Int × Int × Int},(∀ o ∈ l,CanO o)→opsFind U i k l = some x→x.1≠4
  | [],_,_,_,h=>by simp [opsFind] at h
  | o :: r,k,x,hc,h=>by
    unfold opsFind at h
    split at h
    · cases h
      exact op_no4 (hc o (List.mem_cons_self ..))
    · exact ops_no4 (fun y hy=>hc y (List.mem_cons_of_mem _ hy)) h
theorem blk_no4 {U : UnitV} : ∀ {l : List BlkV} {i : Nat} {x : Int × Int × Int},(∀ b ∈ l,CanB b)→blkFind U i l = some x→x.1≠4
  | [],_,_,_,h=>by simp [blkFind] at h
  | b :: r,i,x,hc,h=>by
    have hb:=hc b (List.mem_cons_self ..)
    unfold blkFind at h
    split at h
    · cases h; simp
    · split at h
      · cases h; simp
      · split at h
        · rename_i y hy
          cases h
          exact ops_no4 hb.ops hy
        · split at h
          · cases h
            exact end_no4 hb.e
          · exact blk_no4 (fun y hy=>hc y (List.mem_cons_of_mem _ hy)) h
theorem chk_no4 {U : UnitV} (h : ∀ b ∈ U.blocks,CanB b) : chkU U≠4:=by
  unfold chkU findU
  split
  · simp
  · split
    · simp
    · split
      · simp
      · split
        · rename_i x hx
          exact blk_no4 h hx
        · split<;>simp
theorem parse_cases {t : List UInt8} (hl : t.length≤2000000) : (∃ U,parseT t = (U,0,0)∧t = txtU U∧UnitI U∧chkU U = 0∧∃ k,0 < k∧runT 0 1 zeroU (t++[10]) = .error k)∨(∃ U e,parseT t = (U,0,e)∧e≠0∧e≠4)∨(∃ U k,parseT t = (U,k,4)∧0 < k∧k≤t.length + 1):=by
  have e : parseT t = match runT 0 1 zeroU t with
      | .error k=>(zeroU,k,4)
      | .ok U=>if chkU U = 0 then (U,0,0) else (zeroU,0,chkU U):=by unfold parseT; exact if_neg (by omega)
  cases h : runT 0 1 zeroU t with
  | error k =>
    rw [h] at e
    have:=err_at _ (Nat.le_refl _) h
    exact .inr (.inr ⟨zeroU,k,e,by omega,by omega⟩)
  | ok U =>
    rw [h] at e
    obtain ⟨h1,h2,h3⟩:=inv0 h
    by_cases hc : chkU U = 0
    · obtain ⟨k',h4,h5⟩:=more_line _ (Nat.le_refl _) h
      refine .inl ⟨U,?_,h1,h2,hc,k',by omega,h5⟩
      rw [e]
      exact if_pos hc
    · refine .inr (.inl ⟨zeroU,chkU U,?_,hc,chk_no4 h3⟩)
      rw [e]
      exact if_neg hc
end Go.VX.Seat
end
section
set_option maxRecDepth 4000
namespace Go.VX.Seat
open Go.Proofs Go.Lib
section
variable {X : Cx} {st : St}
set_option maxHeartbeats 2000000 in
theorem w_CodeStringL (h : OnH X) (hg : GB st) (l : List UInt8) : wpF X 4 [sA l] st fun r s=>r = .ret (bA true)∧∃ m,s = st++m:=by
  refine wpF_go (fn:=v_l07_CodeString) (by rw [h.F]; rfl) ?_
  have q0:=k_len h.toOn l
  have hmin : min (l.length : Int) 2000000 = ((min l.length 2000000 : Nat) : Int):=by omega
  have q1:=k_sl0 h.toOn l (min l.length 2000000) (Nat.min_le_left _ _)
  simp only [v_l07_CodeString,q0,hmin,q1,Option.map_none,kB,kZ,kD,kE,xl,xg,xk,xc,xd,xe,xf,xj,xi,xh,reduceIte,reduceCtorEq,xy,xw,xq]
  have hle : (l.take (min l.length 2000000)).length≤2000000:=by simp; omega
  generalize l.take (min l.length 2000000) = t at *
  clear q0 q1 hmin
  rw [List.append_nil]
  refine wpF.mono (w_code_Parse h hg t) ?_
  rintro r S ⟨wv,rfl,⟨m1,rfl⟩,hown⟩
  refine ⟨kept_app _ _ _ _,?_⟩
  obtain ⟨sz1,bl1,f1,hwv,hz1,hb1⟩:=hown.ex
  have hszc1:=isCell_len hz1.own.arr.len
  have hblc1:=isCell_len hb1.own.arr.len
  have u1:=hown.unit
  subst hwv
  have q2:=k_len h.toOn t
  have hall:=fun L=>h.alive _ (hg.app L)
  rcases parse_cases hle with ⟨U,hp,ht,hI,hc,k,hk,hr⟩ | ⟨U,e,hp,he0,he4⟩ | ⟨U,k,hp,hk0,hk1⟩
  · rw [hp] at u1
    simp only [hp] at hszc1 hblc1 ⊢
    have u2:=u1.mono [⟨[sz1,iA U.params,iA U.regs,iA U.code,iA U.spill,bl1],0,1⟩]
    simp only [List.append_assoc,List.cons_append,List.nil_append] at u2
    have d0 : decide ((0 : Int)≠0) = false:=rfl
    simp only [hszc1,hblc1,d0,List.append_assoc,List.cons_append,List.nil_append,kB,kZ,kD,kE,xl,xg,xk,xc,xd,xe,xf,xj,xi,xh,reduceIte,reduceCtorEq,xy,xw,xq]
    refine callO_same (j_code_Text h (hg.app _) u2 hI) ?_
    have q3:=fun ox oy=>k_add X.P ox oy t [10] (by simp; omega)
    have q4:=fun ox oy=>k_eq X.P ox oy t t
    rw [←ht]
    simp only [hc,if_true,q3,decide_true,kB,kZ,kD,kE,xl,xg,xk,xc,xd,xe,xf,xj,xi,xh,reduceIte,reduceCtorEq,xy,xw,xq]
    refine wpF.mono (w_code_Parse h (hg.app _) (t++[10])) ?_
    rintro r S ⟨wv,rfl,⟨m3,rfl⟩,hown3⟩
    refine ⟨kept_app _ _ _ _,?_⟩
    obtain ⟨sz3,bl3,f3,hwv,hz3,hb3⟩:=hown3.ex
    have hszc3:=isCell_len hz3.own.arr.len
    have hblc3:=isCell_len hb3.own.arr.len
    subst hwv
    have hlen : (t++[10]).length = t.length + 1:=by simp
    by_cases h2 : t.length = 2000000
    · have hp3 : parseT (t++[10]) = (zeroU,0,3):=by unfold parseT; rw [if_pos (by omega)]
      have e2 : decide ((t.length : Int) = 2000000) = true:=decide_eq_true (by omega)
      simp only [hp3] at hszc3 hblc3 ⊢
      simp only [hszc3,hblc3,q2,q4,e2,decide_true,Int.reduceEq,List.append_assoc,List.cons_append,List.nil_append,kB,kZ,kD,kE,xl,xg,xk,xc,xd,xe,xf,xj,xi,xh,reduceIte,reduceCtorEq,xy,xw,xq]
      refine callO_same (.hook (h.alive _ (hg.app _))) ?_
      simp only [kB,kZ,kD,kE,xl,xg,xk,xc,xd,xe,xf,xj,xi,xh,reduceIte,reduceCtorEq,xy,xw,xq]
      exact ⟨_,rfl⟩
    · have hp3 : parseT (t++[10]) = (zeroU,k,4):=by unfold parseT; rw [if_neg (by omega),hr]
      have e2 : decide (0 < k) = true:=decide_eq_true hk
      simp only [hp3] at hszc3 hblc3 ⊢
      simp only [hszc3,hblc3,q2,q4,e2,decide_true,Int.reduceEq,List.append_assoc,List.cons_append,List.nil_append,kB,kZ,kD,kE,xl,xg,xk,xc,xd,xe,xf,xj,xi,xh,reduceIte,reduceCtorEq,xy,xw,xq]
      refine callO_same (.hook (h.alive _ (hg.app _))) ?_
      simp only [kB,kZ,kD,kE,xl,xg,xk,xc,xd,xe,xf,xj,xi,xh,reduceIte,reduceCtorEq,xy,xw,xq]
      exact ⟨_,rfl⟩
  · simp only [hp] at hszc1 hblc1 ⊢
    have d0 : decide (e≠0) = true:=decide_eq_true he0
    have d4 : decide (e = 4) = false:=decide_eq_false he4
    have d1 : decide ((0 : Int)≤(t.length : Int) + 1) = true:=decide_eq_true (by omega)
    have w1 : IntKind.wrap .i64 ((t.length : Int) + 1) = (t.length : Int) + 1:=wrap_small (by omega) (by omega)
    have cn:=fun ox oy=>c_eqb false false ox oy
    rw [←h.P] at cn
    simp only [hszc1,hblc1,d0,d4,d1,w1,cn,q2,Int.reduceLT,beq_self_eq_true,List.append_assoc,List.cons_append,List.nil_append,kB,kZ,kD,kE,xl,xg,xk,xc,xd,xe,xf,xj,xi,xh,reduceIte,reduceCtorEq,xy,xw,xq]
    refine callO_same (.hook (h.alive _ (hg.app _))) ?_
    simp only [kB,kZ,kD,kE,xl,xg,xk,xc,xd,xe,xf,xj,xi,xh,reduceIte,reduceCtorEq,xy,xw,xq]
    exact ⟨_,rfl⟩
  · simp only [hp] at hszc1 hblc1 ⊢
    have d0 : decide ((4 : Int)≠0) = true:=rfl
    have dk : decide (0 < k) = true:=decide_eq_true hk0
    have d1 : decide (k≤(t.length : Int) + 1) = true:=decide_eq_true hk1
    have w1 : IntKind.wrap .i64 ((t.length : Int) + 1) = (t.length : Int) + 1:=wrap_small (by omega) (by omega)
    have cn:=fun ox oy=>c_eqb true true ox oy
    rw [←h.P] at cn
    simp only [hszc1,hblc1,d0,dk,d1,w1,cn,q2,decide_true,beq_self_eq_true,List.append_assoc,List.cons_append,List.nil_append,kB,kZ,kD,kE,xl,xg,xk,xc,xd,xe,xf,xj,xi,xh,reduceIte,reduceCtorEq,xy,xw,xq]
    refine callO_same (.hook (h.alive _ (hg.app _))) ?_
    simp only [kB,kZ,kD,kE,xl,xg,xk,xc,xd,xe,xf,xj,xi,xh,reduceIte,reduceCtorEq,xy,xw,xq]
    exact ⟨_,rfl⟩
theorem w_CodeString (h : OnH X) (hg : GB st) (s : ByteArray) : wpF X 4 [.sc (.string s)] st fun r s=>r = .ret (bA true)∧∃ m,s = st++m:=by
  have e : (.sc (.string s) : AV) = sA s.data.toList:=rfl
  rw [e]
  exact w_CodeStringL h hg _
end
end Go.VX.Seat
end
