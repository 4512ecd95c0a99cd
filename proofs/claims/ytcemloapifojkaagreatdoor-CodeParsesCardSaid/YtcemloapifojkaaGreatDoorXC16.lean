/- A part of the proofs of the statements of one layer: R1, R2, CP1, CP2, CP3, ST3, ST4, CP4, CP5, CT3, CT4, CP6, CP7, CP8, CP9, S26n, CP10, CP11, CP12, CP13, CP14, CT5, CB1, CB3, CQ1, CQ2, CQ3, CQ4, CQ5. No condition is added here. -/
import Derived.ChangeOld
import Derived.ChangeArms
import Derived.ChangeShapes
import Derived.Test.YtcemloapifojkaaGreatDoorXC15
set_option linter.unusedVariables false
set_option linter.unusedSimpArgs false
section
namespace Go.VX
open Go.RowKit (Below)
section
variable {H : Type} {enc : TypeId × Value→H} {P : Program} {W : World} {gl : List Nat}
structure Ent (gl : List Nat) (W : World) (K : KM) (st : St) : Prop where
  rel : WRel W.heap.size W gl K st W
  ro : ∀ (b : Nat) (x : Box),st[b]? = some x→x.mode = 1
theorem Ent.add {K : KM} {st : St} (h : Ent gl W K st) {kb : KB} {cs : List AV} (hlt : kb.rb < W.heap.size) (hfit : kb.ro + cs.length≤kb.rsz) (hc : ∀ (o : Nat) (a : AV),cs[o]? = some a→∃ v,W.cell? ⟨kb.rb,kb.ro + o,none⟩ = some v∧VRel K a v) :
    Ent gl W (K.set st.length kb) (st++[⟨cs,1,0⟩])∧KM.le K (K.set st.length kb):=by
  have hle : KM.le K (K.set st.length kb):=KM.le_set h.rel.none
  have hin : ∀ {b : Nat} {x : Box} {kb' : KB},(st++[⟨cs,1,0⟩] : St)[b]? = some x→(K.set st.length kb) b = some kb'→(b < st.length∧st[b]? = some x∧K b = some kb')∨(b = st.length∧x = ⟨cs,1,0⟩∧kb' = kb):=fun {b x kb'} hx hk=>by
    unfold KM.set at hk
    split at hk
    · rename_i e
      subst e
      cases hk
      simp at hx
      exact .inr ⟨rfl,hx.symm,rfl⟩
    · have hb:=h.rel.dom b kb' hk
      rw [List.getElem?_append_left hb] at hx
      exact .inl ⟨hb,hx,hk⟩
  have hro : ∀ (b : Nat) (x : Box),(st++[⟨cs,1,0⟩] : St)[b]? = some x→x.mode = 1:=fun b x hx=>by
    by_cases hb : b < st.length
    · rw [List.getElem?_append_left hb] at hx
      exact h.ro b x hx
    · rw [List.getElem?_append_right (by omega)] at hx
      have:=(List.getElem?_eq_some_iff.1 hx).1
      simp at this
      have e : b - st.length = 0:=by omega
      rw [e] at hx
      simp at hx
      rw [←hx]
  refine ⟨⟨?_,hro⟩,hle⟩
  exact {
    below:=h.rel.below
    dom:=fun b kb' hk=>by
      unfold KM.set at hk
      split at hk
      · subst_vars; simp
      · have:=h.rel.dom b kb' hk; simp; omega
    lt:=fun b x kb' hx hm hk=>by
      rcases hin hx hk with ⟨_,h1,h2⟩ | ⟨_,_,rfl⟩
      · exact h.rel.lt b x kb' h1 hm h2
      · exact hlt
    cell:=fun b x kb' hx hm hk o a ho=>by
      rcases hin hx hk with ⟨_,h1,h2⟩ | ⟨_,rfl,rfl⟩
      · obtain ⟨v,hv,hr⟩:=h.rel.cell b x kb' h1 hm h2 o a ho
        exact ⟨v,hv,hr.mono hle⟩
      · obtain ⟨v,hv,hr⟩:=hc o a ho
        exact ⟨v,hv,hr.mono hle⟩
    live:=fun b x kb' hx hm hk=>absurd hm (by rw [hro b x hx]; decide)
    excl:=fun b x kb' b' x' kb2 hx hm=>absurd hm (by rw [hro b x hx]; decide)
    fit:=fun b x kb' hx hm hk=>by
      rcases hin hx hk with ⟨_,h1,h2⟩ | ⟨_,rfl,rfl⟩
      · exact h.rel.fit b x kb' h1 hm h2
      · exact hfit
    glob:=fun j g hg=>by
      obtain ⟨kb',h1,h2⟩:=h.rel.glob j g hg
      exact ⟨kb',hle _ _ h1,h2⟩
    fo:=Fo.none fun b x hx=>by rw [hro b x hx]; decide }
theorem add_mul (r o k n : Nat) : (⟨r,o,none⟩ : Addr).add k = ⟨r,o + k,none⟩:=add_eq r o k
end
end Go.VX
end
section
set_option maxRecDepth 4000
namespace Go.VX.Seat
open Go.Proofs Go.Lib
def nums (ws : List (List UInt8)) (count : Nat) : Option (List Int):=if ws.length = count then ws.mapM readN else none
theorem mapM_readN : ∀ {ws : List (List UInt8)} {n : List Int},ws.mapM readN = some n→ws = n.map itoa∧∀ x ∈ n,I64 x
  | [],n,h=>by
    have : n = []:=by simpa [List.mapM_nil] using h.symm
    subst this
    exact ⟨rfl,by simp⟩
  | w :: ws,n,h=>by
    rw [List.mapM_cons] at h
    cases h1 : readN w with
    | none=>rw [h1] at h; cases h
    | some a =>
      rw [h1] at h
      cases h2 : ws.mapM readN with
      | none=>rw [h2] at h; cases h
      | some r =>
        rw [h2] at h
        cases h
        obtain ⟨e1,e2⟩:=mapM_readN h2
        obtain ⟨e3,e4⟩:=readN_some h1
        exact ⟨by rw [List.map_cons,← e1,← e3],fun x hx=>by rcases List.mem_cons.1 hx with rfl | hx; exact e4; exact e2 x hx⟩
theorem mapM_itoa : ∀ {n : List Int},(∀ x ∈ n,I64 x)→(n.map itoa).mapM readN = some n
  | [],_=>rfl
  | a :: r,h=>by
    rw [List.map_cons,List.mapM_cons,readN_itoa (h a (List.mem_cons_self ..)),mapM_itoa fun x hx=>h x (List.mem_cons_of_mem _ hx)]
    rfl
theorem nums_some {ws : List (List UInt8)} {c : Nat} {n : List Int} (h : nums ws c = some n) : ws = n.map itoa∧n.length = c∧∀ x ∈ n,I64 x:=by
  unfold nums at h
  split at h
  · rename_i hl
    obtain ⟨e1,e2⟩:=mapM_readN h
    exact ⟨e1,by rw [←hl,e1,List.length_map],e2⟩
  · cases h
theorem nums_itoa {n : List Int} {c : Nat} (hc : n.length = c) (h : ∀ x ∈ n,I64 x) : nums (n.map itoa) c = some n:=by
  unfold nums
  rw [if_pos (by rw [List.length_map,hc]),mapM_itoa h]
def headP (line head : List UInt8) (c : Nat) : Option (List Int):=match spl line with
  | w :: ws=>if w = head then nums ws c else none
  | []=>none
def endP (line : List UInt8) : Option EndV:=match headP line (endNm 1) 1 with
  | some n=>some ⟨1,0,n.getD 0 0,0⟩
  | none=>match headP line (endNm 2) 3 with
    | some n=>some ⟨2,n.getD 0 0,n.getD 1 0,n.getD 2 0⟩
    | none=>match headP line (endNm 3) 1 with
      | some n=>some ⟨3,n.getD 0 0,0,0⟩
      | none=>match headP line (endNm 4) 1 with
        | some n=>some ⟨4,n.getD 0 0,0,0⟩
        | none=>none
def nmJ (j : Nat) : List UInt8:=(nameL.getD j ⟨#[]⟩).data.toList
def idxK (w : List UInt8) : Option Int:=Option.map (fun j : Nat=>(j : Int) + 1) ((List.range 25).find? fun j=>decide (nmJ j = w))
theorem nmJ_inj : ∀ i j : Fin 25,nmJ i.val = nmJ j.val→i = j:=by decide +kernel
theorem nmK_J {k : Int} (h : oneK k = true) : nmK k = nmJ (k - 1).toNat:=by
  unfold nmK nameK
  rw [if_pos h]
  rfl
theorem idxK_some {w : List UInt8} {k : Int} (h : idxK w = some k) : oneK k = true∧nmK k = w:=by
  unfold idxK at h
  rw [Option.map_eq_some_iff] at h
  obtain ⟨j,hj,rfl⟩:=h
  have h1:=List.find?_some hj
  have h2:=List.mem_range.1 (List.mem_of_find?_eq_some hj)
  have ho : oneK ((j : Int) + 1) = true:=by unfold oneK; simp; omega
  refine ⟨ho,?_⟩
  rw [nmK_J ho,show ((j : Int) + 1 - 1).toNat = j by omega]
  exact of_decide_eq_true h1
theorem idxK_nm {k : Int} (h : oneK k = true) : idxK (nmK k) = some k:=by
  have hk : 1≤k∧k≤25:=by unfold oneK at h; simpa using h
  rw [nmK_J h]
  unfold idxK
  have : ((List.range 25).find? fun j=>decide (nmJ j = nmJ (k - 1).toNat)) = some (k - 1).toNat:=by
    rw [List.find?_range_eq_some]
    refine ⟨by simp,by rw [List.mem_range]; omega,fun j hj=>?_⟩
    have:=nmJ_inj ⟨j,by omega⟩ ⟨(k - 1).toNat,by omega⟩
    simp only [Fin.mk.injEq] at this
    simp only [Bool.not_eq_true',decide_eq_false_iff_not]
    intro e
    have:=this e
    omega
  rw [this,Option.map_some]
  congr 1
  omega
def b2 (b : Bool) : Nat:=if b then 1 else 0
def cntK (k : Int) : Nat:=b2 (hasA k) + b2 (hasB k) + b2 (hasC k) + b2 (hasN k)
def mkOp (k g d : Int) (n : List Int) : OpV:=⟨k,d,if hasA k then n.getD 0 0 else 0,if hasB k then n.getD 1 0 else 0,if hasC k then n.getD 2 0 else 0,if hasN k then n.getD (cntK k - 1) 0 else 0,g⟩
def dstG (T : Int→Bool→List (List UInt8)→Option OpV) (l : List (List UInt8)) : Option OpV :=
  if 2 < l.length∧l.getD 1 [] = [61] then match readN (l.getD 0 []) with
    | some d=>T d true (l.drop 2)
    | none=>none
  else T 0 false l
def opG (T : Int→Int→Bool→List (List UInt8)→Option OpV) (l : List (List UInt8)) : Option OpV :=
  if 2 < l.length∧l.getD 0 [] = [63] then match readN (l.getD 1 []) with
    | some g=>if g = -1 then none else dstG (T g) (l.drop 2)
    | none=>none
  else dstG (T (-1)) l
def tailP (g d : Int) (dst : Bool) (l : List (List UInt8)) : Option OpV:=match l with
  | w :: ws=>match idxK w with
    | some k=>if dst = hasDst k then (nums ws (cntK k)).map (mkOp k g d) else none
    | none=>none
  | []=>none
def opP (line : List UInt8) : Option OpV:=opG tailP (spl line)
def tailR (line : List UInt8) (g d : Int) (dst : Bool) (l : List (List UInt8)) : Option OpV:=match l with
  | w :: ws=>match idxK w with
    | some k=>match nums ws (cntK k) with
      | some n=>if opX (mkOp k g d n) = line then some (mkOp k g d n) else none
      | none=>none
    | none=>none
  | []=>none
def opQ (line : List UInt8) : Option OpV:=opG (tailR line) (spl line)
def argL (o : OpV) : List Int:=operL o++(if hasN o.k then [o.n] else [])
def tlX (o : OpV) : List (List UInt8):=nmK o.k :: (argL o).map itoa
def dsX (o : OpV) : List (List UInt8):=(if hasDst o.k then [itoa o.d,[61]] else [])++tlX o
def pcX (o : OpV) : List (List UInt8):=(if decide (o.g≠-1) then [[63],itoa o.g] else [])++dsX o
theorem join_map (w : List UInt8) (n : List Int) : Lib.join (w :: n.map itoa) [32] = w++catI n:=by
  rw [join_cons]
  simp [joinTail,catI,List.map_map,Function.comp_def]
theorem join_pre (x : List UInt8) {l : List (List UInt8)} (h : l≠[]) : Lib.join (x :: l) [32] = x++32 :: Lib.join l [32]:=by
  cases l with
  | nil=>exact absurd rfl h
  | cons y r =>
    rw [join_cons,join_cons]
    simp [joinTail]
theorem join_tl (o : OpV) : Lib.join (tlX o) [32] = nmK o.k++catI (operL o)++numX o:=by
  rw [tlX,join_map]
  unfold argL numX catI
  rw [List.map_append,List.flatten_append,← List.append_assoc]
  split<;>simp
theorem join_pc (o : OpV) : Lib.join (pcX o) [32] = opX o:=by
  have h1:=join_tl o
  have hne : tlX o≠[]:=by simp [tlX]
  have hds : Lib.join (dsX o) [32] = dstX o++(nmK o.k++catI (operL o)++numX o):=by
    unfold dsX dstX
    split
    · show Lib.join (itoa o.d :: [61] :: tlX o) [32] = _
      rw [join_pre _ (by simp),join_pre _ hne,h1]
      simp
    · simpa using h1
  have hne2 : dsX o≠[]:=by simp [dsX,tlX]
  unfold pcX opX grdX
  split
  · show Lib.join ([63] :: itoa o.g :: dsX o) [32] = _
    rw [join_pre _ (by simp),join_pre _ hne2,hds]
    simp
  · simp only [List.nil_append,hds,List.append_assoc]
theorem nm_no {k : Int} (c : UInt8) (h : oneK k = true) (hc : c.toNat < 97) : c ∉ nmK k:=fun hm=>by
  have:=(nmK_of h).2.2 c hm
  omega
theorem itoa_no (n : Int) {c : UInt8} (h : ¬ (c.toNat = 45∨(48≤c.toNat∧c.toNat≤57))) : c ∉ itoa n:=fun hm=>by
  unfold itoa at hm
  split at hm
  · rcases List.mem_cons.1 hm with rfl | hm
    · exact h (.inl rfl)
    · exact h (.inr (decDigits_mem _ _ hm))
  · exact h (.inr (decDigits_mem _ _ hm))
theorem pc_no {o : OpV} (h : oneK o.k = true) {c : UInt8} (hc : c.toNat < 45) : ∀ p ∈ pcX o,c ∉ p:=fun p hp=>by
  have hi : ∀ n : Int,c ∉ itoa n:=fun n=>itoa_no n (by omega)
  unfold pcX dsX tlX at hp
  simp only [List.mem_append,List.mem_cons] at hp
  rcases hp with hp | hp | rfl | hp
  · split at hp
    · simp only [List.mem_cons,List.not_mem_nil,or_false] at hp
      rcases hp with rfl | rfl
      · simp only [List.mem_singleton]
        rintro rfl
        exact absurd hc (by decide)
      · exact hi _
    · cases hp
  · split at hp
    · simp only [List.mem_cons,List.not_mem_nil,or_false] at hp
      rcases hp with rfl | rfl
      · exact hi _
      · simp only [List.mem_singleton]
        rintro rfl
        exact absurd hc (by decide)
    · cases hp
  · exact nm_no _ h (by omega)
  · obtain ⟨n,_,rfl⟩:=List.mem_map.1 hp
    exact hi n
theorem spl_opX {o : OpV} (h : oneK o.k = true) : spl (opX o) = pcX o:=by
  have h2:=pc_no h (c:=32) (by decide)
  rw [←join_pc]
  cases hp : pcX o with
  | nil=>simp [pcX,dsX,tlX] at hp
  | cons x r =>
    rw [hp] at h2
    exact spl_join r x (h2 x (List.mem_cons_self ..)) fun y hy=>h2 y (List.mem_cons_of_mem _ hy)
end Go.VX.Seat
end
section
set_option maxRecDepth 4000
namespace Go.VX.Seat
open Go.Proofs Go.Lib
structure CanO (o : OpV) : Prop where
  k : oneK o.k = true
  i : OpI o
  d : hasDst o.k = false→o.d = 0
  a : hasA o.k = false→o.a = 0
  b : hasB o.k = false→o.b = 0
  c : hasC o.k = false→o.c = 0
  n : hasN o.k = false→o.n = 0
theorem has_chain (k : Int) : (hasB k = true→hasA k = true)∧(hasC k = true→hasB k = true):=by
  constructor
  · intro h
    simp only [hasA,hasB,Bool.or_eq_true,Bool.and_eq_true,decide_eq_true_eq] at h ⊢
    omega
  · intro h
    simp only [hasC,hasB,Bool.or_eq_true,Bool.and_eq_true,decide_eq_true_eq] at h ⊢
    omega
theorem arg_len (o : OpV) : (argL o).length = cntK o.k:=by
  unfold argL operL cntK b2
  cases hasA o.k<;>cases hasB o.k<;>cases hasC o.k<;>cases hasN o.k<;>rfl
theorem arg_I {o : OpV} (h : OpI o) : ∀ x ∈ argL o,I64 x:=fun x hx=>by
  unfold argL at hx
  rcases List.mem_append.1 hx with hx | hx
  · exact operL_I h x hx
  · split at hx
    · rcases List.mem_singleton.1 hx with rfl; exact h.n
    · cases hx
theorem mkOp_arg {o : OpV} (h : CanO o) : mkOp o.k o.g o.d (argL o) = o:=by
  obtain ⟨h1,h2⟩:=has_chain o.k
  have ha:=h.a
  have hb:=h.b
  have hc:=h.c
  have hn:=h.n
  obtain ⟨k,d,a,b,c,n,g⟩:=o
  simp only [mkOp,argL,operL,cntK,b2] at *
  cases hA : hasA k<;>cases hB : hasB k<;>cases hC : hasC k<;>cases hN : hasN k
  all_goals simp only [hA,hB,hC,hN,forall_const,Bool.true_eq_false,false_implies,Bool.false_eq_true,reduceCtorEq] at *
  all_goals first | contradiction | skip
  all_goals simp_all
theorem arg_aux (A B C D : Bool) (h1 : B = true→A = true) (h2 : C = true→B = true) (n : List Int) (hl : n.length = b2 A + b2 B + b2 C + b2 D) :
    (if A then [if A then n.getD 0 0 else 0] else [])++(if B then [if B then n.getD 1 0 else 0] else [])++(if C then [if C then n.getD 2 0 else 0] else [])++(if D then [if D then n.getD (b2 A + b2 B + b2 C + b2 D - 1) 0 else 0] else []) = n:=by
  have hle : n.length≤4:=by
    rw [hl]
    cases A<;>cases B<;>cases C<;>cases D<;>simp [b2]
  match n,hle with
  | [],_=>cases A<;>cases B<;>cases C<;>cases D<;>simp_all [b2]
  | [x],_=>cases A<;>cases B<;>cases C<;>cases D<;>simp_all [b2]
  | [x,y],_=>cases A<;>cases B<;>cases C<;>cases D<;>simp_all [b2]
  | [x,y,z],_=>cases A<;>cases B<;>cases C<;>cases D<;>simp_all [b2]
  | [x,y,z,w],_=>cases A<;>cases B<;>cases C<;>cases D<;>simp_all [b2]
theorem arg_mk {k g d : Int} {n : List Int} (hl : n.length = cntK k) : argL (mkOp k g d n) = n :=
  arg_aux (hasA k) (hasB k) (hasC k) (hasN k) (has_chain k).1 (has_chain k).2 n hl
theorem getD_I {n : List Int} (h : ∀ x ∈ n,I64 x) (j : Nat) : I64 (n.getD j 0):=by
  rw [List.getD_eq_getElem?_getD]
  cases e : n[j]? with
  | none=>exact ⟨by decide,by decide⟩
  | some x=>exact h x (List.mem_of_getElem? e)
theorem I64_0 : I64 0:=⟨by decide,by decide⟩
theorem mk_can {k g d : Int} {n : List Int} (hk : oneK k = true) (hg : I64 g) (hd : I64 d) (hn : ∀ x ∈ n,I64 x) : CanO (mkOp k g (if hasDst k then d else 0) n):=by
  have hb : 1≤k∧k≤25:=by unfold oneK at hk; simpa using hk
  refine ⟨hk,⟨⟨by show _≤k; omega,by show k≤_; omega⟩,?_,?_,?_,?_,?_,hg⟩,?_,?_,?_,?_,?_⟩
  · show I64 (if hasDst k then d else 0)
    split
    · exact hd
    · exact I64_0
  · show I64 (if hasA k then _ else 0)
    split
    · exact getD_I hn _
    · exact I64_0
  · show I64 (if hasB k then _ else 0)
    split
    · exact getD_I hn _
    · exact I64_0
  · show I64 (if hasC k then _ else 0)
    split
    · exact getD_I hn _
    · exact I64_0
  · show I64 (if hasN k then _ else 0)
    split
    · exact getD_I hn _
    · exact I64_0
  all_goals
    intro h
    have h : _ = false:=h
    simp only [mkOp] at h ⊢
    rw [if_neg (by rw [h]; decide)]
theorem opG_opX {o : OpV} (hk : oneK o.k = true) (hi : OpI o) (hd : hasDst o.k = false→o.d = 0) (T : Int→Int→Bool→List (List UInt8)→Option OpV) : opG T (spl (opX o)) = T o.g o.d (hasDst o.k) (tlX o):=by
  have hnm:=nmK_of hk
  have e63 : nmK o.k≠[63]:=fun e=>by
    have:=hnm.2.2 63 (by rw [e]; simp)
    exact absurd this (by decide)
  have i63 : ∀ n : Int,itoa n≠[63]:=fun n e=>itoa_no n (c:=63) (by decide) (by rw [e]; simp)
  have i61 : ∀ n : Int,itoa n≠[61]:=fun n e=>itoa_no n (c:=61) (by decide) (by rw [e]; simp)
  have key : ∀ g : Int,dstG (T g) (dsX o) = T g o.d (hasDst o.k) (tlX o):=fun g=>by
    unfold dstG dsX
    cases hD : hasDst o.k
    · simp only [Bool.false_eq_true,if_false,List.nil_append]
      rw [if_neg,hd hD]
      rintro ⟨_,h⟩
      unfold tlX at h
      cases ha : argL o with
      | nil=>rw [ha] at h; simp at h
      | cons a r=>rw [ha] at h; simp only [List.map_cons,List.getD_cons_succ,List.getD_cons_zero] at h; exact i61 a h
    · simp only [if_true]
      have : (([itoa o.d,[61]] : List (List UInt8))++tlX o) = itoa o.d :: [61] :: tlX o:=rfl
      rw [this,if_pos ⟨by simp [tlX],rfl⟩,List.getD_cons_zero,readN_itoa hi.d]
      rfl
  rw [spl_opX hk]
  unfold opG pcX
  cases hg : decide (o.g≠-1)
  · simp only [Bool.false_eq_true,if_false,List.nil_append]
    have e : o.g = -1:=by simpa using hg
    rw [if_neg,← e,key]
    rintro ⟨_,h⟩
    unfold dsX at h
    split at h
    · exact i63 _ h
    · exact e63 h
  · simp only [if_true]
    have e : o.g≠-1:=by simpa using hg
    have : (([[63],itoa o.g] : List (List UInt8))++dsX o) = [63] :: itoa o.g :: dsX o:=rfl
    rw [this,if_pos ⟨by simp only [List.length_cons,dsX,tlX,List.length_append]; omega,rfl⟩,List.getD_cons_succ,List.getD_cons_zero,readN_itoa hi.g]
    simp only [if_neg e]
    exact key o.g
theorem opG_some {T : Int→Int→Bool→List (List UInt8)→Option OpV} {L : List (List UInt8)} {r : OpV} (h : opG T L = some r) :
    ∃ g d dst l,T g d dst l = some r∧I64 g∧I64 d∧(dst = false→d = 0)∧L = (if decide (g≠-1) then [[63],itoa g] else [])++((if dst then [itoa d,[61]] else [])++l):=by
  have key : ∀ {T : Int→Bool→List (List UInt8)→Option OpV} {L : List (List UInt8)},dstG T L = some r→∃ d dst l,T d dst l = some r∧I64 d∧(dst = false→d = 0)∧L = (if dst then [itoa d,[61]] else [])++l:=fun {T L} h=>by
    unfold dstG at h
    split at h
    · rename_i hc
      split at h
      · rename_i d hd
        obtain ⟨e1,e2⟩:=readN_some hd
        refine ⟨d,true,_,h,e2,(fun e=>nomatch e),?_⟩
        match L,hc with
        | a :: b :: t,hc =>
          simp only [List.getD_cons_zero,List.getD_cons_succ] at e1 hc
          rw [hc.2,e1]
          rfl
        | [a],hc=>simp at hc
        | [],hc=>simp at hc
      · cases h
    · exact ⟨0,false,L,h,I64_0,fun _=>rfl,rfl⟩
  unfold opG at h
  split at h
  · rename_i hc
    split at h
    · rename_i g hg
      split at h
      · cases h
      · rename_i hne
        obtain ⟨e1,e2⟩:=readN_some hg
        obtain ⟨d,dst,l,h1,h2,h3,h4⟩:=key h
        refine ⟨g,d,dst,l,h1,e2,h2,h3,?_⟩
        rw [if_pos (by simpa using hne),← h4]
        match L,hc with
        | a :: b :: t,hc =>
          simp only [List.getD_cons_zero,List.getD_cons_succ] at e1 hc
          rw [hc.2,e1]
          rfl
        | [a],hc=>simp at hc
        | [],hc=>simp at hc
    · cases h
  · obtain ⟨d,dst,l,h1,h2,h3,h4⟩:=key h
    exact ⟨-1,d,dst,l,h1,⟨by decide,by decide⟩,h2,h3,by rw [if_neg (by simp)]; exact h4⟩
theorem opP_opX {o : OpV} (h : CanO o) : opP (opX o) = some o:=by
  unfold opP
  rw [opG_opX h.k h.i h.d]
  unfold tailP tlX
  simp only [idxK_nm h.k,if_true,nums_itoa (arg_len o) (arg_I h.i),Option.map_some,mkOp_arg h]
theorem opQ_opX {o : OpV} (h : CanO o) : opQ (opX o) = some o:=by
  unfold opQ
  rw [opG_opX h.k h.i h.d]
  unfold tailR tlX
  simp only [idxK_nm h.k,if_true,nums_itoa (arg_len o) (arg_I h.i),mkOp_arg h]
theorem opP_some {line : List UInt8} {o : OpV} (h : opP line = some o) : line = opX o∧CanO o:=by
  unfold opP at h
  obtain ⟨g,d,dst,l,hT,hg,hd,hd0,hL⟩:=opG_some h
  unfold tailP at hT
  split at hT
  · rename_i w ws
    split at hT
    · rename_i k hk
      split at hT
      · rename_i hdst
        cases hn : nums ws (cntK k) with
        | none=>rw [hn] at hT; cases hT
        | some n =>
          rw [hn] at hT
          cases hT
          obtain ⟨e1,e2,e3⟩:=nums_some hn
          obtain ⟨hk1,hk2⟩:=idxK_some hk
          have hc:=mk_can (g:=g) (d:=d) hk1 hg hd e3
          have hdd : (if hasDst k then d else 0) = d:=by
            cases hD : hasDst k
            · rw [if_neg (by simp),hd0 (by rw [hdst,hD])]
            · rfl
          rw [hdd] at hc
          refine ⟨?_,hc⟩
          have hp : pcX (mkOp k g d n) = spl line:=by
            rw [hL]
            unfold pcX dsX tlX
            rw [arg_mk e2]
            show (if decide (g≠-1) then [[63],itoa g] else [])++((if hasDst k then [itoa d,[61]] else [])++(nmK k :: n.map itoa)) = _
            rw [hk2,← e1,hdst]
          rw [←join_pc,hp]
          exact (join_spl 32 line).1.symm
      · cases hT
    · cases hT
  · cases hT
theorem opQ_some {line : List UInt8} {o : OpV} (h : opQ line = some o) : ∃ o',line = opX o'∧CanO o':=by
  unfold opQ at h
  obtain ⟨g,d,dst,l,hT,hg,hd,hd0,hL⟩:=opG_some h
  unfold tailR at hT
  split at hT
  · rename_i w ws
    split at hT
    · rename_i k hk
      split at hT
      · rename_i n hn
        split at hT
        · rename_i hX
          cases hT
          obtain ⟨e1,e2,e3⟩:=nums_some hn
          obtain ⟨hk1,hk2⟩:=idxK_some hk
          refine ⟨_,?_,mk_can (g:=g) (d:=d) hk1 hg hd e3⟩
          rw [←hX]
          have e4 : argL (mkOp k g (if hasDst k then d else 0) n) = argL (mkOp k g d n):=by rw [arg_mk e2,arg_mk e2]
          rw [←join_pc,← join_pc]
          unfold pcX dsX tlX
          rw [e4]
          show Lib.join ((if decide (g≠-1) then [[63],itoa g] else [])++((if hasDst k then [itoa d,[61]] else [])++(nmK k :: (argL (mkOp k g d n)).map itoa))) [32] = Lib.join ((if decide (g≠-1) then [[63],itoa g] else [])++((if hasDst k then [itoa (if hasDst k then d else 0),[61]] else [])++(nmK k :: (argL (mkOp k g d n)).map itoa))) [32]
          cases hasDst k<;>rfl
        · cases hT
      · cases hT
    · cases hT
  · cases hT
theorem opQ_eq (line : List UInt8) : opQ line = opP line:=by
  cases h : opP line with
  | some o =>
    obtain ⟨e,hc⟩:=opP_some h
    rw [e]
    exact opQ_opX hc
  | none =>
    cases h2 : opQ line with
    | none=>rfl
    | some o =>
      obtain ⟨o',e,hc⟩:=opQ_some h2
      rw [e,opP_opX hc] at h
      cases h
end Go.VX.Seat
end
section
set_option maxRecDepth 4000
namespace Go.VX.Seat
open Go.Proofs Go.Lib
def cutC (s : UInt8) : List UInt8→List UInt8 × List UInt8 × Bool
  | []=>([],[],false)
  | x :: r=>if x = s then ([],r,true) else (x :: (cutC s r).1,(cutC s r).2)
theorem cutC_hit {s : UInt8} : ∀ {a b : List UInt8},s ∉ a→cutC s (a++s :: b) = (a,b,true)
  | [],b,_=>by
    show cutC s (s :: b) = _
    rw [cutC,if_pos rfl]
  | c :: r,b,h=>by
    simp only [List.mem_cons,not_or] at h
    show cutC s (c :: (r++s :: b)) = _
    rw [cutC,if_neg (fun e=>h.1 e.symm),cutC_hit h.2]
theorem cutC_miss {s : UInt8} : ∀ {a : List UInt8},s ∉ a→cutC s a = (a,[],false)
  | [],_=>rfl
  | c :: r,h=>by
    simp only [List.mem_cons,not_or] at h
    rw [cutC,if_neg (fun e=>h.1 e.symm),cutC_miss h.2]
theorem cut_cases (s : UInt8) (l : List UInt8) : (∃ a b,l = a++s :: b∧s ∉ a∧cutC s l = (a,b,true)∧splC s l = a :: splC s b)∨(s ∉ l∧cutC s l = (l,[],false)∧splC s l = [l]):=by
  by_cases h : s ∈ l
  · obtain ⟨a,b,e,h2⟩:=List.eq_append_cons_of_mem h
    subst e
    exact .inl ⟨a,b,rfl,h2,cutC_hit h2,spl_hit h2⟩
  · exact .inr ⟨h,cutC_miss h,spl_miss h⟩
def w_unit : List UInt8:=[117,110,105,116]
def w_array : List UInt8:=[97,114,114,97,121]
def w_block : List UInt8:=[98,108,111,99,107]
def setLast (U : UnitV) (f : BlkV→BlkV) : UnitV:={ U with blocks:=U.blocks.set (U.blocks.length - 1) (f (U.blocks.getD (U.blocks.length - 1) ⟨[],⟨0,0,0,0⟩,0⟩)) }
def lineB (U : UnitV) (p : List UInt8) : Option (Bool × UnitV) :=
  if p.take 2 = [32,32] then match endP (p.drop 2) with
    | some e=>some (true,setLast U fun b=>{ b with e:=e })
    | none=>match opP (p.drop 2) with
      | some o=>some (false,setLast U fun b=>{ b with ops:=b.ops++[o] })
      | none=>none
  else none
def stepL (s : Nat) (U : UnitV) (p : List UInt8) : Option (Nat × UnitV) :=
  if s = 0 then match headP p w_unit 4 with
    | some n=>some (1,{ U with params:=n.getD 0 0,regs:=n.getD 1 0,code:=n.getD 2 0,spill:=n.getD 3 0 })
    | none=>none
  else if s = 3 then match lineB U p with
    | some (true,V)=>some (1,V)
    | some (false,V)=>some (3,V)
    | none=>none
  else match (if U.blocks.length = 0 then headP p w_array 1 else none) with
    | some n=>some (1,{ U with sizes:=U.sizes++[n.getD 0 0] })
    | none=>match headP p w_block 1 with
      | some n=>some (3,{ U with blocks:=U.blocks++[⟨[],⟨0,0,0,0⟩,n.getD 0 0⟩] })
      | none=>none
def runL (k : Int) (s : Nat) (U : UnitV) : List (List UInt8)→Except Int UnitV
  | []=>.error k
  | [p]=>if p = []∧s = 1 then .ok U else .error k
  | p :: q :: r=>match stepL s U p with
    | some (s',U')=>runL (k + 1) s' U' (q :: r)
    | none=>.error k
theorem runL_one (k : Int) (s : Nat) (U : UnitV) (p : List UInt8) : runL k s U [p] = if p = []∧s = 1 then .ok U else .error k:=rfl
theorem runL_cons (k : Int) (s : Nat) (U : UnitV) (p : List UInt8) {t : List (List UInt8)} (h : t≠[]) : runL k s U (p :: t) = match stepL s U p with
    | some (s',U')=>runL (k + 1) s' U' t
    | none=>.error k:=by
  cases t with
  | nil=>exact absurd rfl h
  | cons q r=>rfl
def zeroU : UnitV:=⟨[],0,0,0,0,[]⟩
def runT (s : Nat) (k : Int) (U : UnitV) (t : List UInt8) : Except Int UnitV:=runL k s U (splC 10 t)
theorem runT_eq (s : Nat) (k : Int) (U : UnitV) (t : List UInt8) : runT s k U t = if (cutC 10 t).2.2 then (match stepL s U (cutC 10 t).1 with
      | some (s',U')=>runT s' (k + 1) U' (cutC 10 t).2.1
      | none=>.error k) else if t = []∧s = 1 then .ok U else .error k:=by
  unfold runT
  rcases cut_cases 10 t with ⟨a,b,e,_,hc,hs⟩ | ⟨_,hc,hs⟩
  · rw [hs,hc,runL_cons _ _ _ _ (by obtain ⟨x,y,e⟩:=spl_cons 10 b; rw [e]; simp)]
    rfl
  · rw [hs,hc,runL_one]
    rfl
def parseT (t : List UInt8) : UnitV × Int × Int :=
  if 2000000 < (t.length : Int) then (zeroU,0,3) else match runT 0 1 zeroU t with
    | .error k=>(zeroU,k,4)
    | .ok U=>if chkU U = 0 then (U,0,0) else (zeroU,0,chkU U)
end Go.VX.Seat
end
open Go.VX.AV renaming cell? → xc, toV → xd
open Int renaming reduceAdd → xe, reduceLE → xf, reduceLT → xg, reduceNeg → xh, reduceToNat → xi
open Nat renaming reduceAdd → xj, reduceEqDiff → xk, reduceLeDiff → xl, reduceMul → xm, reduceSub → xn
open Go.VX.VOpd renaming ev → xp
open Go.VX renaming asInt? → xq, asNat? → xr, cellVal → xu, cellsV → xv, fillA → xw, partsEv → xy, resOf → xz, splice → ya, tupOf → yb, zeroes → yc
section
set_option maxRecDepth 4000
namespace Go.VX.Seat
open Go.Proofs
abbrev rowsS (ps : List (List UInt8)) : List (List AV):=ps.map fun p=>[sA p]
abbrev StrsAt (S : St) (lo hi : Nat) (v : AV) (ps : List (List UInt8)) : Prop:=ArrAt S lo hi v 1 (rowsS ps)
section
variable {X : Cx} {st : St}
theorem j_Count (h : OnH X) (c : UInt8) (l : List UInt8) (hl : l.length≤3000000) : J X.P X.F X.H (.call 103 [sA l,sA [c]] st (.ret (iA (l.count c : Int))) st):=by
  refine pure_intro (by rw [h.F]; rfl) rfl ?_
  have q1 : closed X.P (Instr.index 9 (.string ⟨[c].toArray⟩) (.int .i64 0)) = some (.int .u8 (c.toNat : Int)):=k_idx h.toOn [c] 0 (by simp)
  have q2 : closed X.P (builtin .len [9].toArray 3 #[] [Value.string ⟨[c].toArray⟩].toArray) = some (Next.value (.int .i64 1)):=k_len h.toOn [c]
  simp only [v_strings_Count,q1,q2,Int.reduceEq,kB,kZ,kD,kE,xn,xi,xm,xe,xf,xg,xh,xl,xk,xj,reduceIte,reduceCtorEq,ya,xz,xu]
  refine callO_same (j_CountByte h l c) ?_
  simp only [kB,kZ,kD,kE,xn,xi,xm,xe,xf,xg,xh,xl,xk,xj,reduceIte,reduceCtorEq,ya,xz,xu]
  first | exact ⟨_,rfl⟩ | exact ⟨rfl,_,rfl⟩ | exact ⟨trivial,_,rfl⟩ | exact ⟨[],(List.append_nil _).symm⟩
theorem j_SIndexByte (h : OnH X) (c : UInt8) (a b : List UInt8) (ha : c ∉ a) : J X.P X.F X.H (.call 136 [sA (a++c :: b),.sc (.int .u8 (c.toNat : Int))] st (.ret (iA (a.length : Int))) st):=by
  refine pure_intro (by rw [h.F]; rfl) rfl ?_
  simp only [v_internal_stringslite_IndexByte,kB,kZ,kD,kE,xn,xi,xm,xe,xf,xg,xh,xl,xk,xj,reduceIte,reduceCtorEq,ya,xz,xu]
  refine callO_same (j_IndexByte h a b c ha) ?_
  simp only [kB,kZ,kD,kE,xn,xi,xm,xe,xf,xg,xh,xl,xk,xj,reduceIte,reduceCtorEq,ya,xz,xu]
  first | exact ⟨_,rfl⟩ | exact ⟨rfl,_,rfl⟩ | exact ⟨trivial,_,rfl⟩ | exact ⟨[],(List.append_nil _).symm⟩
theorem j_SIndex (h : OnH X) (c : UInt8) (a b : List UInt8) (ha : c ∉ a) (hl : a.length + b.length≤3000000) : J X.P X.F X.H (.call 126 [sA (a++c :: b),sA [c]] st (.ret (iA (a.length : Int))) st):=by
  refine pure_intro (by rw [h.F]; rfl) rfl ?_
  have q1 : closed X.P (Instr.index 9 (.string ⟨[c].toArray⟩) (.int .i64 0)) = some (.int .u8 (c.toNat : Int)):=k_idx h.toOn [c] 0 (by simp)
  have q2 : closed X.P (builtin .len [9].toArray 3 #[] [Value.string ⟨[c].toArray⟩].toArray) = some (Next.value (.int .i64 1)):=k_len h.toOn [c]
  have q3 : closed X.P (do eqGuard .eql 9 (.tmp 0) (.tmp 0) (.string ⟨[c].toArray⟩) (.string ⟨(a++c :: b).toArray⟩); binOp .eql 9 (.string ⟨[c].toArray⟩) (.string ⟨(a++c :: b).toArray⟩)) = some (.bool (decide ([c] = a++c :: b))):=k_eq X.P (.tmp 0) (.tmp 0) [c] (a++c :: b)
  cases hd : decide ([c] = a++c :: b)
  · simp only [v_internal_stringslite_Index,q1,q2,q3,hd,Int.reduceEq,kB,kZ,kD,kE,xn,xi,xm,xe,xf,xg,xh,xl,xk,xj,reduceIte,reduceCtorEq,ya,xz,xu]
    refine callO_same (j_SIndexByte h c a b ha) ?_
    simp only [kB,kZ,kD,kE,xn,xi,xm,xe,xf,xg,xh,xl,xk,xj,reduceIte,reduceCtorEq,ya,xz,xu]
    first | exact ⟨_,rfl⟩ | exact ⟨rfl,_,rfl⟩ | exact ⟨trivial,_,rfl⟩ | exact ⟨[],(List.append_nil _).symm⟩
  · have e:=of_decide_eq_true hd
    have ha0 : a = []:=by
      cases a with
      | nil=>rfl
      | cons d r=>simp at e
    have e0 : ((a.length : Nat) : Int) = 0:=by rw [ha0]; rfl
    simp only [v_internal_stringslite_Index,q1,q2,q3,hd,e0,Int.reduceEq,kB,kZ,kD,kE,xn,xi,xm,xe,xf,xg,xh,xl,xk,xj,reduceIte,reduceCtorEq,ya,xz,xu]
    first | exact ⟨_,rfl⟩ | exact ⟨rfl,_,rfl⟩ | exact ⟨trivial,_,rfl⟩ | exact ⟨[],(List.append_nil _).symm⟩
theorem j_Index (h : OnH X) (c : UInt8) (a b : List UInt8) (ha : c ∉ a) (hl : a.length + b.length≤3000000) : J X.P X.F X.H (.call 104 [sA (a++c :: b),sA [c]] st (.ret (iA (a.length : Int))) st):=by
  refine pure_intro (by rw [h.F]; rfl) rfl ?_
  simp only [v_strings_Index,kB,kZ,kD,kE,xn,xi,xm,xe,xf,xg,xh,xl,xk,xj,reduceIte,reduceCtorEq,ya,xz,xu]
  refine callO_same (j_SIndex h c a b ha hl) ?_
  simp only [kB,kZ,kD,kE,xn,xi,xm,xe,xf,xg,xh,xl,xk,xj,reduceIte,reduceCtorEq,ya,xz,xu]
  first | exact ⟨_,rfl⟩ | exact ⟨rfl,_,rfl⟩ | exact ⟨trivial,_,rfl⟩ | exact ⟨[],(List.append_nil _).symm⟩
end
end Go.VX.Seat
end
section
set_option maxRecDepth 4000
namespace Go.VX.Seat
open Go.Proofs
theorem hit_of {c : UInt8} {t : List UInt8} (h : t.count c≠0) : ∃ a b,t = a++c :: b∧c ∉ a:=by
  have : c ∈ t:=by
    rw [←List.count_pos_iff]; omega
  obtain ⟨a,b,e,h2⟩:=List.eq_append_cons_of_mem this
  exact ⟨a,b,e,h2⟩
theorem miss_of {c : UInt8} {t : List UInt8} (h : t.count c = 0) : c ∉ t:=List.count_eq_zero.1 h
section
variable {X : Cx} {st : St}
set_option maxHeartbeats 2000000 in
theorem w_genSplit (h : OnH X) (c : UInt8) (l : List UInt8) (hl : l.length≤3000000) : wpF X 81 [sA l,sA [c],iA 0,iA (-1)] st fun r S=>∃ v m hi,r = .ret v∧S = st++m∧StrsAt S st.length hi v (splC c l):=by
  refine wpF_go (fn:=v_strings_genSplit) (by rw [h.F]; rfl) ?_
  obtain ⟨N,hN⟩ : ∃ N,l.count c = N:=⟨_,rfl⟩
  have hNl : N≤l.length:=by rw [←hN]; exact List.count_le_length
  have q3 : closed X.P (do eqGuard .eql 9 (.tmp 0) (.tmp 0) (.string ⟨[c].toArray⟩) (.string ⟨#[]⟩); binOp .eql 9 (.string ⟨[c].toArray⟩) (.string ⟨#[]⟩)) = some (.bool false):=k_eq X.P (.tmp 0) (.tmp 0) [c] []
  have q3' : closed X.P (do eqGuard .eql 9 (.const (.string ⟨[c].toArray⟩)) (.tmp 0) (.string ⟨[c].toArray⟩) (.string ⟨#[]⟩); binOp .eql 9 (.string ⟨[c].toArray⟩) (.string ⟨#[]⟩)) = some (.bool false):=k_eq X.P _ (.tmp 0) [c] []
  have q1:=k_len h.toOn l
  have hw1 : IntKind.wrap .i64 ((N : Int) + 1) = ((N + 1 : Nat) : Int):=by rw [wrap_small (by omega) (by omega)]; omega
  have hw2 : IntKind.wrap .i64 ((l.length : Int) + 1) = ((l.length + 1 : Nat) : Int):=by rw [wrap_small (by omega) (by omega)]; omega
  have hmin : min ((N + 1 : Nat) : Int) ((l.length + 1 : Nat) : Int) = ((N + 1 : Nat) : Int):=by omega
  have hw3 : IntKind.wrap .i64 (((N + 1 : Nat) : Int) - 1) = (N : Int):=by rw [wrap_small (by omega) (by omega)]; omega
  have j1:=j_Count (st:=st++[]) h c l (by omega)
  rw [hN] at j1
  simp only [v_strings_genSplit,q3,q3',Int.reduceEq,kB,kZ,kD,kE,xn,xi,xm,xe,xf,xg,xh,xl,xk,xj,reduceIte,reduceCtorEq,ya,xz,xu]
  refine callO_same j1 ?_
  simp only [q1,hw1,hw2,hmin,kB,kZ,kD,kE,xn,xi,xm,xe,xf,xg,xh,xl,xk,xj,reduceIte,reduceCtorEq,ya,xz,xu]
  rw [if_pos (show (0 : Int)≤((N + 1 : Nat) : Int) by omega)]
  dsimp only
  rw [if_pos ⟨Nat.le_refl _,by omega⟩]
  refine ⟨keptA_nil _ _ _,?_⟩
  rw [beq_self_eq_true,List.flatten_replicate_singleton]
  have hcell : List.replicate (N + 1) (AV.sc (Value.string ⟨#[]⟩)) = (List.replicate (N + 1) ([] : List UInt8)).map sA:=by rw [List.map_replicate]
  rw [hcell]
  simp only [hw3,kB,kZ,kD,kE,xn,xi,xm,xe,xf,xg,xh,xl,xk,xj,reduceIte,reduceCtorEq,ya,xz,xu]
  have hq2 : closed X.P (builtin .len [9].toArray 3 #[] [Value.string ⟨[c].toArray⟩].toArray) = some (Next.value (.int .i64 1)):=k_len h.toOn [c]
  refine anyLoop (mB m0) (fun e s=>∃ (bx : Nat) (t : List UInt8) (ps : List (List UInt8)) (ver : Nat),e 0 = sA t∧e 9 = .sl bx 0 (N + 1) 1 true∧e 10 = iA N∧bx = st.length∧s[bx]? = some ⟨ps.map sA,0,ver⟩∧(∃ m,s = st++m)∧ps.length = N + 1∧ps.take N++splC c t = splC c l∧t.count c = 0) ?_ ?_
  · refine loop_inv (fun k e s=>∃ (i bx : Nat) (t : List UInt8) (ps : List (List UInt8)) (ver : Nat),i + k = N∧e 0 = sA t∧e 1 = sA [c]∧e 2 = iA 0∧e 3 = iA N∧e 9 = .sl bx 0 (N + 1) 1 true∧e 10 = iA i∧bx = st.length∧s[bx]? = some ⟨ps.map sA,0,ver⟩∧(∃ m,s = st++m)∧ps.length = N + 1∧ps.take i++splC c t = splC c l∧t.count c = k∧t.length≤3000000) ?_ N ?_
    case refine_2=>exact ⟨0,_,l,List.replicate (N + 1) [],0,by omega,rfl,rfl,rfl,rfl,rfl,rfl,by simp,by simp; rfl,⟨_,rfl⟩,by simp,rfl,hN,hl⟩
    rintro k e s ⟨i,bx,t,ps,ver,hik,k0,k1,k2,k3,k9,k10,rfl,hb,hpre,hpl,hps,hct,htl⟩
    simp only [k0,k1,k2,k3,k9,k10,kB,kZ,kD,kE,xn,xi,xm,xe,xf,xg,xh,xl,xk,xj,reduceIte,reduceCtorEq,ya,xz,xu]
    refine condO_intro ?_ ?_<;>intro hc
    case refine_2 =>
      have hi : i = N:=by have:=of_decide_eq_false hc; omega
      subst hi
      have hk : k = 0:=by omega
      subst hk
      simp only [k0,k1,k2,k3,k9,k10,kB,kZ,kD,kE,xn,xi,xm,xe,xf,xg,xh,xl,xk,xj,reduceIte,reduceCtorEq,ya,xz,xu]
      exact ⟨_,t,ps,ver,rfl,rfl,rfl,hb,hpre,hpl,hps,hct⟩
    have hi : i < N:=by have:=of_decide_eq_true hc; omega
    obtain ⟨a,b,rfl,ha⟩:=hit_of (c:=c) (t:=t) (by omega)
    simp only [List.length_append,List.length_cons] at htl
    have hnn : decide ((a.length : Int) < 0) = false:=decide_eq_false (by omega)
    have hwa : IntKind.wrap .i64 ((a.length : Int) + 0) = (a.length : Int):=by rw [wrap_small (by omega) (by omega)]; omega
    have hwb : IntKind.wrap .i64 ((a.length : Int) + 1) = ((a.length + 1 : Nat) : Int):=by rw [wrap_small (by omega) (by omega)]; omega
    have hwi : IntKind.wrap .i64 ((i : Int) + 1) = ((i + 1 : Nat) : Int):=by rw [wrap_small (by omega) (by omega)]; omega
    have g0:=k_sl0 h.toOn (a++c :: b) a.length (by simp)
    have g1:=k_sl1 h.toOn (a++c :: b) (a.length + 1) (by simp)
    rw [List.take_left] at g0
    have hd1 : (a++c :: b).drop (a.length + 1) = b:=by rw [←List.drop_drop,List.drop_left]; rfl
    rw [hd1] at g1
    have hel : elemA (.sl st.length 0 (N + 1) 1 true) 1 (i : Int) = some (.ptr st.length i):=by
      rw [elemA_sl,if_pos ⟨by omega,by omega,rfl⟩]
      simp
    have hput:=put_box (o:=i) (vs:=[sA a]) hb (by simp; omega) rfl
    have hsp : splice (ps.map sA) i [sA a] = (ps.set i a).map sA:=by
      rw [List.map_set,List.set_eq_take_append_cons_drop,if_pos (by simp; omega)]
      simp [splice]
    have hag:=Agree.set s st.length ⟨splice (ps.map sA) i [sA a],0,ver + 1⟩
    have hb2 : (s.set st.length ⟨splice (ps.map sA) i [sA a],0,ver + 1⟩)[st.length]? = some ⟨(ps.set i a).map sA,0,ver + 1⟩:=by rw [List.getElem?_set_self (List.getElem?_eq_some_iff.1 hb).1,hsp]
    have hpre2:=hag.ext hpre fun b hb e=>by omega
    generalize (s.set st.length ⟨splice (ps.map sA) i [sA a],0,ver + 1⟩ : St) = s2 at *
    have hps2 : (ps.set i a).take (i + 1)++splC c b = splC c l:=by
      rw [←hps,spl_hit ha,List.take_set,List.take_succ_eq_append_getElem (by omega),List.set_append_right _ _ (by simp; omega)]
      have : i - min i ps.length = 0:=by omega
      simp [this]
    have hct2 : b.count c = k - 1:=by
      rw [List.count_append,List.count_cons_self,List.count_eq_zero.2 ha] at hct
      omega
    simp only [k0,k1,k2,k3,k9,k10,kB,kZ,kD,kE,xn,xi,xm,xe,xf,xg,xh,xl,xk,xj,reduceIte,reduceCtorEq,ya,xz,xu]
    refine callO_same (j_Index h c a b ha (by omega)) ?_
    simp only [k0,k1,k2,k3,k9,k10,hnn,hwa,hwb,hwi,g0,g1,hq2,hel,hput,Option.map_none,kB,kZ,kD,kE,xn,xi,xm,xe,xf,xg,xh,xl,xk,xj,reduceIte,reduceCtorEq,ya,xz,xu]
    exact ⟨k - 1,by omega,i + 1,st.length,b,ps.set i a,ver + 1,by omega,rfl,rfl,rfl,rfl,hb2,hpre2,by simp [hpl],hps2,hct2,by omega⟩
  rintro e s ⟨bx,t,ps,ver,k0,k9,k10,rfl,hb,hpre,hpl,hps,hct⟩
  have hel : elemA (.sl st.length 0 (N + 1) 1 true) 1 (N : Int) = some (.ptr st.length N):=by
    rw [elemA_sl,if_pos ⟨by omega,by omega,rfl⟩]
    simp
  have hput:=put_box (o:=N) (vs:=[sA t]) hb (by simp; omega) rfl
  have hsp : splice (ps.map sA) N [sA t] = (ps.take N++[t]).map sA:=by
    simp [splice,hpl]
  have hag:=Agree.set s st.length ⟨splice (ps.map sA) N [sA t],0,ver + 1⟩
  have hfl : ∀ q : List (List UInt8),(rowsS q).flatten = q.map sA:=fun q=>by
    induction q with
    | nil=>rfl
    | cons a r ih=>simp only [List.map_cons,List.flatten_cons,ih]; rfl
  have hb2 : (s.set st.length ⟨splice (ps.map sA) N [sA t],0,ver + 1⟩)[st.length]? = some ⟨(rowsS (splC c l)).flatten,0,ver + 1⟩:=by
    rw [List.getElem?_set_self (List.getElem?_eq_some_iff.1 hb).1,hsp,hfl,← hps,spl_miss (miss_of hct)]
  have hpre2:=hag.ext hpre fun b hb e=>by omega
  generalize (s.set st.length ⟨splice (ps.map sA) N [sA t],0,ver + 1⟩ : St) = s2 at *
  have hll : (splC c l).length = N + 1:=by rw [spl_len,hN]
  have ha : ArrAt s2 st.length (st.length + 1) (.sl st.length 0 (N + 1) 1 true) 1 (rowsS (splC c l)):=ArrAt.ofBox hb2 (by decide) (fun r hr=>by obtain ⟨p,_,rfl⟩:=List.mem_map.1 hr; rfl) (by simp [hll])
  simp only [k0,k9,k10,hel,hput,hw1,kB,kZ,kD,kE,xn,xi,xm,xe,xf,xg,xh,xl,xk,xj,reduceIte,reduceCtorEq,ya,xz,xu]
  refine opR_pre (vx:=.sl st.length 0 (N + 1) 1 true) (n:=N + 1) (by simp only [kB,kZ,kD,kE,xn,xi,xm,xe,xf,xg,xh,xl,xk,xj,reduceIte,reduceCtorEq,ya,xz,xu]) (by first | (simp only [kB,kZ,kD,kE,xn,xi,xm,xe,xf,xg,xh,xl,xk,xj,reduceIte,reduceCtorEq,ya,xz,xu]; done) | (simp only [kB,kZ,kD,kE,xn,xi,xm,xe,xf,xg,xh,xl,xk,xj,reduceIte,reduceCtorEq,ya,xz,xu]; rw [if_pos (by omega)])) ha (by simp [hll]) ?_
  intro w hw
  refine ⟨keptA_nil _ _ _,?_⟩
  rw [List.take_of_length_le (by simp [hll])] at hw
  simp only [kB,kZ,kD,kE,xn,xi,xm,xe,xf,xg,xh,xl,xk,xj,reduceIte,reduceCtorEq,ya,xz,xu]
  obtain ⟨m,rfl⟩:=hpre2
  exact ⟨w,m,_,rfl,rfl,hw⟩
theorem w_Split (h : OnH X) (c : UInt8) (l : List UInt8) (hl : l.length≤3000000) : wpF X 47 [sA l,sA [c]] st fun r S=>∃ v m hi,r = .ret v∧S = st++m∧StrsAt S st.length hi v (splC c l):=by
  refine wpF_go (fn:=v_strings_Split) (by rw [h.F]; rfl) ?_
  simp only [v_strings_Split,kB,kZ,kD,kE,xn,xi,xm,xe,xf,xg,xh,xl,xk,xj,reduceIte,reduceCtorEq,ya,xz,xu]
  refine wpF.mono (w_genSplit (st:=st++[]) h c l hl) ?_
  rintro r S ⟨v,m,hi,rfl,rfl,ha⟩
  refine ⟨keptA_nil _ _ _,?_⟩
  simp only [kB,kZ,kD,kE,xn,xi,xm,xe,xf,xg,xh,xl,xk,xj,reduceIte,reduceCtorEq,ya,xz,xu]
  simp only [List.append_nil] at ha
  exact ⟨v,m,hi,rfl,rfl,ha⟩
end
end Go.VX.Seat
end
section
set_option maxRecDepth 4000
namespace Go.VX.Seat
open Go.Proofs Go.Lib
section
variable {X : Cx} {st : St}
theorem readN_ok {l : List UInt8} {n : Int} (h : atoiAll l = .ok n) : atoiL l = n∧atoiE (sB l) = .sc .nilIface:=by
  have e : (sB l).data.toList = l:=rfl
  refine ⟨?_,?_⟩
  · show atoiV _ = n
    unfold atoiV
    rw [show ((⟨l.toArray⟩ : ByteArray)).data.toList = l from rfl,h]
  · unfold atoiE
    rw [e,h]
theorem readN_bad {l : List UInt8} (h : ∀ n,atoiAll l≠.ok n) : atoiE (sB l) = .err:=by
  have e : (sB l).data.toList = l:=rfl
  unfold atoiE
  rw [e]
  cases hz : atoiAll l with
  | ok n=>exact absurd hz (h n)
  | _=>rfl
def numE (l : List UInt8) : Int:=(readN l).getD 0
def errE (l : List UInt8) : Int:=if (readN l).isSome then 0 else 4
theorem j_word_Read (h : OnH X) (hg : GB st) (l : List UInt8) (hl : l.length≤100000000) : J X.P X.F X.H (.call 119 [sA l] st (.ret (.tup [iA (numE l),iA (errE l)])) st):=by
  refine pure_intro (by rw [h.F]; rfl) rfl ?_
  simp only [v_word_Read,kB,kZ,kD,kE,xn,xi,xm,xe,xf,xg,xh,xl,xk,xj,reduceIte,reduceCtorEq,ya,xz,xu]
  refine callO_same (j_ParseInt h (hg.app _) l hl) ?_
  cases hz : atoiAll l with
  | ok n =>
    obtain ⟨e1,e2⟩:=readN_ok hz
    have ne:=fun ox oy=>k_ne X.P ox oy (itoa n) l
    have hn:=atoiAll_bounds hz
    have hr : readN l = if itoa n = l then some n else none:=by unfold readN; rw [hz]
    simp only [e1,e2,kB,kZ,kD,kE,xn,xi,xm,xe,xf,xg,xh,xl,xk,xj,reduceIte,reduceCtorEq,ya,xz,xu]
    refine callO_same (j_word_Show h (hg.app _) n hn) ?_
    unfold numE errE
    by_cases hc : itoa n = l
    · have : decide (itoa n≠l) = false:=by simp [hc]
      rw [hr,if_pos hc]
      simp only [ne,this,if_true,Option.isSome_some,Option.getD_some,kB,kZ,kD,kE,xn,xi,xm,xe,xf,xg,xh,xl,xk,xj,reduceIte,reduceCtorEq,ya,xz,xu]
      first | exact ⟨_,rfl⟩ | exact ⟨rfl,_,rfl⟩ | exact ⟨trivial,_,rfl⟩ | exact ⟨[],(List.append_nil _).symm⟩
    · have : decide (itoa n≠l) = true:=by simp [hc]
      rw [hr,if_neg hc]
      simp only [ne,this,if_false,Option.isSome_none,Option.getD_none,Bool.false_eq_true,kB,kZ,kD,kE,xn,xi,xm,xe,xf,xg,xh,xl,xk,xj,reduceIte,reduceCtorEq,ya,xz,xu]
      first | exact ⟨_,rfl⟩ | exact ⟨rfl,_,rfl⟩ | exact ⟨trivial,_,rfl⟩ | exact ⟨[],(List.append_nil _).symm⟩
  | _ =>
    have e2:=readN_bad (l:=l) (fun n e=>by rw [hz] at e; cases e)
    have hr : readN l = none:=by unfold readN; rw [hz]
    unfold numE errE
    rw [hr]
    simp only [e2,Option.isSome_none,Option.getD_none,Bool.false_eq_true,if_false,kB,kZ,kD,kE,xn,xi,xm,xe,xf,xg,xh,xl,xk,xj,reduceIte,reduceCtorEq,ya,xz,xu]
    first | exact ⟨_,rfl⟩ | exact ⟨rfl,_,rfl⟩ | exact ⟨trivial,_,rfl⟩ | exact ⟨[],(List.append_nil _).symm⟩
theorem j_IndexByte_no (h : OnH X) (l : List UInt8) (c : UInt8) (ha : c ∉ l) : J X.P X.F X.H (.call 144 [sA l,.sc (.int .u8 (c.toNat : Int))] st (.ret (iA (-1))) st):=by
  refine .hook (h.told _ _ _ _ _ (.inr (.inr (.inl ⟨_,[.string ⟨l.toArray⟩,.int .u8 (c.toNat : Int)],.int .i64 (-1),rfl,rfl,?_,rfl,rfl,rfl⟩))))
  have hc : ((c.toNat : Int)).toNat.toUInt8 = c:=by simp
  show closed _ (match (List.range (sB l).size).find? fun i=>(sB l)[i]! == ((c.toNat : Int)).toNat.toUInt8 with | some i=>pure (goInt i) | none=>pure (goInt (-1))) = _
  have hf : ((List.range (sB l).size).find? fun i=>(sB l)[i]! == ((c.toNat : Int)).toNat.toUInt8) = none:=by
    rw [hc,List.find?_eq_none]
    intro j hj
    have hj : j < l.length:=by rw [List.mem_range,sB_size] at hj; exact hj
    rw [sB_get _ _ hj]
    have : l[j]≠c:=fun e=>ha (by rw [←e]; exact List.getElem_mem hj)
    simpa using this
  rw [hf]
  rfl
theorem j_SIndexByte_no (h : OnH X) (c : UInt8) (l : List UInt8) (ha : c ∉ l) : J X.P X.F X.H (.call 136 [sA l,.sc (.int .u8 (c.toNat : Int))] st (.ret (iA (-1))) st):=by
  refine pure_intro (by rw [h.F]; rfl) rfl ?_
  simp only [v_internal_stringslite_IndexByte,kB,kZ,kD,kE,xn,xi,xm,xe,xf,xg,xh,xl,xk,xj,reduceIte,reduceCtorEq,ya,xz,xu]
  refine callO_same (j_IndexByte_no h l c ha) ?_
  simp only [kB,kZ,kD,kE,xn,xi,xm,xe,xf,xg,xh,xl,xk,xj,reduceIte,reduceCtorEq,ya,xz,xu]
  first | exact ⟨_,rfl⟩ | exact ⟨rfl,_,rfl⟩ | exact ⟨trivial,_,rfl⟩ | exact ⟨[],(List.append_nil _).symm⟩
theorem j_SIndex_no (h : OnH X) (c : UInt8) (l : List UInt8) (ha : c ∉ l) : J X.P X.F X.H (.call 126 [sA l,sA [c]] st (.ret (iA (-1))) st):=by
  refine pure_intro (by rw [h.F]; rfl) rfl ?_
  have q1 : closed X.P (Instr.index 9 (.string ⟨[c].toArray⟩) (.int .i64 0)) = some (.int .u8 (c.toNat : Int)):=k_idx h.toOn [c] 0 (by simp)
  have q2 : closed X.P (builtin .len [9].toArray 3 #[] [Value.string ⟨[c].toArray⟩].toArray) = some (Next.value (.int .i64 1)):=k_len h.toOn [c]
  have q3 : closed X.P (do eqGuard .eql 9 (.tmp 0) (.tmp 0) (.string ⟨[c].toArray⟩) (.string ⟨l.toArray⟩); binOp .eql 9 (.string ⟨[c].toArray⟩) (.string ⟨l.toArray⟩)) = some (.bool (decide ([c] = l))):=k_eq X.P (.tmp 0) (.tmp 0) [c] l
  have hd : decide ([c] = l) = false:=by
    rw [decide_eq_false_iff_not]
    rintro rfl
    simp at ha
  simp only [v_internal_stringslite_Index,q1,q2,q3,hd,Int.reduceEq,kB,kZ,kD,kE,xn,xi,xm,xe,xf,xg,xh,xl,xk,xj,reduceIte,reduceCtorEq,ya,xz,xu]
  refine callO_same (j_SIndexByte_no h c l ha) ?_
  simp only [kB,kZ,kD,kE,xn,xi,xm,xe,xf,xg,xh,xl,xk,xj,reduceIte,reduceCtorEq,ya,xz,xu]
  first | exact ⟨_,rfl⟩ | exact ⟨rfl,_,rfl⟩ | exact ⟨trivial,_,rfl⟩ | exact ⟨[],(List.append_nil _).symm⟩
theorem j_SCut (h : OnH X) (c : UInt8) (l : List UInt8) (hl : l.length≤2500000) : J X.P X.F X.H (.call 118 [sA l,sA [c]] st (.ret (.tup [sA (cutC c l).1,sA (cutC c l).2.1,bA (cutC c l).2.2])) st):=by
  refine pure_intro (by rw [h.F]; rfl) rfl ?_
  have q2 : closed X.P (builtin .len [9].toArray 3 #[] [Value.string ⟨[c].toArray⟩].toArray) = some (Next.value (.int .i64 1)):=k_len h.toOn [c]
  rcases cut_cases c l with ⟨a,b,rfl,ha,hc,_⟩ | ⟨ha,hc,_⟩
  · simp only [List.length_append,List.length_cons] at hl
    have hnn : decide ((0 : Int)≤(a.length : Int)) = true:=decide_eq_true (by omega)
    have hwb : IntKind.wrap .i64 ((a.length : Int) + 1) = ((a.length + 1 : Nat) : Int):=by rw [wrap_small (by omega) (by omega)]; omega
    have g0:=k_sl0 h.toOn (a++c :: b) a.length (by simp)
    have g1:=k_sl1 h.toOn (a++c :: b) (a.length + 1) (by simp)
    rw [List.take_left] at g0
    have hd1 : (a++c :: b).drop (a.length + 1) = b:=by rw [←List.drop_drop,List.drop_left]; rfl
    rw [hd1] at g1
    rw [hc]
    simp only [v_internal_stringslite_Cut,kB,kZ,kD,kE,xn,xi,xm,xe,xf,xg,xh,xl,xk,xj,reduceIte,reduceCtorEq,ya,xz,xu]
    refine callO_same (j_SIndex h c a b ha (by omega)) ?_
    simp only [hnn,q2,hwb,g0,g1,Option.map_none,kB,kZ,kD,kE,xn,xi,xm,xe,xf,xg,xh,xl,xk,xj,reduceIte,reduceCtorEq,ya,xz,xu]
    first | exact ⟨_,rfl⟩ | exact ⟨rfl,_,rfl⟩ | exact ⟨trivial,_,rfl⟩ | exact ⟨[],(List.append_nil _).symm⟩
  · rw [hc]
    simp only [v_internal_stringslite_Cut,kB,kZ,kD,kE,xn,xi,xm,xe,xf,xg,xh,xl,xk,xj,reduceIte,reduceCtorEq,ya,xz,xu]
    refine callO_same (j_SIndex_no h c l ha) ?_
    simp only [Int.reduceLE,kB,kZ,kD,kE,xn,xi,xm,xe,xf,xg,xh,xl,xk,xj,reduceIte,reduceCtorEq,ya,xz,xu]
    first | exact ⟨_,rfl⟩ | exact ⟨rfl,_,rfl⟩ | exact ⟨trivial,_,rfl⟩ | exact ⟨[],(List.append_nil _).symm⟩
theorem j_Cut (h : OnH X) (c : UInt8) (l : List UInt8) (hl : l.length≤2500000) : J X.P X.F X.H (.call 97 [sA l,sA [c]] st (.ret (.tup [sA (cutC c l).1,sA (cutC c l).2.1,bA (cutC c l).2.2])) st):=by
  refine pure_intro (by rw [h.F]; rfl) rfl ?_
  simp only [v_strings_Cut,kB,kZ,kD,kE,xn,xi,xm,xe,xf,xg,xh,xl,xk,xj,reduceIte,reduceCtorEq,ya,xz,xu]
  refine callO_same (j_SCut h c l hl) ?_
  simp only [kB,kZ,kD,kE,xn,xi,xm,xe,xf,xg,xh,xl,xk,xj,reduceIte,reduceCtorEq,ya,xz,xu]
  first | exact ⟨_,rfl⟩ | exact ⟨rfl,_,rfl⟩ | exact ⟨trivial,_,rfl⟩ | exact ⟨[],(List.append_nil _).symm⟩
theorem j_HasPrefix2 (h : OnH X) (l : List UInt8) : J X.P X.F X.H (.call 106 [sA l,sA [32,32]] st (.ret (bA (decide (l.take 2 = [32,32])))) st):=by
  refine pure_intro (by rw [h.F]; rfl) rfl ?_
  have q1:=k_len h.toOn l
  have q2 : closed X.P (builtin .len [9].toArray 3 #[] [Value.string ⟨#[32,32]⟩].toArray) = some (Next.value (.int .i64 2)):=k_len h.toOn [32,32]
  by_cases hl : 2≤l.length
  · have g0:=k_sl0 h.toOn l 2 hl
    have e1 : decide ((2 : Int)≤(l.length : Int)) = true:=decide_eq_true (by omega)
    have g1:=fun ox oy=>k_eq X.P ox oy (l.take 2) [32,32]
    have g0 : closed X.P (Instr.sliceAt 9 (.string ⟨l.toArray⟩) none (some (.int .i64 2)) none) = some (.string ⟨(l.take 2).toArray⟩):=g0
    simp only [v_internal_stringslite_HasPrefix,q1,q2,e1,g0,g1,Option.map_none,kB,kZ,kD,kE,xn,xi,xm,xe,xf,xg,xh,xl,xk,xj,reduceIte,reduceCtorEq,ya,xz,xu]
    first | exact ⟨_,rfl⟩ | exact ⟨rfl,_,rfl⟩ | exact ⟨trivial,_,rfl⟩ | exact ⟨[],(List.append_nil _).symm⟩
  · have e1 : decide ((2 : Int)≤(l.length : Int)) = false:=decide_eq_false (by omega)
    have e2 : decide (l.take 2 = [32,32]) = false:=decide_eq_false fun e=>by
      have:=congrArg List.length e
      simp at this
      omega
    simp only [v_internal_stringslite_HasPrefix,q1,q2,e1,e2,kB,kZ,kD,kE,xn,xi,xm,xe,xf,xg,xh,xl,xk,xj,reduceIte,reduceCtorEq,ya,xz,xu]
    first | exact ⟨_,rfl⟩ | exact ⟨rfl,_,rfl⟩ | exact ⟨trivial,_,rfl⟩ | exact ⟨[],(List.append_nil _).symm⟩
theorem j_SCutPrefix2 (h : OnH X) (l : List UInt8) : J X.P X.F X.H (.call 120 [sA l,sA [32,32]] st (.ret (.tup [sA (if l.take 2 = [32,32] then l.drop 2 else l),bA (decide (l.take 2 = [32,32]))])) st):=by
  refine pure_intro (by rw [h.F]; rfl) rfl ?_
  have q2 : closed X.P (builtin .len [9].toArray 3 #[] [Value.string ⟨#[32,32]⟩].toArray) = some (Next.value (.int .i64 2)):=k_len h.toOn [32,32]
  simp only [v_internal_stringslite_CutPrefix,kB,kZ,kD,kE,xn,xi,xm,xe,xf,xg,xh,xl,xk,xj,reduceIte,reduceCtorEq,ya,xz,xu]
  refine callO_same (j_HasPrefix2 h l) ?_
  by_cases hp : l.take 2 = [32,32]
  · have hl : 2≤l.length:=by
      have:=congrArg List.length hp
      simp at this
      omega
    have g1 : closed X.P (Instr.sliceAt 9 (.string ⟨l.toArray⟩) (some (.int .i64 2)) none none) = some (.string ⟨(l.drop 2).toArray⟩):=k_sl1 h.toOn l 2 hl
    simp only [hp,q2,g1,decide_true,if_true,Option.map_none,kB,kZ,kD,kE,xn,xi,xm,xe,xf,xg,xh,xl,xk,xj,reduceIte,reduceCtorEq,ya,xz,xu]
    first | exact ⟨_,rfl⟩ | exact ⟨rfl,_,rfl⟩ | exact ⟨trivial,_,rfl⟩ | exact ⟨[],(List.append_nil _).symm⟩
  · have : decide (l.take 2 = [32,32]) = false:=decide_eq_false hp
    simp only [this,hp,if_false,kB,kZ,kD,kE,xn,xi,xm,xe,xf,xg,xh,xl,xk,xj,reduceIte,reduceCtorEq,ya,xz,xu]
    first | exact ⟨_,rfl⟩ | exact ⟨rfl,_,rfl⟩ | exact ⟨trivial,_,rfl⟩ | exact ⟨[],(List.append_nil _).symm⟩
theorem j_CutPrefix2 (h : OnH X) (l : List UInt8) : J X.P X.F X.H (.call 99 [sA l,sA [32,32]] st (.ret (.tup [sA (if l.take 2 = [32,32] then l.drop 2 else l),bA (decide (l.take 2 = [32,32]))])) st):=by
  refine pure_intro (by rw [h.F]; rfl) rfl ?_
  simp only [v_strings_CutPrefix,kB,kZ,kD,kE,xn,xi,xm,xe,xf,xg,xh,xl,xk,xj,reduceIte,reduceCtorEq,ya,xz,xu]
  refine callO_same (j_SCutPrefix2 h l) ?_
  simp only [kB,kZ,kD,kE,xn,xi,xm,xe,xf,xg,xh,xl,xk,xj,reduceIte,reduceCtorEq,ya,xz,xu]
  first | exact ⟨_,rfl⟩ | exact ⟨rfl,_,rfl⟩ | exact ⟨trivial,_,rfl⟩ | exact ⟨[],(List.append_nil _).symm⟩
end
end Go.VX.Seat
end
section
set_option maxRecDepth 4000
namespace Go.VX.Seat
open Go.Proofs Go.Lib
theorem spl_le (s : UInt8) : ∀ (l p : List UInt8),p ∈ splC s l→p.length≤l.length
  | [],p,h=>by
    simp only [splC,List.mem_singleton] at h
    subst h
    exact Nat.le_refl _
  | c :: r,p,h=>by
    obtain ⟨x,t,e⟩:=spl_cons s r
    have ih:=spl_le s r
    unfold splC at h
    rw [e] at h ih
    split at h
    · rcases List.mem_cons.1 h with rfl | h
      · simp
      · have:=ih p h
        simp only [List.length_cons]
        omega
    · rcases List.mem_cons.1 h with rfl | h
      · have:=ih x (List.mem_cons_self ..)
        simp only [List.length_cons]
        omega
      · have:=ih p (List.mem_cons_of_mem _ h)
        simp only [List.length_cons]
        omega
theorem mapM_take {ws : List (List UInt8)} {i : Nat} (hi : i < ws.length) {n : List Int} {x : Int} (h : (ws.take i).mapM readN = some n) (hx : readN ws[i] = some x) : (ws.take (i + 1)).mapM readN = some (n++[x]):=by
  rw [List.take_succ_eq_append_getElem hi,List.mapM_append,h]
  simp [hx]
theorem mapM_none {ws : List (List UInt8)} {i : Nat} (hi : i < ws.length) (hx : readN ws[i] = none) : ws.mapM readN = none:=by
  have e : ws = ws.take i++ws[i] :: ws.drop (i + 1):=by rw [List.getElem_cons_drop,List.take_append_drop]
  have h1 : (ws.take i++ws[i] :: ws.drop (i + 1)).mapM readN = none:=by
    rw [List.mapM_append,List.mapM_cons,hx]
    cases (ws.take i).mapM readN<;>rfl
  rw [e]
  exact h1
section
variable {X : Cx} {st : St}
theorem opR_ints {K : Env→St→Post3→Prop} {Q : Post3} {d : Option Nat} {env : Env} {s : St} {lo : Nat} {w : AV} {xs : List Int} {n : Int} {x y : VOpd} (h : OwnS s lo w 1 (rowsI xs)) (hlo : lo≤s.length) (hl : xs.length≤1000000) (ex : x.ev env = w) (ey : y.ev env = .sl s.length 0 1 1 true)
    (hK : ∀ w' s',Agree (fun b=>boxOf w = some b) s s'→OwnS s' lo w' 1 (rowsI (xs++[n]))→(w' = w∨boxOf w'≠none∧∀ b,boxOf w' = some b→s.length≤b)→K (env.put d w') s' Q) :
    opR X K d [] env (s++[⟨[iA n],0,0⟩]) Q (vop X.P (.append 1 8 x y) env (s++[⟨[iA n],0,0⟩])):=by
  have hag0:=Agree.app (fun _=>False) s [⟨[iA n],0,0⟩]
  have h1 : OwnS (s++[⟨[iA n],0,0⟩]) lo w 1 (rowsI xs):=h.agree hag0 fun _ _ y=>y
  have hrow : ArrAt (s++[⟨[iA n],0,0⟩]) s.length (s.length + 1) (.sl s.length 0 1 1 true) 1 (rowsI [n]):=ArrAt.ofBox (mode:=0) (ver:=0) (by simp) (by decide) (fun r hr=>by obtain ⟨p,_,rfl⟩:=List.mem_map.1 hr; rfl) rfl
  refine opR_append (vx:=w) (vy:=.sl s.length 0 1 1 true) (rows:=rowsI xs) (rows2:=rowsI [n]) (lo:=lo) ex ey h1 (by simp; omega) hrow (by simp; omega) rfl ?_
  intro w' s' hag hown hcase
  refine ⟨keptA_nil _ _ _,hK w' s' ((hag0.trans hag).mono fun n _ y=>y.elim (fun y=>y.elim) fun y=>y.2) ?_ ?_⟩
  · have e : rowsI (xs++[n]) = rowsI xs++rowsI [n]:=List.map_append ..
    rw [e]
    exact hown
  · rcases hcase with ⟨_,rfl,_⟩ | ⟨_,hb,_⟩
    · exact .inl rfl
    · exact .inr ⟨by rw [hb]; simp,fun b hb'=>by rw [hb] at hb'; cases hb'; simp⟩
theorem atN_lessS {s : St} {b o n m : Nat} {cs : List AV} (h : St.atN s b o n = some cs) (hm : m≤n) : St.atN s b (o + m) 0 = some []:=by
  unfold St.atN at h ⊢
  split at h
  · split at h
    · cases h
    · rename_i h2
      simp only [if_neg h2]
      split at h
      · rename_i h3
        rw [if_pos (by omega)]
        simp
      · cases h
  · cases h
theorem opR_sufS {K : Env→St→Post3→Prop} {Q : Post3} {d : Option Nat} {env : Env} {s : St} {lo hi esz n : Nat} {x y : VOpd} {rows : List (List AV)} {vx : AV} (ex : x.ev env = vx) (ey : asNat? (y.ev env) = some n) (hx : ArrAt s lo hi vx esz rows) (hn : n≤rows.length)
    (h : ∀ w,ArrAt s lo hi w esz (rows.drop n)→boxOf w = boxOf vx→K (env.put d w) s Q) : opR X K d [] env s Q (vop X.P (.slice none esz x (some y) none none) env s):=by
  rw [v_slice,ex]
  rcases nil_or_sl hx.len with ⟨rfl,hz⟩ | ⟨b,o,e,f,rfl⟩
  · have hr : rows = []:=List.length_eq_zero_iff.1 hz
    subst hr
    have hn0 : n = 0:=by simpa using hn
    subst hn0
    simp only [bnd,ey]
    exact ⟨keptA_nil _ _ _,h _ (emptyArr _ _ _ _) rfl⟩
  · obtain ⟨rfl,h0⟩:=hx.size _ _ _ _ _ rfl
    simp only [bnd,ey,Option.isSome_none,Bool.false_eq_true,if_false,false_implies,and_true,Nat.le_refl,true_and]
    rw [if_pos hn]
    refine ⟨keptA_nil _ _ _,h _ ⟨?_,?_,?_⟩ rfl⟩
    · simp only [lenA,List.length_drop]
    · intro b' o' len' e' full' q
      cases q
      refine ⟨rfl,?_⟩
      by_cases hr : rows = []
      · subst hr
        have hn0 : n = 0:=by simpa using hn
        subst hn0
        simpa using h0
      · obtain ⟨b',o',f',q,_,_,hw⟩:=hx.whole hr
        cases q
        exact atN_lessS (hw rows.length (Nat.le_refl _)) (Nat.mul_le_mul_right _ hn)
    · intro i hi'
      simp only [List.length_drop] at hi'
      obtain ⟨b1,o1,q1,q2,q3,q4⟩:=hx.row (n + i) (by omega)
      obtain ⟨b',o',len',full',q,_,_,hp⟩:=elemA_inv q1
      cases q
      simp only [AV.ptr.injEq,Int.toNat_natCast] at hp
      obtain ⟨rfl,rfl⟩:=hp
      refine ⟨b1,o + (n + i) * e,?_,q2,q3,?_⟩
      · simp only [elemA,Int.toNat_natCast]
        rw [if_pos ⟨by omega,by omega,trivial⟩]
        congr 2
        rw [Nat.add_mul]
        omega
      · simpa using q4
theorem w_code_numbers (h : OnH X) (hg : GB st) {lo hi : Nat} {v : AV} {ws : List (List UInt8)} (hv : StrsAt st lo hi v ws) (hl : ∀ p ∈ ws,p.length≤2500000) (hwl : ws.length≤2500001) (c : Nat) (hc : c≤10) :
    wpF X 98 [v,iA c] st fun r s=>∃ w m,r = .ret (.tup [w,bA (nums ws c).isSome])∧s = st++m∧∀ n,nums ws c = some n→OwnS s st.length w 1 (rowsI n):=by
  refine wpF_go (fn:=v_code_numbers) (by rw [h.F]; rfl) ?_
  have hlen:=hv.len
  simp only [List.length_map] at hlen
  have d0 : decide ((0 : Int)≠0) = false:=rfl
  simp only [v_code_numbers,hlen,kB,kZ,kD,kE,xn,xi,xm,xe,xf,xg,xh,xl,xk,xj,reduceIte,reduceCtorEq,ya,xz,xu]
  refine condO_intro ?_ ?_<;>intro hc1
  · have hne : ws.length≠c:=by have:=of_decide_eq_true hc1; omega
    have e : nums ws c = none:=by unfold nums; rw [if_neg hne]
    simp only [kB,kZ,kD,kE,xn,xi,xm,xe,xf,xg,xh,xl,xk,xj,reduceIte,reduceCtorEq,ya,xz,xu]
    exact ⟨_,[],by rw [e]; rfl,rfl,fun n hn=>by rw [e] at hn; cases hn⟩
  have hwc : ws.length = c:=by have:=of_decide_eq_false hc1; omega
  have en : nums ws c = ws.mapM readN:=by unfold nums; rw [if_pos hwc]
  simp only [hlen,kB,kZ,kD,kE,xn,xi,xm,xe,xf,xg,xh,xl,xk,xj,reduceIte,reduceCtorEq,ya,xz,xu]
  refine anyLoop (mB m0) (fun e s=>∃ (w : AV) (n : List Int),e 6 = w∧nums ws c = some n∧(∃ m,s = st++m)∧OwnS s st.length w 1 (rowsI n)) ?_ ?_
  · refine loop_inv (fun k e s=>∃ (i : Nat) (w : AV) (n : List Int),i + k = ws.length∧e 6 = w∧e 15 = v∧e 16 = iA (ws.length : Int)∧e 17 = iA i∧(ws.take i).mapM readN = some n∧(∃ m,s = st++m)∧OwnS s st.length w 1 (rowsI n)) ?_ ws.length ?_
    case refine_2=>exact ⟨0,_,[],by omega,rfl,rfl,rfl,rfl,rfl,⟨[],rfl⟩,own_nil _ _ _⟩
    rintro k e s ⟨i,w,n,hik,k6,k15,k16,k17,hn,hpre,hown⟩
    simp only [k6,k15,k16,k17,kB,kZ,kD,kE,xn,xi,xm,xe,xf,xg,xh,xl,xk,xj,reduceIte,reduceCtorEq,ya,xz,xu]
    refine condO_intro ?_ ?_<;>intro hc2
    case refine_2 =>
      have hi : i = ws.length:=by have:=of_decide_eq_false hc2; omega
      subst hi
      rw [List.take_length] at hn
      simp only [k6,kB,kZ,kD,kE,xn,xi,xm,xe,xf,xg,xh,xl,xk,xj,reduceIte,reduceCtorEq,ya,xz,xu]
      exact ⟨w,n,rfl,by rw [en,hn],hpre,hown⟩
    have hii : i < ws.length:=by have:=of_decide_eq_true hc2; omega
    obtain ⟨ms,hms⟩:=hpre
    have hv2:=hv.mono ms
    have hgs:=hg.app ms
    have hstl : st.length≤s.length:=by rw [hms]; simp
    rw [←hms] at hv2 hgs
    obtain ⟨b1,o1,he1,hn1,ha1,_⟩:=hv2.get i (by simpa using hii)
    have p1:=ha1 [] 0 (by omega)
    simp only [List.append_nil,List.getElem_map,Nat.add_zero,List.getElem?_cons_zero] at p1
    have hpl:=hl _ (List.getElem_mem hii)
    have hnl : n.length≤i:=by
      have:=(mapM_readN hn).1
      have:=congrArg List.length this
      simp at this
      omega
    have hwi : IntKind.wrap .i64 ((i : Int) + 1) = ((i + 1 : Nat) : Int):=by rw [wrap_small (by omega) (by omega)]; omega
    simp only [k6,k15,k16,k17,he1,p1,kB,kZ,kD,kE,xn,xi,xm,xe,xf,xg,xh,xl,xk,xj,reduceIte,reduceCtorEq,ya,xz,xu]
    refine callO_same (j_word_Read h hgs _ (by omega)) ?_
    unfold errE numE
    cases hr : readN ws[i] with
    | none =>
      have e0 : nums ws c = none:=by rw [en]; exact mapM_none hii hr
      simp only [Option.isSome_none,Bool.false_eq_true,if_false,Int.reduceEq,Int.reduceNe,kB,kZ,kD,kE,xn,xi,xm,xe,xf,xg,xh,xl,xk,xj,reduceIte,reduceCtorEq,ya,xz,xu]
      exact ⟨_,ms,by rw [e0]; rfl,hms,fun n hn=>by rw [e0] at hn; cases hn⟩
    | some x =>
      simp only [Option.isSome_some,Option.getD_some,if_true,d0,k6,k15,k16,k17,kB,kZ,kD,kE,xn,xi,xm,xe,xf,xg,xh,xl,xk,xj,reduceIte,reduceCtorEq,ya,xz,xu]
      refine opR_ints (n:=x) hown hstl (by omega) (by simp only [kB,kZ,kD,kE,xn,xi,xm,xe,xf,xg,xh,xl,xk,xj,reduceIte,reduceCtorEq,ya,xz,xu]) (by simp only [kB,kZ,kD,kE,xn,xi,xm,xe,xf,xg,xh,xl,xk,xj,reduceIte,reduceCtorEq,ya,xz,xu]) ?_
      intro w' s' hag hown' _
      have hpre':=hag.ext ⟨ms,hms⟩ fun b hb e=>by have:=(hown.bnd b e).1; omega
      simp only [k6,k15,k16,k17,hwi,kB,kZ,kD,kE,xn,xi,xm,xe,xf,xg,xh,xl,xk,xj,reduceIte,reduceCtorEq,ya,xz,xu]
      exact ⟨k - 1,by omega,i + 1,w',n++[x],by omega,rfl,rfl,mapM_take hii hn hr,hpre',hown'⟩
  rintro e s ⟨w,n,k6,hn,⟨m,rfl⟩,hown⟩
  simp only [k6,kB,kZ,kD,kE,xn,xi,xm,xe,xf,xg,xh,xl,xk,xj,reduceIte,reduceCtorEq,ya,xz,xu]
  exact ⟨w,m,by rw [hn]; rfl,rfl,fun n' hn'=>by rw [hn] at hn'; cases hn'; exact hown⟩
theorem w_code_headed (h : OnH X) (hg : GB st) (line head : List UInt8) (hl : line.length≤2500000) (c : Nat) (hc : c≤10) :
    wpF X 78 [sA line,sA head,iA c] st fun r s=>∃ w m,r = .ret (.tup [w,bA (headP line head c).isSome])∧s = st++m∧∀ n,headP line head c = some n→OwnS s st.length w 1 (rowsI n):=by
  refine wpF_go (fn:=v_code_headed) (by rw [h.F]; rfl) ?_
  simp only [v_code_headed,kB,kZ,kD,kE,xn,xi,xm,xe,xf,xg,xh,xl,xk,xj,reduceIte,reduceCtorEq,ya,xz,xu]
  refine wpF.mono (w_Split h 32 line (by omega)) ?_
  rintro r S ⟨v,m,hi,rfl,rfl,ha⟩
  refine ⟨kept_app _ _ _ _,?_⟩
  obtain ⟨w0,t,e⟩:=spl_cons 32 line
  have hpl:=spl_le 32 line
  have hcl:=spl_len 32 line
  have hcc:=List.count_le_length (a:=(32 : UInt8)) (l:=line)
  simp only [List.append_nil] at ha ⊢
  have hsl : st.length≤(st++m).length:=by simp
  have eh : headP line head c = if w0 = head then nums t c else none:=by unfold headP; rw [show spl line = w0 :: t from e]
  rw [e] at ha hpl hcl
  simp only [List.length_cons] at hcl
  obtain ⟨b1,o1,he1,hn1,ha1,_⟩:=ha.get 0 (by simp)
  have p1:=ha1 [] 0 (by omega)
  simp only [List.append_nil,List.map_cons,List.getElem_cons_zero,Nat.add_zero,List.getElem?_cons_zero,Int.natCast_zero] at p1 he1
  have g1:=fun ox oy=>k_ne X.P ox oy w0 head
  have hgm:=hg.app m
  generalize hS : st++m = S at *
  simp only [he1,p1,g1,kB,kZ,kD,kE,xn,xi,xm,xe,xf,xg,xh,xl,xk,xj,reduceIte,reduceCtorEq,ya,xz,xu]
  refine condO_intro ?_ ?_<;>intro hc1
  · have hne : w0≠head:=by simpa using hc1
    have e0 : headP line head c = none:=by rw [eh,if_neg hne]
    simp only [kB,kZ,kD,kE,xn,xi,xm,xe,xf,xg,xh,xl,xk,xj,reduceIte,reduceCtorEq,ya,xz,xu]
    exact ⟨_,m,by rw [e0]; rfl,hS.symm,fun n hn=>by rw [e0] at hn; cases hn⟩
  have he : w0 = head:=by simpa using hc1
  have e1 : headP line head c = nums t c:=by rw [eh,if_pos he]
  simp only [kB,kZ,kD,kE,xn,xi,xm,xe,xf,xg,xh,xl,xk,xj,reduceIte,reduceCtorEq,ya,xz,xu]
  refine opR_sufS (n:=1) (by simp only [kB,kZ,kD,kE,xn,xi,xm,xe,xf,xg,xh,xl,xk,xj,reduceIte,reduceCtorEq,ya,xz,xu]) rfl ha (by simp) ?_
  intro w hw _
  simp only [List.map_cons,List.drop_succ_cons,List.drop_zero] at hw
  simp only [kB,kZ,kD,kE,xn,xi,xm,xe,xf,xg,xh,xl,xk,xj,reduceIte,reduceCtorEq,ya,xz,xu]
  refine wpF.mono (w_code_numbers h hgm hw (fun p hp=>by have:=hpl p (List.mem_cons_of_mem _ hp); omega) (by omega) c hc) ?_
  rintro r s ⟨w2,m2,rfl,rfl,hw2⟩
  refine ⟨kept_app _ _ _ _,?_⟩
  simp only [kB,kZ,kD,kE,xn,xi,xm,xe,xf,xg,xh,xl,xk,xj,reduceIte,reduceCtorEq,ya,xz,xu]
  rw [←hS]
  exact ⟨w2,m++m2,by rw [e1],by simp,fun n hn=>(by rw [e1] at hn; have:=(hw2 n hn).low hsl; rw [←hS] at this; exact this)⟩
end
end Go.VX.Seat
end
section
set_option maxRecDepth 4000
namespace Go.VX.Seat
open Go.Proofs Go.Lib
theorem nameK_eq (k : Int) : nameK k = ⟨(nmK k).toArray⟩:=by
  unfold nmK
  cases nameK k
  rfl
theorem Bl.get {S0 s : St} {bx : Nat} {l : List UInt8} (h : Bl S0 s bx l) {b : Nat} {x : Box} (hx : S0[b]? = some x) : s[b]? = some x:=by
  obtain ⟨k,rfl⟩:=h.pre
  rw [List.getElem?_append_left (List.getElem?_eq_some_iff.1 hx).1]
  exact hx
theorem Bl.gb {S0 s : St} {bx : Nat} {l : List UInt8} (h : Bl S0 s bx l) (hg : GB S0) : GB s:=by
  obtain ⟨k,rfl⟩:=h.pre
  exact hg.app k
theorem b240_all : ∀ j : Fin 25,(decide (andI (usesK ((j.val : Int) + 1)) 240≠0) == hasN ((j.val : Int) + 1)) = true:=by decide +kernel
theorem b240 {k : Int} (h : oneK k = true) : decide (andI (usesK k) 240≠0) = hasN k:=by
  have hk:=oneK_bnd h
  have:=b240_all ⟨(k - 1).toNat,by omega⟩
  simp only at this
  rw [show (((k - 1).toNat : Nat) : Int) + 1 = k by omega] at this
  simpa using this
section
variable {X : Cx} {st : St}
end
end Go.VX.Seat
end
section
set_option maxRecDepth 4000
namespace Go.VX.Seat
open Go.Proofs Go.Lib
section
variable {X : Cx} {st : St}
abbrev EndV.row (e : EndV) : List AV:=[iA e.k,iA e.a,iA e.t,iA e.e]
set_option maxHeartbeats 2000000 in
theorem j_r07_opText (h : OnH X) (hg : GB st) (o : OpV) (ho : oneK o.k = true) (hi : OpI o) : J X.P X.F X.H (.call 44 [.agg o.row] st (.ret (sA (opX o))) st):=by
  refine pure_intro (by rw [h.F]; rfl) rfl ?_
  have l1:=grdX_len hi.g
  have l2:=dstX_len hi
  have l3:=numX_len hi
  have l4:=nmK_len o.k
  have l5:=catI_len (operL_I hi)
  have l6:=operL_len o
  have n1:=itoa_len64 hi.g
  have n2:=itoa_len64 hi.d
  have n3:=itoa_len64 hi.n
  simp only [v_r07_opText,OpV.row,kB,kZ,kD,kE,xn,xi,xm,xe,xf,xg,xh,xl,xk,xj,reduceIte,reduceCtorEq,ya,xz,xu]
  have g1 : (st++[⟨[iA o.k,iA o.d,iA o.a,iA o.b,iA o.c,iA o.n,iA o.g],0,0⟩])[st.length + 0]? = some ⟨o.row,0,0⟩:=by simp [OpV.row]
  have hg0:=hg.app [⟨[iA o.k,iA o.d,iA o.a,iA o.b,iA o.c,iA o.n,iA o.g],0,0⟩]
  have hpre0 : ∃ k,(st++[⟨[iA o.k,iA o.d,iA o.a,iA o.b,iA o.c,iA o.n,iA o.g],0,0⟩]) = st++k:=⟨_,rfl⟩
  generalize (st++[⟨[iA o.k,iA o.d,iA o.a,iA o.b,iA o.c,iA o.n,iA o.g],0,0⟩] : St) = S0 at *
  generalize st.length + 0 = cb at *
  have q1 : ∀ L k,St.at1 (S0++L) cb k = o.row[k]?:=fun L k=>at1_box (by rw [List.getElem?_append_left (List.getElem?_eq_some_iff.1 g1).1]; exact g1) (by decide) k
  have q1' : ∀ k,St.at1 S0 cb k = o.row[k]?:=fun k=>at1_box g1 (by decide) k
  have q3 : ∀ L,St.atN (S0++L) cb 0 7 = some o.row:=fun L=>by
    rw [atN_box (by rw [List.getElem?_append_left (List.getElem?_eq_some_iff.1 g1).1]; exact g1) (by decide) 0 7 (by simp [OpV.row])]
    rfl
  have r0 : o.row[0]? = some (iA o.k):=rfl
  have r6 : o.row[6]? = some (iA o.g):=rfl
  have r1 : o.row[1]? = some (iA o.d):=rfl
  have r5 : o.row[5]? = some (iA o.n):=rfl
  refine anyCond m0 (fun e s=>s = S0∧e 1 = .ptr cb 0∧e 3 = sA (grdX o.g)) ?_ ?_
  · refine condO_intro ?_ ?_<;>intro hc
    · have a1:=fun ox oy=>k_add X.P ox oy [63,32] (itoa o.g) (by simp; omega)
      have a2:=fun ox oy=>k_add X.P ox oy (63 :: 32 :: itoa o.g) [32] (by simp; omega)
      simp only [q1',r6,kB,kZ,kD,kE,xn,xi,xm,xe,xf,xg,xh,xl,xk,xj,reduceIte,reduceCtorEq,ya,xz,xu]
      refine callO_same (j_Itoa h hg0 o.g hi.g) ?_
      simp only [a1,a2,kB,kZ,kD,kE,xn,xi,xm,xe,xf,xg,xh,xl,xk,xj,reduceIte,reduceCtorEq,ya,xz,xu]
      unfold grdX
      rw [if_pos hc]
    · simp only [kB,kZ,kD,kE,xn,xi,xm,xe,xf,xg,xh,xl,xk,xj,reduceIte,reduceCtorEq,ya,xz,xu]
      unfold grdX
      rw [if_neg (by rw [hc]; decide)]
  rintro e s ⟨rfl,k1,k3⟩
  simp only [k1,k3,q1',r0,kB,kZ,kD,kE,xn,xi,xm,xe,xf,xg,xh,xl,xk,xj,reduceIte,reduceCtorEq,ya,xz,xu]
  refine callO_same (j_r07_HasDst h.toOn _) ?_
  simp only [k1,k3,kB,kZ,kD,kE,xn,xi,xm,xe,xf,xg,xh,xl,xk,xj,reduceIte,reduceCtorEq,ya,xz,xu]
  refine anyCond m0 (fun e s'=>s' = s∧e 1 = .ptr cb 0∧e 3 = sA (grdX o.g++dstX o)) ?_ ?_
  · refine condO_intro ?_ ?_<;>intro hc
    · have a1:=fun ox oy=>k_add X.P ox oy (itoa o.d) [32,61,32] (by simp; omega)
      have a2:=fun ox oy=>k_add X.P ox oy (grdX o.g) (itoa o.d++[32,61,32]) (by simp; omega)
      simp only [k1,k3,q1',r1,kB,kZ,kD,kE,xn,xi,xm,xe,xf,xg,xh,xl,xk,xj,reduceIte,reduceCtorEq,ya,xz,xu]
      refine callO_same (j_Itoa h hg0 o.d hi.d) ?_
      simp only [k1,k3,a1,a2,kB,kZ,kD,kE,xn,xi,xm,xe,xf,xg,xh,xl,xk,xj,reduceIte,reduceCtorEq,ya,xz,xu]
      unfold dstX
      rw [if_pos hc]
    · simp only [k1,k3,kB,kZ,kD,kE,xn,xi,xm,xe,xf,xg,xh,xl,xk,xj,reduceIte,reduceCtorEq,ya,xz,xu]
      unfold dstX
      rw [if_neg (by rw [hc]; decide),List.append_nil]
  clear k1 k3
  rintro e s' ⟨rfl,k1,k3⟩
  have hk:=oneK_bnd ho
  have hw1 : IntKind.wrap .i64 (o.k - 1) = ((o.k - 1).toNat : Int):=by rw [wrap_small (by omega) (by omega)]; omega
  have hnm : (nameL.map fun b=>AV.sc (.string b))[(o.k - 1).toNat]? = some (sA (nmK o.k)):=by
    rw [List.getElem?_map,List.getElem?_eq_getElem (show (o.k - 1).toNat < nameL.length by show _ < 25; omega),Option.map_some]
    have:=nameK_eq o.k
    unfold nameK at this
    rw [if_pos ho,List.getD_eq_getElem?_getD,List.getElem?_eq_getElem (show (o.k - 1).toNat < nameL.length by show _ < 25; omega)] at this
    simp only [Option.getD_some] at this
    rw [this]
  have hj : (0 : Int)≤((o.k - 1).toNat : Int)∧((o.k - 1).toNat : Int) < 25:=by omega
  have a1:=fun ox oy=>k_add X.P ox oy (grdX o.g++dstX o) (nmK o.k) (by simp; omega)
  simp only [k1,k3,q1',r0,hw1,kB,kZ,kD,kE,xn,xi,xm,xe,xf,xg,xh,xl,xk,xj,reduceIte,reduceCtorEq,ya,xz,xu]
  refine wpF.mono (w_r07_Names h.toOn) ?_
  rintro r s ⟨rfl,rfl⟩
  refine ⟨kept_app _ _ _ _,?_⟩
  simp only [k1,k3,if_pos hj,hnm,q3,a1,kB,kZ,kD,kE,xn,xi,xm,xe,xf,xg,xh,xl,xk,xj,reduceIte,reduceCtorEq,ya,xz,xu]
  refine callO_own (w_r07_Operands h.toOn o) ?_
  intro w m hown
  have hlw:=hown.arr.len
  simp only [List.length_map] at hlw
  obtain ⟨L,hL⟩ : ∃ L,s'++[⟨nameL.map fun b=>AV.sc (.string b),0,0⟩]++m = s'++L:=⟨_,List.append_assoc _ _ _⟩
  rw [hL] at hown ⊢
  simp only [k1,k3,kB,kZ,kD,kE,xn,xi,xm,xe,xf,xg,xh,xl,xk,xj,reduceIte,reduceCtorEq,ya,xz,xu]
  refine anyLoop (mB m0) (fun e s=>s = s'++L∧e 1 = .ptr cb 0∧e 3 = sA (grdX o.g++dstX o++nmK o.k++catI (operL o))) ?_ ?_
  · refine loop_inv (fun k e s=>∃ i : Nat,i + k = (operL o).length∧s = s'++L∧e 1 = .ptr cb 0∧e 3 = sA (grdX o.g++dstX o++nmK o.k++catI ((operL o).take i))∧e 4 = w∧e 5 = iA i) ?_ (operL o).length ?_
    case refine_2=>exact ⟨0,by omega,rfl,by simp only [k1,kB,kZ,kD,kE,xn,xi,xm,xe,xf,xg,xh,xl,xk,xj,reduceIte,reduceCtorEq,ya,xz,xu],by simp [catI,Env.put],rfl,rfl⟩
    clear k1 k3
    rintro k e s ⟨i,hik,rfl,k1,k3,k4,k5⟩
    simp only [k1,k3,k4,k5,hlw,kB,kZ,kD,kE,xn,xi,xm,xe,xf,xg,xh,xl,xk,xj,reduceIte,reduceCtorEq,ya,xz,xu]
    refine condO_intro ?_ ?_<;>intro hc
    case refine_2 =>
      have hi : i = (operL o).length:=by have:=of_decide_eq_false hc; omega
      subst hi
      rw [List.take_length] at k3
      simp only [k1,k3,kB,kZ,kD,kE,xn,xi,xm,xe,xf,xg,xh,xl,xk,xj,reduceIte,reduceCtorEq,ya,xz,xu]
    have hii : i < (operL o).length:=by have:=of_decide_eq_true hc; omega
    obtain ⟨b1,o1,he1,hn1,ha1,_⟩:=hown.arr.get i (by simpa using hii)
    have p1:=ha1 [] 0 (by omega)
    simp only [List.append_nil,List.getElem_map,Nat.add_zero,List.getElem?_cons_zero] at p1
    have hx:=operL_I hi _ (List.getElem_mem hii)
    have htk:=catI_take hii
    have hcl:=catI_len (ns:=(operL o).take i) fun x hx=>operL_I hi x (List.mem_of_mem_take hx)
    have hll : ((operL o).take i).length≤3:=by simp; omega
    generalize (operL o)[i] = n at *
    have hil:=itoa_len64 hx
    have a1:=fun ox oy=>k_add X.P ox oy [32] (itoa n) (by simp; omega)
    have a2:=fun ox oy=>k_add X.P ox oy (grdX o.g++dstX o++nmK o.k++catI ((operL o).take i)) (32 :: itoa n) (by simp; omega)
    have hwi : IntKind.wrap .i64 ((i : Int) + 1) = ((i + 1 : Nat) : Int):=by rw [wrap_small (by omega) (by omega)]; omega
    simp only [k1,k3,k4,k5,he1,p1,kB,kZ,kD,kE,xn,xi,xm,xe,xf,xg,xh,xl,xk,xj,reduceIte,reduceCtorEq,ya,xz,xu]
    refine callO_same (j_Itoa h (hg0.app _) n hx) ?_
    simp only [k1,k3,k4,k5,a1,a2,hwi,kB,kZ,kD,kE,xn,xi,xm,xe,xf,xg,xh,xl,xk,xj,reduceIte,reduceCtorEq,ya,xz,xu]
    exact ⟨k - 1,by omega,i + 1,by omega,by rw [htk,← List.append_assoc],rfl⟩
  clear k1 k3 hown
  rintro e s ⟨rfl,k1,k3⟩
  simp only [k1,k3,q1,r0,kB,kZ,kD,kE,xn,xi,xm,xe,xf,xg,xh,xl,xk,xj,reduceIte,reduceCtorEq,ya,xz,xu]
  refine callO_same (j_r07_HasN h.toOn _) ?_
  simp only [k1,k3,kB,kZ,kD,kE,xn,xi,xm,xe,xf,xg,xh,xl,xk,xj,reduceIte,reduceCtorEq,ya,xz,xu]
  obtain ⟨k0,e0⟩:=hpre0
  refine condO_intro ?_ ?_<;>intro hc<;>have hc : hasN o.k = _:=hc
  · have a1:=fun ox oy=>k_add X.P ox oy [32] (itoa o.n) (by simp; omega)
    have a2:=fun ox oy=>k_add X.P ox oy (grdX o.g++dstX o++nmK o.k++catI (operL o)) (32 :: itoa o.n) (by simp; omega)
    simp only [k1,k3,q1,r5,kB,kZ,kD,kE,xn,xi,xm,xe,xf,xg,xh,xl,xk,xj,reduceIte,reduceCtorEq,ya,xz,xu]
    refine callO_same (j_r01_Show h (hg0.app _) o.n hi.n) ?_
    have : opX o = grdX o.g++dstX o++nmK o.k++catI (operL o)++32 :: itoa o.n:=by unfold opX numX; rw [if_pos hc]
    simp only [k1,k3,a1,a2,kB,kZ,kD,kE,xn,xi,xm,xe,xf,xg,xh,xl,xk,xj,reduceIte,reduceCtorEq,ya,xz,xu]
    exact ⟨by rw [this],k0++L,by rw [e0,List.append_assoc]⟩
  · have : opX o = grdX o.g++dstX o++nmK o.k++catI (operL o):=by unfold opX numX; rw [if_neg (by rw [hc]; decide),List.append_nil]
    simp only [k1,k3,kB,kZ,kD,kE,xn,xi,xm,xe,xf,xg,xh,xl,xk,xj,reduceIte,reduceCtorEq,ya,xz,xu]
    exact ⟨by rw [this],k0++L,by rw [e0,List.append_assoc]⟩
end
end Go.VX.Seat
end
section
set_option maxRecDepth 4000
namespace Go.VX.Seat
open Go.Proofs Go.Lib
theorem put_whole {S : St} {rb v : Nat} {old cells : List AV} (h : S[rb]? = some ⟨old,0,v⟩) (hl : cells.length = old.length) (hc : cells.all AV.isCell = true) : ∃ S',S.put rb 0 cells = some S'∧S'[rb]? = some ⟨cells,0,v + 1⟩∧Agree (fun b=>b = rb) S S':=by
  have:=put_box (o:=0) (vs:=cells) h (by omega) hc
  refine ⟨_,this,?_,Agree.set _ _ _⟩
  rw [List.getElem?_set_self (List.getElem?_eq_some_iff.1 h).1]
  have : splice old 0 cells = cells:=by simp [splice,hl]
  rw [this]
theorem put_one {S : St} {rb v : Nat} {old : List AV} (h : S[rb]? = some ⟨old,0,v⟩) (o : Nat) (ho : o < old.length) (a : AV) (hc : a.isCell = true) : ∃ S',S.put rb o [a] = some S'∧S'[rb]? = some ⟨old.set o a,0,v + 1⟩∧Agree (fun b=>b = rb) S S':=by
  have:=put_box (o:=o) (vs:=[a]) h (by simp; omega) (by simp [hc])
  refine ⟨_,this,?_,Agree.set _ _ _⟩
  rw [List.getElem?_set_self (List.getElem?_eq_some_iff.1 h).1]
  have : splice old o [a] = old.set o a:=by
    rw [List.set_eq_take_append_cons_drop,if_pos ho]
    simp [splice]
  rw [this]
def zeroE : EndV:=⟨0,0,0,0⟩
def endCnt (i : Nat) : Nat:=if i = 1 then 3 else 1
def mkEnd (i : Nat) (n : List Int) : EndV:=if i = 0 then ⟨1,0,n.getD 0 0,0⟩ else if i = 1 then ⟨2,n.getD 0 0,n.getD 1 0,n.getD 2 0⟩ else ⟨(i : Int) + 1,n.getD 0 0,0,0⟩
theorem endP_hit {line : List UInt8} {i : Nat} {n : List Int} (hi : i < 4) (hb : ∀ j : Nat,j < i→headP line (endNm ((j : Int) + 1)) (endCnt j) = none) (h : headP line (endNm ((i : Int) + 1)) (endCnt i) = some n) : endP line = some (mkEnd i n):=by
  unfold endP
  match i,hi with
  | 0,_=>rw [show headP line (endNm 1) 1 = some n from h]; rfl
  | 1,_=>rw [show headP line (endNm 1) 1 = none from hb 0 (by omega),show headP line (endNm 2) 3 = some n from h]; rfl
  | 2,_=>rw [show headP line (endNm 1) 1 = none from hb 0 (by omega),show headP line (endNm 2) 3 = none from hb 1 (by omega),show headP line (endNm 3) 1 = some n from h]; rfl
  | 3,_=>rw [show headP line (endNm 1) 1 = none from hb 0 (by omega),show headP line (endNm 2) 3 = none from hb 1 (by omega),show headP line (endNm 3) 1 = none from hb 2 (by omega),show headP line (endNm 4) 1 = some n from h]; rfl
theorem endP_miss {line : List UInt8} (hb : ∀ j : Nat,j < 4→headP line (endNm ((j : Int) + 1)) (endCnt j) = none) : endP line = none:=by
  unfold endP
  rw [show headP line (endNm 1) 1 = none from hb 0 (by omega),show headP line (endNm 2) 3 = none from hb 1 (by omega),show headP line (endNm 3) 1 = none from hb 2 (by omega),show headP line (endNm 4) 1 = none from hb 3 (by omega)]
theorem headP_len {line head : List UInt8} {c : Nat} {n : List Int} (h : headP line head c = some n) : n.length = c∧∀ x ∈ n,I64 x:=by
  unfold headP at h
  split at h
  · split at h
    · exact (nums_some h).2
    · cases h
  · cases h
section
variable {X : Cx} {st : St}
theorem ser_at {s : St} {lo : Nat} {w : AV} {n : List Int} (h : OwnS s lo w 1 (rowsI n)) (i : Nat) (hi : i < n.length) : ∃ b o,elemA w 1 (i : Int) = some (.ptr b o)∧(∀ L,St.at1 (s++L) b o = some (iA (n.getD i 0)))∧b < s.length:=by
  obtain ⟨b1,o1,he1,hb1,hb2,h4⟩:=h.arr.row i (by simpa using hi)
  obtain ⟨b2,o2,he2,hn1,ha1,_⟩:=h.arr.get i (by simpa using hi)
  rw [he1] at he2
  cases he2
  refine ⟨b1,o1,he1,fun L=>?_,hb2⟩
  have p1:=ha1 L 0 (by omega)
  simp only [List.getElem_map,Nat.add_zero,List.getElem?_cons_zero] at p1
  rw [p1,List.getD_eq_getElem?_getD,List.getElem?_eq_getElem hi]
  rfl
theorem kept_oneP {env : Env} {s s' : St} {x : VOpd} {b o : Nat} (hx : x.ev env = .ptr b o) (h : s'[b]? = s[b]?) : keptA env s s' [x] = true:=by
  unfold keptA
  simp only [List.all_cons,List.all_nil,Bool.and_true,hx,adrBox,h]
  cases s[b]?<;>simp
set_option maxHeartbeats 2000000 in
theorem j_code_readEnd (h : OnH X) (hg : GB st) (line : List UInt8) (hl : line.length≤2500000) :
    J X.P X.F X.H (.call 100 [sA line] st (.ret (.tup [.agg ((endP line).getD zeroE).row,bA (endP line).isSome])) st):=by
  refine pure_intro (by rw [h.F]; rfl) rfl ?_
  have h1:=hg 1 ⟨glob_bireme_code_ends,1,0⟩ rfl
  have ge : ∀ L,St.atN (st++L) 1 0 8 = some glob_bireme_code_ends:=fun L=>by
    rw [atN_box (by rw [List.getElem?_append_left (List.getElem?_eq_some_iff.1 h1).1]; exact h1) (by decide) 0 8 (by decide)]
    rfl
  simp only [v_code_readEnd,ge,kB,kZ,kD,kE,xn,xi,xm,xe,xf,xg,xh,xl,xk,xj,reduceIte,reduceCtorEq,ya,xz,xu]
  have hr0 : (st++[⟨[iA 0,iA 0,iA 0,iA 0],0,0⟩])[st.length + 0]? = some ⟨[iA 0,iA 0,iA 0,iA 0],0,0⟩:=by simp
  have hp0 : ∃ m,st++[⟨[iA 0,iA 0,iA 0,iA 0],0,0⟩] = st++m:=⟨_,rfl⟩
  generalize (st++[⟨[iA 0,iA 0,iA 0,iA 0],0,0⟩] : St) = S0 at *
  generalize hrb : st.length + 0 = rb at *
  refine anyLoop (mB m0) (fun e s=>e 2 = .ptr rb 0∧(∃ m,s = st++m)∧s[rb]? = some ⟨[iA 0,iA 0,iA 0,iA 0],0,0⟩∧endP line = none) ?_ ?_
  · refine loop_inv (fun k e s=>∃ i : Nat,i + k = 4∧e 0 = sA line∧e 2 = .ptr rb 0∧e 9 = .agg glob_bireme_code_ends∧e 10 = iA i∧(∃ m,s = st++m)∧s[rb]? = some ⟨[iA 0,iA 0,iA 0,iA 0],0,0⟩∧∀ j : Nat,j < i→headP line (endNm ((j : Int) + 1)) (endCnt j) = none) ?_ 4 ?_
    case refine_2=>exact ⟨0,by omega,rfl,rfl,rfl,rfl,hp0,hr0,fun j hj=>by omega⟩
    clear hp0 hr0
    rintro k e s ⟨i,hik,k0,k2,k9,k10,⟨ms,hms⟩,hr,hb⟩
    simp only [k0,k2,k9,k10,kB,kZ,kD,kE,xn,xi,xm,xe,xf,xg,xh,xl,xk,xj,reduceIte,reduceCtorEq,ya,xz,xu]
    refine condO_intro ?_ ?_<;>intro hc
    case refine_2 =>
      have hi : i = 4:=by have:=of_decide_eq_false hc; omega
      subst hi
      simp only [k2,kB,kZ,kD,kE,xn,xi,xm,xe,xf,xg,xh,xl,xk,xj,reduceIte,reduceCtorEq,ya,xz,xu]
      exact ⟨⟨ms,hms⟩,hr,endP_miss hb⟩
    have hi : i < 4:=by have:=of_decide_eq_true hc; omega
    have hgs : ∀ L,GB (s++L):=fun L=>by rw [hms,List.append_assoc]; exact hg.app _
    have hrl:=(List.getElem?_eq_some_iff.1 hr).1
    have hstl : st.length≤s.length:=by rw [hms]; simp
    have w0 : IntKind.wrap .i64 (0 + 1) = 1:=rfl
    have w1 : IntKind.wrap .i64 (1 + 1) = 2:=rfl
    have w2 : IntKind.wrap .i64 (2 + 1) = 3:=rfl
    have w3 : IntKind.wrap .i64 (3 + 1) = 4:=rfl
    have hx : (glob_bireme_code_ends.drop (i * 2)).take 2 = [sA (endNm ((i : Int) + 1)),iA (endCnt i)]:=by
      match i,hi with
      | 0,_=>rfl
      | 1,_=>rfl
      | 2,_=>rfl
      | 3,_=>rfl
    have hcnt : endCnt i≤3:=by unfold endCnt; split<;>omega
    have h04 : (0 : Int)≤(i : Int):=by omega
    have h4 : (i : Int) < 4:=by omega
    have h8 : i * 2 + 2≤glob_bireme_code_ends.length:=by show _≤8; omega
    have hwi : IntKind.wrap .i64 ((i : Int) + 1) = ((i + 1 : Nat) : Int):=by rw [wrap_small (by omega) (by omega)]; omega
    simp only [k0,k2,k9,k10,h04,h4,h8,hx,and_self,kB,kZ,kD,kE,xn,xi,xm,xe,xf,xg,xh,xl,xk,xj,reduceIte,reduceCtorEq,ya,xz,xu]
    refine wpF.mono (w_code_headed h (hgs _) line (endNm ((i : Int) + 1)) hl (endCnt i) (by omega)) ?_
    rintro r S ⟨w,m,rfl,rfl,hown⟩
    refine ⟨kept_app _ _ _ _,?_⟩
    have hr1 : (s++[⟨[sA (endNm ((i : Int) + 1)),iA (endCnt i)],0,1⟩]++m)[rb]? = some ⟨[iA 0,iA 0,iA 0,iA 0],0,0⟩:=by
      rw [List.append_assoc,List.getElem?_append_left hrl]; exact hr
    have hms1 : ∃ k,s++[⟨[sA (endNm ((i : Int) + 1)),iA (endCnt i)],0,1⟩]++m = st++k:=⟨_,by rw [hms,List.append_assoc,List.append_assoc]⟩
    cases hP : headP line (endNm ((i : Int) + 1)) (endCnt i) with
    | none =>
      simp only [Option.isSome_none,k0,k2,k9,k10,hwi,kB,kZ,kD,kE,xn,xi,xm,xe,xf,xg,xh,xl,xk,xj,reduceIte,reduceCtorEq,ya,xz,xu]
      simp only [List.append_assoc,List.cons_append,List.nil_append] at hms1 hr1
      refine ⟨k - 1,by omega,i + 1,by omega,rfl,hms1,hr1,fun j hj=>?_⟩
      by_cases hji : j = i
      · subst hji; exact hP
      · exact hb j (by omega)
    | some n =>
      have hwn:=hown n hP
      clear hown
      have hE:=endP_hit hi hb hP
      obtain ⟨hnl,hnI⟩:=headP_len hP
      have hlo1 : (s++[⟨[sA (endNm ((i : Int) + 1)),iA (endCnt i)],0,1⟩] : St).length = s.length + 1:=by simp
      rw [hlo1] at hwn
      generalize s++[⟨[sA (endNm ((i : Int) + 1)),iA (endCnt i)],0,1⟩]++m = S1 at *
      obtain ⟨m1,hm1⟩:=hms1
      have hrl1:=(List.getElem?_eq_some_iff.1 hr1).1
      simp only [Option.isSome_some,k0,k2,k9,k10,hwi,kB,kZ,kD,kE,xn,xi,xm,xe,xf,xg,xh,xl,xk,xj,reduceIte,reduceCtorEq,ya,xz,xu]
      have hput : ∀ (L : St) (cells : List AV),cells.length = 4→cells.all AV.isCell = true→∃ S',St.put (S1++L) rb 0 cells = some S'∧St.atN S' rb 0 4 = some cells∧∃ m,S' = st++m:=fun L cells hcl hcc=>by
        obtain ⟨S',e1,e2,e3⟩:=put_whole (S:=S1++L) (by rw [List.getElem?_append_left hrl1]; exact hr1) (by rw [hcl]; rfl) hcc
        refine ⟨S',e1,?_,e3.ext ⟨m1++L,by rw [hm1,List.append_assoc]⟩ fun b hb e=>by omega⟩
        rw [atN_box e2 (by decide) 0 4 (by omega)]
        simp only [List.drop_zero,List.take_of_length_le (show cells.length≤4 by omega)]
      rw [hE]
      obtain ⟨b0,o0,g0,p0,_⟩:=ser_at hwn 0 (by rw [hnl]; unfold endCnt; split<;>omega)
      simp only [Int.natCast_zero] at g0
      rcases (show i = 0∨i = 1∨i = 2∨i = 3 by omega) with rfl | rfl | rfl | rfl
      · obtain ⟨S2,e1,e2,e3⟩:=hput [⟨[iA 1,iA 0,iA (n.getD 0 0),iA 0],0,2⟩] [iA 1,iA 0,iA (n.getD 0 0),iA 0] rfl rfl
        simp only [Int.reduceEq,Int.cast_ofNat_Int,k0,k2,g0,p0,e1,e2,kB,kZ,kD,kE,xn,xi,xm,xe,xf,xg,xh,xl,xk,xj,reduceIte,reduceCtorEq,ya,xz,xu]
        exact ⟨by rfl,e3⟩
      · have hnl3 : n.length = 3:=hnl
        obtain ⟨b1,o1,g1,p1,_⟩:=ser_at hwn 1 (by omega)
        obtain ⟨b2,o2,g2,p2,hb2⟩:=ser_at hwn 2 (by omega)
        simp only [Int.cast_ofNat_Int] at g1 g2
        obtain ⟨S2,e1,e2,e3⟩:=hput [⟨[iA 2,iA (n.getD 0 0),iA (n.getD 1 0),iA (n.getD 2 0)],0,4⟩] [iA 2,iA (n.getD 0 0),iA (n.getD 1 0),iA (n.getD 2 0)] rfl rfl
        simp only [Int.reduceEq,Int.cast_ofNat_Int,k0,k2,g0,p0,g1,p1,g2,p2,e1,e2,kB,kZ,kD,kE,xn,xi,xm,xe,xf,xg,xh,xl,xk,xj,reduceIte,reduceCtorEq,ya,xz,xu]
        exact ⟨kept_oneP (b:=b2) (o:=o2) rfl (by rw [List.getElem?_append_left hb2,List.getElem?_append_left hb2]),by rfl,e3⟩
      · obtain ⟨S2,e1,e2,e3⟩:=hput [⟨[iA 3,iA (n.getD 0 0),iA 0,iA 0],0,2⟩] [iA 3,iA (n.getD 0 0),iA 0,iA 0] rfl rfl
        simp only [Int.reduceEq,Int.cast_ofNat_Int,k0,k2,g0,p0,e1,e2,kB,kZ,kD,kE,xn,xi,xm,xe,xf,xg,xh,xl,xk,xj,reduceIte,reduceCtorEq,ya,xz,xu]
        exact ⟨by rfl,e3⟩
      · obtain ⟨S2,e1,e2,e3⟩:=hput [⟨[iA 4,iA (n.getD 0 0),iA 0,iA 0],0,2⟩] [iA 4,iA (n.getD 0 0),iA 0,iA 0] rfl rfl
        simp only [Int.reduceEq,Int.cast_ofNat_Int,k0,k2,g0,p0,e1,e2,kB,kZ,kD,kE,xn,xi,xm,xe,xf,xg,xh,xl,xk,xj,reduceIte,reduceCtorEq,ya,xz,xu]
        exact ⟨by rfl,e3⟩
  rintro e s ⟨k2,⟨m,hm⟩,hr,hE⟩
  obtain ⟨S',e1,e2,e3⟩:=put_whole hr (cells:=[iA 0,iA 0,iA 0,iA 0]) rfl rfl
  have e4 : St.atN S' rb 0 4 = some [iA 0,iA 0,iA 0,iA 0]:=by
    rw [atN_box e2 (by decide) 0 4 (by simp)]
    rfl
  rw [hE]
  simp only [k2,e1,e4,kB,kZ,kD,kE,xn,xi,xm,xe,xf,xg,xh,xl,xk,xj,reduceIte,reduceCtorEq,ya,xz,xu]
  exact ⟨by rfl,e3.ext ⟨m,hm⟩ fun b hb e=>by omega⟩
end
end Go.VX.Seat
end
section
set_option maxRecDepth 4000
namespace Go.VX.Seat
open Go.Proofs Go.Lib
def idxJ (w : List UInt8) : Int:=match idxK w with
  | some k=>k - 1
  | none=>-1
theorem nmJ_eq (j : Nat) : nameL.getD j ⟨#[]⟩ = ⟨(nmJ j).toArray⟩:=by
  unfold nmJ
  cases nameL.getD j ⟨#[]⟩
  rfl
theorem idxJ_hit {w : List UInt8} {i : Nat} (hi : i < 25) (h : nmJ i = w) : idxJ w = i:=by
  have ho : oneK ((i : Int) + 1) = true:=by unfold oneK; simp; omega
  have e : nmK ((i : Int) + 1) = w:=by rw [nmK_J ho,show ((i : Int) + 1 - 1).toNat = i by omega]; exact h
  unfold idxJ
  rw [←e,idxK_nm ho]
  show (i : Int) + 1 - 1 = i
  omega
theorem idxJ_miss {w : List UInt8} (h : ∀ j,j < 25→nmJ j≠w) : idxK w = none:=by
  unfold idxK
  have : ((List.range 25).find? fun j=>decide (nmJ j = w)) = none:=by
    rw [List.find?_eq_none]
    intro j hj
    simpa using h j (List.mem_range.1 hj)
  rw [this]
  rfl
section
variable {X : Cx} {st : St}
theorem j_readOp_c1 (h : OnH X) {lb lo hi ver : Nat} {v : AV} {w : List UInt8} {t : List (List UInt8)} (hb : st[lb]? = some ⟨[v],0,ver⟩) (hv : StrsAt st lo hi v (w :: t)) (u c : Int) (nm : List UInt8) :
    J X.P X.F X.H (.call 122 [.agg [iA u,iA c,sA nm],.ptr lb 0] st (.ret (bA (decide (nm = w)))) st):=by
  refine pure_intro (by rw [h.F]; rfl) rfl ?_
  have x0 : ∀ L,St.at1 (st++L) lb 0 = some v:=fun L=>by
    have h2 : (st++L)[lb]? = some ⟨[v],0,ver⟩:=by rw [List.getElem?_append_left (List.getElem?_eq_some_iff.1 hb).1]; exact hb
    exact at1_box h2 (by decide) 0
  obtain ⟨b1,o1,he1,hn1,ha1,_⟩:=hv.get 0 (by simp)
  have p1:=fun (L : St)=>ha1 L 0 (by omega)
  simp only [List.map_cons,List.getElem_cons_zero,Nat.add_zero,List.getElem?_cons_zero,Int.natCast_zero] at p1 he1
  have g1:=fun ox oy=>k_eq X.P ox oy nm w
  simp only [v_code_readOp_c1,x0,he1,p1,g1,kB,kZ,kD,kE,xn,xi,xm,xe,xf,xg,xh,xl,xk,xj,reduceIte,reduceCtorEq,ya,xz,xu]
  exact ⟨_,rfl⟩
theorem j_IndexFunc_form (h : OnH X) (hg : GB st) {lb lo hi ver : Nat} {f : Bool} {v : AV} {w : List UInt8} {t : List (List UInt8)} (hb : st[lb]? = some ⟨[v],0,ver⟩) (hv : StrsAt st lo hi v (w :: t)) :
    J X.P X.F X.H (.call 121 [.sl 0 0 25 3 f,.fn 122 [] [.ptr lb 0]] st (.ret (iA (idxJ w))) st):=by
  refine pure_intro (by rw [h.F]; rfl) rfl ?_
  have hf:=hg 0 formBox rfl
  simp only [v_slices_IndexFunc_form,kB,kZ,kD,kE,xn,xi,xm,xe,xf,xg,xh,xl,xk,xj,reduceIte,reduceCtorEq,ya,xz,xu]
  refine anyLoop (mB m0) (fun e s=>s = st++[]∧∀ j,j < 25→nmJ j≠w) ?_ ?_
  · refine loop_inv (fun k e s=>∃ i : Nat,i + k = 25∧s = st++[]∧e 0 = .sl 0 0 25 3 f∧e 1 = .fn 122 [] [.ptr lb 0]∧e 7 = iA 25∧e 8 = iA i∧∀ j,j < i→nmJ j≠w) ?_ 25 ?_
    case refine_2=>exact ⟨0,by omega,rfl,rfl,rfl,rfl,rfl,fun j hj=>by omega⟩
    rintro k e s ⟨i,hik,rfl,k0,k1,k7,k8,hb2⟩
    simp only [k0,k1,k7,k8,kB,kZ,kD,kE,xn,xi,xm,xe,xf,xg,xh,xl,xk,xj,reduceIte,reduceCtorEq,ya,xz,xu]
    refine condO_intro ?_ ?_<;>intro hc
    case refine_2 =>
      have hi : i = 25:=by have:=of_decide_eq_false hc; omega
      subst hi
      simp only [kB,kZ,kD,kE,xn,xi,xm,xe,xf,xg,xh,xl,xk,xj,reduceIte,reduceCtorEq,ya,xz,xu]
      exact hb2
    have hi : i < 25:=by have:=of_decide_eq_true hc; omega
    have hel : elemA (.sl 0 0 25 3 f) 3 (i : Int) = some (.ptr 0 (i * 3)):=by
      rw [elemA_sl,if_pos ⟨by omega,by omega,rfl⟩]
      simp
    have hld : ∀ L,St.atN (st++L) 0 (i * 3) 3 = some [iA (usesL.getD i 0),iA (classL.getD i 0),sA (nmJ i)]:=fun L=>by
      have hlen : formCells.length = 75:=rfl
      rw [atN_box (by rw [List.getElem?_append_left (List.getElem?_eq_some_iff.1 hf).1]; exact hf) (by decide) (i * 3) 3 (by rw [hlen]; omega)]
      have:=form_row i hi
      rw [Nat.zero_add,nmJ_eq] at this
      exact congrArg some this
    have hwi : IntKind.wrap .i64 ((i : Int) + 1) = ((i + 1 : Nat) : Int):=by rw [wrap_small (by omega) (by omega)]; omega
    simp only [k0,k1,k7,k8,hel,hld,kB,kZ,kD,kE,xn,xi,xm,xe,xf,xg,xh,xl,xk,xj,reduceIte,reduceCtorEq,ya,xz,xu]
    refine callO_same (j_readOp_c1 (st:=st++[]) h (by rw [List.append_nil]; exact hb) (by rw [List.append_nil]; exact hv) _ _ _) ?_
    simp only [k0,k1,k7,k8,kB,kZ,kD,kE,xn,xi,xm,xe,xf,xg,xh,xl,xk,xj,reduceIte,reduceCtorEq,ya,xz,xu]
    refine condO_intro ?_ ?_<;>intro hq
    · have he : nmJ i = w:=of_decide_eq_true hq
      rw [idxJ_hit hi he]
      simp only [kB,kZ,kD,kE,xn,xi,xm,xe,xf,xg,xh,xl,xk,xj,reduceIte,reduceCtorEq,ya,xz,xu]
      first | exact ⟨_,rfl⟩ | exact ⟨rfl,_,rfl⟩ | exact ⟨trivial,_,rfl⟩ | exact ⟨[],(List.append_nil _).symm⟩
    · have he : nmJ i≠w:=of_decide_eq_false hq
      simp only [k0,k1,k7,k8,hwi,kB,kZ,kD,kE,xn,xi,xm,xe,xf,xg,xh,xl,xk,xj,reduceIte,reduceCtorEq,ya,xz,xu]
      refine ⟨k - 1,by omega,i + 1,by omega,rfl,fun j hj=>?_⟩
      by_cases hji : j = i
      · subst hji; exact he
      · exact hb2 j (by omega)
  rintro e s ⟨rfl,hb2⟩
  have : idxJ w = -1:=by unfold idxJ; rw [idxJ_miss hb2]
  rw [this]
  simp only [kB,kZ,kD,kE,xn,xi,xm,xe,xf,xg,xh,xl,xk,xj,reduceIte,reduceCtorEq,ya,xz,xu]
  first | exact ⟨_,rfl⟩ | exact ⟨rfl,_,rfl⟩ | exact ⟨trivial,_,rfl⟩ | exact ⟨[],(List.append_nil _).symm⟩
end
end Go.VX.Seat
end
section
set_option maxRecDepth 4000
namespace Go.VX.Seat
open Go.Proofs Go.Lib
theorem cells_cell {a : AV} (h : a.isCell = true) : cellsOf a = [a]:=by
  cases a<;>first | rfl | (simp [AV.isCell] at h)
theorem nums_one (p : List UInt8) : nums [p] 1 = (readN p).map fun x=>[x]:=by
  unfold nums
  rw [if_pos (show [p].length = 1 from rfl),List.mapM_cons]
  cases readN p<;>rfl
theorem kept_oneQ {env : Env} {s s' : St} {x : VOpd} {b o : Nat} (hx : x.ev env = .ptr b o) (h : s'[b]? = s[b]?) : keptA env s s' [x] = true:=kept_oneP hx h
structure RO (st S : St) (rb ob lb : Nat) (o : List AV) (lv : AV) (ps : List (List UInt8)) : Prop where
  pre : ∃ k,S = st++k
  res : S[rb]? = some ⟨[iA 0,iA 0,iA 0,iA 0,iA 0,iA 0,iA 0],0,0⟩
  out : ∃ ver,S[ob]? = some ⟨o,0,ver⟩
  l : ∃ ver,S[lb]? = some ⟨[lv],0,ver⟩
  ord : st.length≤rb∧rb < ob∧ob < lb
  strs : ∃ lo hi,StrsAt S lo hi lv ps
  sep : ∀ b,boxOf lv = some b→ob < b∧b≠lb
section
variable {st S : St} {rb ob lb : Nat} {o : List AV} {lv : AV} {ps : List (List UInt8)}
theorem RO.lt (h : RO st S rb ob lb o lv ps) : lb < S.length:=let ⟨_,hb⟩:=h.l; (List.getElem?_eq_some_iff.1 hb).1
theorem RO.agree {X : Nat→Prop} {S' : St} (h : RO st S rb ob lb o lv ps) (ha : Agree X S S') (h1 : ∀ b,X b→b≠rb∧b≠ob∧b≠lb∧st.length≤b∧boxOf lv≠some b) : RO st S' rb ob lb o lv ps:=by
  obtain ⟨⟨k,hk⟩,hr,⟨v1,ho⟩,⟨v2,hl⟩,hord,⟨lo,hi,hs⟩,hsep⟩:=h
  refine ⟨ha.ext ⟨k,hk⟩ fun b hb hx=>(by have:=(h1 b hx).2.2.2.1; omega),ha.box hr fun hx=>(h1 _ hx).1 rfl,⟨v1,ha.box ho fun hx=>(h1 _ hx).2.1 rfl⟩,⟨v2,ha.box hl fun hx=>(h1 _ hx).2.2.1 rfl⟩,hord,⟨lo,hi,hs.agree ha fun b hb hx=>(h1 b hx).2.2.2.2 hb⟩,hsep⟩
theorem RO.app (h : RO st S rb ob lb o lv ps) (L : St) : RO st (S++L) rb ob lb o lv ps :=
  h.agree (Agree.app (fun _=>False) S L) fun _ hx=>hx.elim
theorem RO.gb (h : RO st S rb ob lb o lv ps) (hg : GB st) : GB S:=by
  obtain ⟨k,hk⟩:=h.pre
  rw [hk]
  exact hg.app k
theorem RO.out1 (h : RO st S rb ob lb o lv ps) (k : Nat) : St.at1 S ob k = o[k]?:=let ⟨_,hb⟩:=h.out; at1_box hb (by decide) k
theorem RO.l1 (h : RO st S rb ob lb o lv ps) (L : St) : St.at1 (S++L) lb 0 = some lv:=by
  obtain ⟨_,hb⟩:=(h.app L).l
  exact at1_box hb (by decide) 0
theorem RO.l0 (h : RO st S rb ob lb o lv ps) : St.at1 S lb 0 = some lv:=by
  obtain ⟨_,hb⟩:=h.l
  exact at1_box hb (by decide) 0
theorem RO.outN (h : RO st S rb ob lb o lv ps) (hl : o.length = 7) : St.atN S ob 0 7 = some o:=by
  obtain ⟨_,hb⟩:=h.out
  rw [atN_box hb (by decide) 0 7 (by omega)]
  simp only [List.drop_zero,List.take_of_length_le (show o.length≤7 by omega)]
theorem RO.put_out (h : RO st S rb ob lb o lv ps) (k : Nat) (hk : k < o.length) (a : AV) (hc : a.isCell = true) : ∃ S',S.put ob k [a] = some S'∧RO st S' rb ob lb (o.set k a) lv ps∧Agree (fun b=>b = ob) S S':=by
  obtain ⟨v1,ho⟩:=h.out
  obtain ⟨S',e1,e2,e3⟩:=put_one ho k hk a hc
  obtain ⟨⟨k0,hk0⟩,hr,_,⟨v2,hl⟩,hord,⟨lo,hi,hs⟩,hsep⟩:=h
  exact ⟨S',e1,⟨e3.ext ⟨k0,hk0⟩ fun b hb hx=>(by omega),e3.box hr (by omega),⟨_,e2⟩,⟨v2,e3.box hl (by omega)⟩,hord,⟨lo,hi,hs.agree e3 fun b hb hx=>(by have:=(hsep b hb).1; omega)⟩,hsep⟩,e3⟩
theorem RO.put_l (h : RO st S rb ob lb o lv ps) {lo hi : Nat} {w : AV} {qs : List (List UInt8)} (hw : StrsAt S lo hi w qs) (hb : boxOf w = boxOf lv) : ∃ S',S.put lb 0 [w] = some S'∧RO st S' rb ob lb o w qs∧Agree (fun b=>b = lb) S S':=by
  obtain ⟨v2,hl⟩:=h.l
  obtain ⟨S',e1,e2,e3⟩:=put_one hl 0 (by simp) w (isCell_len hw.len)
  obtain ⟨⟨k0,hk0⟩,hr,⟨v1,ho⟩,_,hord,_,hsep⟩:=h
  exact ⟨S',e1,⟨e3.ext ⟨k0,hk0⟩ fun b hb hx=>(by omega),e3.box hr (by omega),⟨v1,e3.box ho (by omega)⟩,⟨_,e2⟩,hord,⟨lo,hi,hw.agree e3 fun b hb' hx=>(hsep b (by rw [←hb]; exact hb')).2 hx⟩,fun b hb'=>hsep b (by rw [←hb]; exact hb')⟩,e3⟩
theorem RO.fin (h : RO st S rb ob lb o lv ps) (hl : o.length = 7) (hc : o.all AV.isCell = true) : ∃ S',S.put rb 0 o = some S'∧St.atN S' rb 0 7 = some o∧∃ m,S' = st++m:=by
  obtain ⟨S',e1,e2,e3⟩:=put_whole h.res (cells:=o) (by rw [hl]; rfl) hc
  obtain ⟨k0,hk0⟩:=h.pre
  refine ⟨S',e1,?_,e3.ext ⟨k0,hk0⟩ fun b hb hx=>(by have:=h.ord; omega)⟩
  rw [atN_box e2 (by decide) 0 7 (by omega)]
  simp only [List.drop_zero,List.take_of_length_le (show o.length≤7 by omega)]
theorem RO.word (h : RO st S rb ob lb o lv ps) (i : Nat) (hi : i < ps.length) : ∃ b k,elemA lv 1 (i : Int) = some (.ptr b k)∧∀ L,St.at1 (S++L) b k = some (sA (ps.getD i [])):=by
  obtain ⟨lo,hi',hs⟩:=h.strs
  obtain ⟨b1,o1,he1,hn1,ha1,_⟩:=hs.get i (by simpa using hi)
  refine ⟨b1,o1,he1,fun L=>?_⟩
  have p1:=ha1 L 0 (by omega)
  simp only [List.getElem_map,Nat.add_zero,List.getElem?_cons_zero] at p1
  rw [p1,List.getD_eq_getElem?_getD,List.getElem?_eq_getElem hi]
  rfl
theorem RO.len (h : RO st S rb ob lb o lv ps) : lenA lv = some ps.length:=by
  obtain ⟨lo,hi',hs⟩:=h.strs
  have:=hs.len
  simpa using this
end
theorem opR_cut {X : Cx} {K : Env→St→Post3→Prop} {Q : Post3} {d : Option Nat} {env : Env} {s : St} {lo hi esz l u : Nat} {x : VOpd} {ol oh : Option VOpd} {rows : List (List AV)} {vx : AV} (hx : ArrAt s lo hi vx esz rows) (ex : x.ev env = vx) (hl : bnd env 0 ol = some l) (hh : bnd env rows.length oh = some u) (h1 : l≤u) (h2 : u≤rows.length) (hne : rows≠[])
    (h : ∀ w,ArrAt s lo hi w esz ((rows.take u).drop l)→boxOf w = boxOf vx→K (env.put d w) s Q) : opR X K d [] env s Q (vop X.P (.slice none esz x ol oh none) env s):=by
  rw [v_slice,ex]
  rcases nil_or_sl hx.len with ⟨rfl,hz⟩ | ⟨b,o,e,f,rfl⟩
  · exact absurd (List.length_eq_zero_iff.1 hz) hne
  · obtain ⟨rfl,h0⟩:=hx.size _ _ _ _ _ rfl
    have hm : bnd env rows.length none = some rows.length:=rfl
    simp only [hl,hh,hm]
    rw [if_pos ⟨h1,h2,Nat.le_refl _,by simp,trivial⟩]
    refine ⟨keptA_nil _ _ _,h _ ⟨?_,?_,?_⟩ rfl⟩
    · simp only [lenA,List.length_drop,List.length_take]
      congr 1
      omega
    · intro b' o' len' e' full' q
      cases q
      refine ⟨rfl,?_⟩
      obtain ⟨b',o',f',q,_,_,hw⟩:=hx.whole hne
      cases q
      exact atN_lessS (hw rows.length (Nat.le_refl _)) (Nat.mul_le_mul_right _ (by omega))
    · intro i hi'
      simp only [List.length_drop,List.length_take] at hi'
      obtain ⟨b1,o1,q1,q2,q3,q4⟩:=hx.row (l + i) (by omega)
      obtain ⟨b',o',len',full',q,_,_,hp⟩:=elemA_inv q1
      cases q
      simp only [AV.ptr.injEq,Int.toNat_natCast] at hp
      obtain ⟨rfl,rfl⟩:=hp
      refine ⟨b1,o + (l + i) * e,?_,q2,q3,?_⟩
      · simp only [elemA,Int.toNat_natCast]
        rw [if_pos ⟨by omega,by omega,trivial⟩]
        congr 2
        rw [Nat.add_mul]
        omega
      · simpa using q4
def ptrR (ob j : Nat) : List (List AV):=(List.range j).map fun i=>[AV.ptr ob (2 + i)]
theorem ptrR_succ (ob j : Nat) : ptrR ob (j + 1) = ptrR ob j++[[AV.ptr ob (2 + j)]]:=by
  unfold ptrR
  rw [List.range_succ,List.map_append]
  rfl
def hasI (k : Int) (i : Nat) : Bool:=if i = 0 then hasA k else if i = 1 then hasB k else hasC k
def shI (i : Nat) : Int:=if i = 0 then 2 else if i = 1 then 4 else 8
def cI (k : Int) (i : Nat) : Nat:=(if 0 < i then b2 (hasA k) else 0) + (if 1 < i then b2 (hasB k) else 0) + (if 2 < i then b2 (hasC k) else 0)
theorem cI_succ (k : Int) {i : Nat} (hi : i < 3) : cI k (i + 1) = cI k i + b2 (hasI k i):=by
  match i,hi with
  | 0,_=>simp [cI,hasI]
  | 1,_=>simp [cI,hasI]
  | 2,_=>simp [cI,hasI]
theorem cI_full (k : Int) {i : Nat} (hi : i < 3) (h : hasI k i = true) : cI k i = i:=by
  obtain ⟨h1,h2⟩:=has_chain k
  match i,hi with
  | 0,_=>rfl
  | 1,_ =>
    have hb : hasB k = true:=h
    simp [cI,h1 hb,b2]
  | 2,_ =>
    have hc : hasC k = true:=h
    simp [cI,h2 hc,h1 (h2 hc),b2]
theorem b2_le (b : Bool) : b2 b≤1:=by cases b<;>decide
theorem cI_le (k : Int) (i : Nat) : cI k i≤3:=by
  have a:=b2_le (hasA k)
  have b:=b2_le (hasB k)
  have c:=b2_le (hasC k)
  unfold cI
  split<;>split<;>split<;>omega
theorem cnt_eq (k : Int) : cntK k = cI k 3 + b2 (hasN k):=rfl
def oR (k d g : Int) (n : List Int) (i : Nat) : List AV:=[iA k,iA d,iA (if 0 < i then n.getD 0 0 else 0),iA (if 1 < i then n.getD 1 0 else 0),iA (if 2 < i then n.getD 2 0 else 0),iA 0,iA g]
theorem oR_set (k d g : Int) (n : List Int) {i : Nat} (hi : i < 3) : (oR k d g n i).set (2 + i) (iA (n.getD i 0)) = oR k d g n (i + 1):=by
  match i,hi with
  | 0,_=>rfl
  | 1,_=>rfl
  | 2,_=>rfl
theorem oR_mk (k d g : Int) (n : List Int) : (oR k d g n (cI k 3)).set 5 (iA (if hasN k then n.getD (cntK k - 1) 0 else 0)) = (mkOp k g d n).row:=by
  obtain ⟨h1,h2⟩:=has_chain k
  unfold oR cI OpV.row mkOp
  generalize cntK k = z
  cases hA : hasA k<;>cases hB : hasB k<;>cases hC : hasC k
  all_goals first | rfl | (exfalso; simp_all; done)
theorem sh_i (P : Program) (t : TypeId) {i : Nat} (hi : i < 3) (ox oy : Operand) : closed P (do eqGuard .shl t ox oy (.int .i64 2) (.int .i64 (i : Int)); binOp .shl t (.int .i64 2) (.int .i64 (i : Int))) = some (.int .i64 (shI i)):=by
  match i,hi with
  | 0,_=>rfl
  | 1,_=>rfl
  | 2,_=>rfl
theorem bit_i {k : Int} (h : oneK k = true) {i : Nat} (hi : i < 3) : decide (andI (usesK k) (shI i)≠0) = hasI k i:=by
  obtain ⟨_,t2,t3,t4,_⟩:=bits h
  match i,hi with
  | 0,_=>exact t2
  | 1,_=>exact t3
  | 2,_=>exact t4
theorem c_neb (a b : Bool) (ox oy : Operand) : closed Tryz.prog (do eqGuard .neq 4 ox oy (.bool a) (.bool b); binOp .neq 4 (.bool a) (.bool b)) = some (.bool (a != b)):=by cases a<;>cases b<;>kernel_rfl
theorem opR_cell {X : Cx} {K : Env→St→Post3→Prop} {Q : Post3} {d : Option Nat} {env : Env} {s : St} {lo : Nat} {w a : AV} {rows : List (List AV)} {x y : VOpd} (h : OwnS s lo w 1 rows) (hlo : lo≤s.length) (hl : rows.length≤1000000) (ha : a.isCell = true) (ex : x.ev env = w) (ey : y.ev env = .sl s.length 0 1 1 true)
    (hK : ∀ w' s',Agree (fun b=>boxOf w = some b) s s'→OwnS s' lo w' 1 (rows++[[a]])→K (env.put d w') s' Q) :
    opR X K d [] env (s++[⟨[a],0,0⟩]) Q (vop X.P (.append 1 8 x y) env (s++[⟨[a],0,0⟩])):=by
  have hag0:=Agree.app (fun _=>False) s [⟨[a],0,0⟩]
  have h1 : OwnS (s++[⟨[a],0,0⟩]) lo w 1 rows:=h.agree hag0 fun _ _ y=>y
  have hrow : ArrAt (s++[⟨[a],0,0⟩]) s.length (s.length + 1) (.sl s.length 0 1 1 true) 1 [[a]]:=ArrAt.ofBox (mode:=0) (ver:=0) (by simp) (by decide) (fun r hr=>by rw [List.mem_singleton.1 hr]; rfl) rfl
  refine opR_append (vx:=w) (vy:=.sl s.length 0 1 1 true) (rows:=rows) (rows2:=[[a]]) (lo:=lo) ex ey h1 (by simp; omega) hrow (by simp; omega) (by simp [ha]) ?_
  intro w' s' hag hown hcase
  exact ⟨keptA_nil _ _ _,hK w' s' ((hag0.trans hag).mono fun n _ y=>y.elim (fun y=>y.elim) fun y=>y.2) hown⟩
theorem RO.step {st S S' : St} {rb ob lb fb lo : Nat} {o F : List AV} {vf : Nat} {lv w : AV} {ps : List (List UInt8)} {rows : List (List AV)} (h : RO st S rb ob lb o lv ps) (hf : S[fb]? = some ⟨F,0,vf⟩) (hw : OwnS S lo w 1 rows) (hlo : lb < lo∧fb < lo∧∀ b,boxOf lv = some b→b < lo) (ha : Agree (fun b=>boxOf w = some b) S S') : RO st S' rb ob lb o lv ps∧S'[fb]? = some ⟨F,0,vf⟩:=by
  have hb : ∀ b,boxOf w = some b→lo≤b:=fun b hb=>(hw.bnd b hb).1
  have hord:=h.ord
  refine ⟨h.agree ha fun b hx=>?_,ha.box hf fun hx=>by have:=hb _ hx; omega⟩
  have h1:=hb b hx
  exact ⟨by omega,by omega,by omega,by omega,fun e=>by have:=hlo.2.2 b e; omega⟩
end Go.VX.Seat
end
section
set_option maxRecDepth 4000
namespace Go.VX.Seat
open Go.Proofs Go.Lib
section
variable {X : Cx} {st : St}
set_option maxHeartbeats 4000000 in
theorem w_code_readOp (h : OnH X) (hg : GB st) (line : List UInt8) (hl : line.length≤2500000) :
    wpF X 101 [sA line] st fun r s=>∃ o : OpV,r = .ret (.tup [.agg o.row,bA (opP line).isSome])∧(∀ x,opP line = some x→o = x)∧∃ m,s = st++m:=by
  refine wpF_go (fn:=v_code_readOp) (by rw [h.F]; rfl) ?_
  simp only [v_code_readOp,kB,kZ,kD,kE,xn,xi,xm,xe,xf,xg,xh,xl,xk,xj,reduceIte,reduceCtorEq,ya,xz,xu]
  refine wpF.mono (w_Split h 32 line (by omega)) ?_
  rintro r S ⟨v,m,hi,rfl,rfl,ha⟩
  refine ⟨kept_app _ _ _ _,?_⟩
  have hpl:=spl_le 32 line
  have hcl:=spl_len 32 line
  have hcc:=List.count_le_length (a:=(32 : UInt8)) (l:=line)
  have hvc:=isCell_len ha.len
  obtain ⟨p0,pt,hsp⟩:=spl_cons 32 line
  rw [hsp] at ha hpl hcl
  have hbv : ∀ b,boxOf v = some b→st.length + 1 < b∧b < st.length + (m.length + 1 + 1):=fun b hb=>by
    obtain ⟨b1,o1,he1,hb1,hb2,_⟩:=ha.row 0 (by simp)
    obtain ⟨b',o',len',full',rfl,_,_,hp⟩:=elemA_inv he1
    cases hb
    cases hp
    have:=ha.boxlt rfl
    simp only [List.length_append,List.length_cons,List.length_nil] at hb1 this
    omega
  have hcv:=cells_cell hvc
  have hRO : RO st (st++(⟨[iA 0,iA 0,iA 0,iA 0,iA 0,iA 0,iA 0],0,0⟩ :: ⟨[iA 0,iA 0,iA 0,iA 0,iA 0,iA 0,iA (-1)],0,1⟩ :: (m++[⟨[v],0,1⟩]))) (st.length + 0) (st.length + 1) (st.length + (m.length + 1 + 1)) [iA 0,iA 0,iA 0,iA 0,iA 0,iA 0,iA (-1)] v (p0 :: pt):=by
    have hm:=ha.mono [⟨[v],0,1⟩]
    simp only [List.append_assoc,List.cons_append,List.nil_append] at hm
    exact ⟨⟨_,rfl⟩,by simp,⟨1,by simp⟩,⟨1,by simp⟩,⟨by omega,by omega,by omega⟩,⟨_,_,hm⟩,fun b hb=>⟨by have:=(hbv b hb).1; omega,by have:=(hbv b hb).2; omega⟩⟩
  have hoP : opP line = opG tailP (p0 :: pt):=by unfold opP; rw [show spl line = p0 :: pt from hsp]
  rw [hoP]
  simp only [hvc,hcv,kB,kZ,kD,kE,xn,xi,xm,xe,xf,xg,xh,xl,xk,xj,reduceIte,reduceCtorEq,ya,xz,xu]
  clear ha hbv hsp hoP hvc hcv
  generalize (st++(⟨[iA 0,iA 0,iA 0,iA 0,iA 0,iA 0,iA 0],0,0⟩ :: ⟨[iA 0,iA 0,iA 0,iA 0,iA 0,iA 0,iA (-1)],0,1⟩ :: (m++[⟨[v],0,1⟩])) : St) = S at *
  generalize st.length + 0 = rb at *
  generalize st.length + 1 = ob at *
  generalize st.length + (m.length + 1 + 1) = lb at *
  obtain ⟨b0,o0,he0,hp0⟩:=hRO.word 0 (by simp)
  have hln:=hRO.len
  have d1:=fun ox oy=>k_eq X.P ox oy p0 [63]
  have l0:=hRO.l0
  have hw0 : St.at1 S b0 o0 = some (sA p0):=by simpa using hp0 []
  simp only [Int.natCast_zero] at he0
  simp only [l0,he0,hw0,d1,kB,kZ,kD,kE,xn,xi,xm,xe,xf,xg,xh,xl,xk,xj,reduceIte,reduceCtorEq,ya,xz,xu]
  have hno : ∀ {q : Option OpV},q = none→∀ (y x : OpV),q = some x→y = x:=fun e y x h=>by rw [e] at h; cases h
  have hgw : ∀ x : Int,([iA 0,iA 0,iA 0,iA 0,iA 0,iA 0,iA x] : List AV) = (⟨0,0,0,0,0,0,x⟩ : OpV).row:=fun _=>rfl
  refine anyG (mS m0) (fun e s=>∃ (g : Int) (lv : AV) (qs : List (List UInt8)),e 2 = .ptr rb 0∧e 4 = .ptr ob 0∧e 5 = .ptr lb 0∧RO st s rb ob lb [iA 0,iA 0,iA 0,iA 0,iA 0,iA 0,iA g] lv qs∧qs≠[]∧opG tailP (p0 :: pt) = dstG (tailP g) qs∧(∀ p ∈ qs,p.length≤line.length)∧qs.length≤line.length + 1) ?_ ?_
  · cases hq : decide (p0 = [63])
    · have hne : p0≠[63]:=of_decide_eq_false hq
      simp only [hq,kB,kZ,kD,kE,xn,xi,xm,xe,xf,xg,xh,xl,xk,xj,reduceIte,reduceCtorEq,ya,xz,xu]
      refine ⟨-1,v,p0 :: pt,hRO,by simp,?_,hpl,by omega⟩
      unfold opG
      rw [if_neg (by simp [hne])]
    have he : p0 = [63]:=of_decide_eq_true hq
    simp only [hq,l0,hln,kB,kZ,kD,kE,xn,xi,xm,xe,xf,xg,xh,xl,xk,xj,reduceIte,reduceCtorEq,ya,xz,xu]
    refine condO_intro ?_ ?_<;>intro hc
    case refine_2 =>
      have hlt : ¬ 2 < (p0 :: pt).length:=by have:=of_decide_eq_false hc; simp only [List.length_cons] at this ⊢; omega
      simp only [kB,kZ,kD,kE,xn,xi,xm,xe,xf,xg,xh,xl,xk,xj,reduceIte,reduceCtorEq,ya,xz,xu]
      refine ⟨-1,v,p0 :: pt,hRO,by simp,?_,hpl,by omega⟩
      unfold opG
      rw [if_neg (by simp only [not_and]; intro h; exact absurd h hlt)]
    have hlt : 2 < (p0 :: pt).length:=by have:=of_decide_eq_true hc; simp only [List.length_cons] at this ⊢; omega
    match pt,hlt with
    | p1 :: p2 :: r,_ =>
    obtain ⟨slo,shi,hss⟩:=hRO.strs
    have hop : opG tailP (p0 :: p1 :: p2 :: r) = match readN p1 with
        | some g=>if g = -1 then none else dstG (tailP g) (p2 :: r)
        | none=>none:=by
      unfold opG
      rw [if_pos ⟨by simp,by simp [he]⟩]
      rfl
    have hl1:=hpl p1 (by simp)
    simp only [l0,kB,kZ,kD,kE,xn,xi,xm,xe,xf,xg,xh,xl,xk,xj,reduceIte,reduceCtorEq,ya,xz,xu]
    refine opR_cut (l:=1) (u:=2) hss (by simp only [kB,kZ,kD,kE,xn,xi,xm,xe,xf,xg,xh,xl,xk,xj,reduceIte,reduceCtorEq,ya,xz,xu]) rfl rfl (by omega) (by simp) (by simp) ?_
    intro w hw hbw
    simp only [List.map_cons,List.take_succ_cons,List.take_zero,List.drop_succ_cons,List.drop_zero] at hw
    simp only [kB,kZ,kD,kE,xn,xi,xm,xe,xf,xg,xh,xl,xk,xj,reduceIte,reduceCtorEq,ya,xz,xu]
    refine wpF.mono (w_code_numbers (ws:=[p1]) h (hRO.gb hg) hw (fun p hp=>by rw [List.mem_singleton.1 hp]; omega) (by simp) 1 (by omega)) ?_
    rintro r1 S1 ⟨w2,m2,rfl,rfl,hw2⟩
    refine ⟨kept_app _ _ _ _,?_⟩
    have hR2:=hRO.app m2
    have hlo2:=hRO.lt
    have hord:=hRO.ord
    rw [nums_one] at hw2 ⊢
    have o2:=hR2.outN rfl
    obtain ⟨S3,f1,f2,f3⟩:=hR2.fin rfl rfl
    have l2:=hR2.l0
    cases hr : readN p1 with
    | none =>
      rw [hr] at hop
      dsimp only at hop
      simp only [Option.map_none,Option.isSome_none,o2,f1,f2,kB,kZ,kD,kE,xn,xi,xm,xe,xf,xg,xh,xl,xk,xj,reduceIte,reduceCtorEq,ya,xz,xu]
      exact ⟨⟨0,0,0,0,0,0,-1⟩,by rw [hop]; rfl,hno hop _,f3⟩
    | some g =>
      rw [hr] at hop
      dsimp only at hop
      have hw3:=hw2 [g] (by rw [hr]; rfl)
      obtain ⟨b3,o3,g3,p3,hb3⟩:=ser_at hw3 0 (by simp)
      have p3:=p3 []
      simp only [List.append_nil,List.getD_cons_zero] at p3
      simp only [Int.natCast_zero] at g3
      simp only [Option.map_some,Option.isSome_some,g3,p3,kB,kZ,kD,kE,xn,xi,xm,xe,xf,xg,xh,xl,xk,xj,reduceIte,reduceCtorEq,ya,xz,xu]
      refine condO_intro ?_ ?_<;>intro hc2
      · have hg1 : g = -1:=of_decide_eq_true hc2
        rw [if_pos hg1] at hop
        simp only [o2,f1,f2,kB,kZ,kD,kE,xn,xi,xm,xe,xf,xg,xh,xl,xk,xj,reduceIte,reduceCtorEq,ya,xz,xu]
        exact ⟨⟨0,0,0,0,0,0,-1⟩,by rw [hop]; rfl,hno hop _,f3⟩
      have hg1 : g≠-1:=of_decide_eq_false hc2
      rw [if_neg hg1] at hop
      clear f1 f2 f3 S3
      obtain ⟨slo2,shi2,hss2⟩:=hR2.strs
      simp only [g3,p3,l2,kB,kZ,kD,kE,xn,xi,xm,xe,xf,xg,xh,xl,xk,xj,reduceIte,reduceCtorEq,ya,xz,xu]
      refine opR_cut (l:=2) (u:=(p0 :: p1 :: p2 :: r).length) hss2 (by simp only [kB,kZ,kD,kE,xn,xi,xm,xe,xf,xg,xh,xl,xk,xj,reduceIte,reduceCtorEq,ya,xz,xu]) rfl (by simp [bnd]) (by simp) (by simp) (by simp) ?_
      intro w3 hw3' hbw3
      have hd3 : ((List.map (fun p=>[sA p]) (p0 :: p1 :: p2 :: r)).take (p0 :: p1 :: p2 :: r).length).drop 2 = rowsS (p2 :: r):=by
        rw [List.take_of_length_le (by simp)]
        rfl
      rw [hd3] at hw3'
      obtain ⟨S4,e4,hR4,hag4⟩:=hR2.put_out 6 (by simp) (iA g) rfl
      have hw4:=hw3'.agree hag4 fun b hb hx=>by
        rw [hbw3] at hb
        have:=(hR2.sep b hb).1
        omega
      obtain ⟨S5,e5,hR5,hag5⟩:=hR4.put_l hw4 hbw3
      have hc3:=isCell_len hw3'.len
      have hcw:=cells_cell hc3
      have hk4 : S4[lb]? = (S++m2)[lb]?:=hag4.eq lb (by have:=hR2.lt; omega) (by omega)
      simp only [e4,e5,hcw,kB,kZ,kD,kE,xn,xi,xm,xe,xf,xg,xh,xl,xk,xj,reduceIte,reduceCtorEq,ya,xz,xu]
      exact ⟨kept_oneQ (b:=lb) (o:=0) rfl hk4,g,w3,p2 :: r,hR5,by simp,hop,fun p hp=>hpl p (by simp only [List.mem_cons] at hp ⊢; exact .inr (.inr hp)),by simp only [List.length_cons] at hcl ⊢; omega⟩
  clear hRO hpl hcl hcc he0 d1 l0 hw0 hp0 hln
  rintro e s ⟨g,lv,qs,k2,k4,k5,hRO,hqne,hop,hpl,hql⟩
  rw [hop]
  clear hop p0 pt
  have hln:=hRO.len
  have l0:=hRO.l0
  simp only [k2,k4,k5,l0,hln,kB,kZ,kD,kE,xn,xi,xm,xe,xf,xg,xh,xl,xk,xj,reduceIte,reduceCtorEq,ya,xz,xu]
  refine anyG m0 (fun e s'=>s' = s∧e 2 = .ptr rb 0∧e 4 = .ptr ob 0∧e 5 = .ptr lb 0∧e 8 = bA (decide (2 < qs.length∧qs.getD 1 [] = [61]))) ?_ ?_
  · cases hq : decide ((2 : Int) < (qs.length : Int))
    · have : decide (2 < qs.length∧qs.getD 1 [] = [61]) = false:=decide_eq_false (by have:=of_decide_eq_false hq; omega)
      simp only [hq,this,k2,k4,k5,kB,kZ,kD,kE,xn,xi,xm,xe,xf,xg,xh,xl,xk,xj,reduceIte,reduceCtorEq,ya,xz,xu]
    · have hlt : 2 < qs.length:=by have:=of_decide_eq_true hq; omega
      have : decide (2 < qs.length∧qs.getD 1 [] = [61]) = decide (qs.getD 1 [] = [61]):=by simp [hlt]
      obtain ⟨b1,o1,he1,hp1⟩:=hRO.word 1 (by omega)
      have d1:=fun ox oy=>k_eq X.P ox oy (qs.getD 1 []) [61]
      have hw1 : St.at1 s b1 o1 = some (sA (qs.getD 1 [])):=by simpa using hp1 []
      simp only [Int.cast_ofNat_Int] at he1
      simp only [hq,this,k2,k4,k5,l0,he1,hw1,d1,kB,kZ,kD,kE,xn,xi,xm,xe,xf,xg,xh,xl,xk,xj,reduceIte,reduceCtorEq,ya,xz,xu]
  clear k2 k4 k5
  rintro e s' ⟨rfl,k2,k4,k5,k8⟩
  simp only [k2,k4,k5,k8,kB,kZ,kD,kE,xn,xi,xm,xe,xf,xg,xh,xl,xk,xj,reduceIte,reduceCtorEq,ya,xz,xu]
  refine anyCond m0 (fun e s=>∃ (d : Int) (dst : Bool) (lv : AV) (w : List UInt8) (t : List (List UInt8)),e 2 = .ptr rb 0∧e 4 = .ptr ob 0∧e 5 = .ptr lb 0∧e 8 = bA dst∧RO st s rb ob lb [iA 0,iA d,iA 0,iA 0,iA 0,iA 0,iA g] lv (w :: t)∧dstG (tailP g) qs = tailP g d dst (w :: t)∧(∀ p ∈ t,p.length≤line.length)∧t.length≤line.length) ?_ ?_
  · refine condO_intro ?_ ?_<;>intro hc
    case refine_2 =>
      have hd : dstG (tailP g) qs = tailP g 0 false qs:=by unfold dstG; rw [if_neg (of_decide_eq_false hc)]
      match qs,hqne,hc,hd with
      | w :: t,_,hc,hd =>
      simp only [k2,k4,k5,k8,hc,kB,kZ,kD,kE,xn,xi,xm,xe,xf,xg,xh,xl,xk,xj,reduceIte,reduceCtorEq,ya,xz,xu]
      exact ⟨0,false,lv,w,t,congrArg bA hc,hRO,hd,fun p hp=>hpl p (List.mem_cons_of_mem _ hp),by simp only [List.length_cons] at hql; omega⟩
    have hc':=of_decide_eq_true hc
    match qs,hqne,hc',hc with
    | p0 :: p1 :: p2 :: r,_,hc',hc =>
    obtain ⟨slo,shi,hss⟩:=hRO.strs
    have hop : dstG (tailP g) (p0 :: p1 :: p2 :: r) = match readN p0 with
        | some d=>tailP g d true (p2 :: r)
        | none=>none:=by
      unfold dstG
      rw [if_pos hc']
      rfl
    have hl1:=hpl p0 (by simp)
    simp only [k2,k4,k5,l0,kB,kZ,kD,kE,xn,xi,xm,xe,xf,xg,xh,xl,xk,xj,reduceIte,reduceCtorEq,ya,xz,xu]
    refine opR_cut (l:=0) (u:=1) hss (by simp only [kB,kZ,kD,kE,xn,xi,xm,xe,xf,xg,xh,xl,xk,xj,reduceIte,reduceCtorEq,ya,xz,xu]) rfl rfl (by omega) (by simp) (by simp) ?_
    intro w hw hbw
    simp only [List.map_cons,List.take_succ_cons,List.take_zero,List.drop_zero] at hw
    simp only [kB,kZ,kD,kE,xn,xi,xm,xe,xf,xg,xh,xl,xk,xj,reduceIte,reduceCtorEq,ya,xz,xu]
    refine wpF.mono (w_code_numbers (ws:=[p0]) h (hRO.gb hg) hw (fun p hp=>by rw [List.mem_singleton.1 hp]; omega) (by simp) 1 (by omega)) ?_
    rintro r1 S1 ⟨w2,m2,rfl,rfl,hw2⟩
    refine ⟨kept_app _ _ _ _,?_⟩
    have hR2:=hRO.app m2
    have hlo2:=hRO.lt
    have hord:=hRO.ord
    rw [nums_one] at hw2 ⊢
    have o2:=hR2.outN rfl
    obtain ⟨S3,f1,f2,f3⟩:=hR2.fin rfl rfl
    have l2:=hR2.l0
    cases hr : readN p0 with
    | none =>
      rw [hr] at hop
      dsimp only at hop
      simp only [Option.map_none,Option.isSome_none,k2,k4,k5,o2,f1,f2,kB,kZ,kD,kE,xn,xi,xm,xe,xf,xg,xh,xl,xk,xj,reduceIte,reduceCtorEq,ya,xz,xu]
      exact ⟨⟨0,0,0,0,0,0,g⟩,by rw [hop]; rfl,hno hop _,f3⟩
    | some d =>
      rw [hr] at hop
      dsimp only at hop
      have hw3:=hw2 [d] (by rw [hr]; rfl)
      obtain ⟨b3,o3,g3,p3,hb3⟩:=ser_at hw3 0 (by simp)
      have p3:=p3 []
      simp only [List.append_nil,List.getD_cons_zero] at p3
      simp only [Int.natCast_zero] at g3
      clear f1 f2 f3 S3
      obtain ⟨slo2,shi2,hss2⟩:=hR2.strs
      simp only [Option.map_some,Option.isSome_some,k2,k4,k5,g3,p3,l2,kB,kZ,kD,kE,xn,xi,xm,xe,xf,xg,xh,xl,xk,xj,reduceIte,reduceCtorEq,ya,xz,xu]
      refine opR_cut (l:=2) (u:=(p0 :: p1 :: p2 :: r).length) hss2 (by simp only [kB,kZ,kD,kE,xn,xi,xm,xe,xf,xg,xh,xl,xk,xj,reduceIte,reduceCtorEq,ya,xz,xu]) rfl (by simp [bnd]) (by simp) (by simp) (by simp) ?_
      intro w3 hw3' hbw3
      have hd3 : ((List.map (fun p=>[sA p]) (p0 :: p1 :: p2 :: r)).take (p0 :: p1 :: p2 :: r).length).drop 2 = rowsS (p2 :: r):=by
        rw [List.take_of_length_le (by simp)]
        rfl
      rw [hd3] at hw3'
      obtain ⟨S4,e4,hR4,hag4⟩:=hR2.put_out 1 (by simp) (iA d) rfl
      have hw4:=hw3'.agree hag4 fun b hb hx=>by
        rw [hbw3] at hb
        have:=(hR2.sep b hb).1
        omega
      obtain ⟨S5,e5,hR5,hag5⟩:=hR4.put_l hw4 hbw3
      have hc3:=isCell_len hw3'.len
      have hcw:=cells_cell hc3
      have hk4 : S4[lb]? = (s'++m2)[lb]?:=hag4.eq lb (by have:=hR2.lt; omega) (by omega)
      simp only [k2,k4,k5,k8,hc,e4,e5,hcw,kB,kZ,kD,kE,xn,xi,xm,xe,xf,xg,xh,xl,xk,xj,reduceIte,reduceCtorEq,ya,xz,xu]
      exact ⟨kept_oneQ (b:=lb) (o:=0) (by simp only [k5,kB,kZ,kD,kE,xn,xi,xm,xe,xf,xg,xh,xl,xk,xj,reduceIte,reduceCtorEq,ya,xz,xu]) hk4,d,true,w3,p2,r,congrArg bA hc,hR5,hop,fun p hp=>hpl p (by simp only [List.mem_cons]; exact .inr (.inr (.inr hp))),by simp only [List.length_cons] at hql; omega⟩
  clear k2 k4 k5 k8 hRO hln l0
  rintro e s ⟨d,dst,lv,w,t,k2,k4,k5,k8,hRO,hop,hpl2,htl⟩
  rw [hop]
  clear hop hpl hqne hql
  have l0:=hRO.l0
  obtain ⟨slo,shi,hss⟩:=hRO.strs
  obtain ⟨vl,hlb⟩:=hRO.l
  have hgs:=hRO.gb hg
  simp only [k2,k4,k5,k8,kB,kZ,kD,kE,xn,xi,xm,xe,xf,xg,xh,xl,xk,xj,reduceIte,reduceCtorEq,ya,xz,xu]
  have hf:=hgs 0 formBox rfl
  have hsl : vop X.P (.slice (some 25) 3 (.glo 0) none none none) e s = some (.val (.sl 0 0 25 3 true),s):=by
    have h75 : St.atN s 0 0 75 = some formCells:=by
      rw [atN_box hf (by decide) 0 75 (by decide)]
      rfl
    rw [v_slice]
    show (if (0 : Nat)≤25∧25≤25∧25≤25∧_∧(St.atN s 0 0 (25 * 3)).isSome = true then _ else _) = _
    rw [if_pos ⟨by omega,by omega,by omega,by simp,by rw [show 25 * 3 = 75 from rfl,h75]; rfl⟩]
    rfl
  rw [hsl]
  simp only [k2,k4,k5,k8,kB,kZ,kD,kE,xn,xi,xm,xe,xf,xg,xh,xl,xk,xj,reduceIte,reduceCtorEq,ya,xz,xu]
  refine callO_same (j_IndexFunc_form h hgs hlb hss) ?_
  simp only [k2,k4,k5,k8,kB,kZ,kD,kE,xn,xi,xm,xe,xf,xg,xh,xl,xk,xj,reduceIte,reduceCtorEq,ya,xz,xu]
  clear hsl
  have o2:=hRO.outN rfl
  obtain ⟨S3,f1,f2,f3⟩:=hRO.fin rfl rfl
  unfold tailP
  dsimp only
  cases hk : idxK w with
  | none =>
    have : idxJ w = -1:=by unfold idxJ; rw [hk]
    simp only [this,k2,k4,k5,k8,o2,f1,f2,kB,kZ,kD,kE,xn,xi,xm,xe,xf,xg,xh,xl,xk,xj,reduceIte,reduceCtorEq,ya,xz,xu]
    exact ⟨⟨0,d,0,0,0,0,g⟩,rfl,fun x hx=>hx.elim,f3⟩
  | some k =>
    obtain ⟨ho,hnm⟩:=idxK_some hk
    have hkb:=oneK_bnd ho
    have hj : idxJ w = ((k - 1).toNat : Int):=by unfold idxJ; rw [hk]; show k - 1 = _; omega
    have hlt0 : decide (((k - 1).toNat : Int) < 0) = false:=decide_eq_false (by omega)
    have h04 : (0 : Int)≤((k - 1).toNat : Int):=by omega
    have h25 : ((k - 1).toNat : Int) < 25:=by omega
    have hwk : IntKind.wrap .i64 (((k - 1).toNat : Int) + 1) = k:=by rw [wrap_small (by omega) (by omega)]; omega
    obtain ⟨t1,t2,t3,t4,_,_,_,_⟩:=bits ho
    have t240:=b240 ho
    have hld : ∀ L,St.atN (s++L) 0 ((k - 1).toNat * 3) 3 = some [iA (usesK k),iA (classK k),sA (nmK k)]:=fun L=>by
      have hlen : formCells.length = 75:=rfl
      rw [atN_box (by rw [List.getElem?_append_left (List.getElem?_eq_some_iff.1 hf).1]; exact hf) (by decide) ((k - 1).toNat * 3) 3 (by rw [hlen]; omega)]
      have:=form_row (k - 1).toNat (by omega)
      rw [Nat.zero_add,nmJ_eq] at this
      rw [this,nmK_J ho]
      unfold usesK classK
      rw [if_pos ho,if_pos ho]
    have hld0:=hld []
    rw [List.append_nil] at hld0
    simp only [hj,hlt0,h04,h25,hwk,hld0,k2,k4,k5,k8,kB,kZ,kD,kE,xn,xi,xm,xe,xf,xg,xh,xl,xk,xj,reduceIte,reduceCtorEq,ya,xz,xu]
    have hR1:=hRO.app [⟨[iA (usesK k),iA (classK k),sA (nmK k)],0,1⟩]
    obtain ⟨S1,e1,hR,hag1⟩:=hR1.put_out 0 (by simp) (iA k) rfl
    replace hR : RO st S1 rb ob lb [iA k,iA d,iA 0,iA 0,iA 0,iA 0,iA g] lv (w :: t):=hR
    have hfb0 : (s++[⟨[iA (usesK k),iA (classK k),sA (nmK k)],0,1⟩])[s.length]? = some ⟨[iA (usesK k),iA (classK k),sA (nmK k)],0,1⟩:=by simp
    have hlbs:=hRO.lt
    have hord:=hRO.ord
    have hfb:=hag1.box hfb0 (by omega)
    have hlvb : ∀ b,boxOf lv = some b→b < s.length:=fun b hb=>hss.boxlt hb
    have hsl : s.length + 1≤S1.length:=by have:=hag1.len; simpa using this
    simp only [e1,k2,k4,k5,k8,kB,kZ,kD,kE,xn,xi,xm,xe,xf,xg,xh,xl,xk,xj,reduceIte,reduceCtorEq,ya,xz,xu]
    clear e1 hag1 hR1 hRO hss hlb l0 o2 f1 f2 f3 hld hld0 hfb0 hgs hf
    generalize s.length = fb at *
    generalize hlo0 : fb + 1 = lo at *
    have hlo : lb < lo∧fb < lo∧∀ b,boxOf lv = some b→b < lo:=⟨by omega,by omega,fun b hb=>by have:=hlvb b hb; omega⟩
    have x0 : ∀ o,St.at1 S1 fb o = ([iA (usesK k),iA (classK k),sA (nmK k)] : List AV)[o]?:=fun o=>at1_box hfb (by decide) o
    have o2:=hR.outN rfl
    obtain ⟨S3,f1,f2,f3⟩:=hR.fin rfl rfl
    have cn:=fun ox oy=>c_neb dst (hasDst k) ox oy
    rw [←h.P] at cn
    simp only [k2,k4,k5,k8,x0,c_and,t1,cn,kB,kZ,kD,kE,xn,xi,xm,xe,xf,xg,xh,xl,xk,xj,reduceIte,reduceCtorEq,ya,xz,xu]
    refine condO_intro ?_ ?_<;>intro hcd
    · have hne : dst≠hasDst k:=by simpa using hcd
      rw [if_neg hne]
      simp only [k2,k4,k5,k8,o2,f1,f2,kB,kZ,kD,kE,xn,xi,xm,xe,xf,xg,xh,xl,xk,xj,reduceIte,reduceCtorEq,ya,xz,xu]
      exact ⟨⟨k,d,0,0,0,0,g⟩,rfl,fun x hx=>hx.elim,f3⟩
    have heq : dst = hasDst k:=by simpa using hcd
    rw [if_pos heq]
    clear f1 f2 f3 S3 o2 hcd cn
    simp only [k2,k4,k5,k8,kB,kZ,kD,kE,xn,xi,xm,xe,xf,xg,xh,xl,xk,xj,reduceIte,reduceCtorEq,ya,xz,xu]
    refine anyLoop (mB m0) (fun e s=>∃ v13,e 2 = .ptr rb 0∧e 4 = .ptr ob 0∧e 5 = .ptr lb 0∧e 12 = .ptr fb 0∧e 13 = v13∧RO st s rb ob lb [iA k,iA d,iA 0,iA 0,iA 0,iA 0,iA g] lv (w :: t)∧s[fb]? = some ⟨[iA (usesK k),iA (classK k),sA (nmK k)],0,1⟩∧OwnS s lo v13 1 (ptrR ob (cI k 3))∧lo≤s.length) ?_ ?_
    · refine loop_inv (fun n e s=>∃ (i : Nat) (v13 : AV),i + n = 3∧e 2 = .ptr rb 0∧e 4 = .ptr ob 0∧e 5 = .ptr lb 0∧e 12 = .ptr fb 0∧e 13 = v13∧e 101 = .agg [.ptr ob 2,.ptr ob 3,.ptr ob 4]∧e 102 = iA i∧RO st s rb ob lb [iA k,iA d,iA 0,iA 0,iA 0,iA 0,iA g] lv (w :: t)∧s[fb]? = some ⟨[iA (usesK k),iA (classK k),sA (nmK k)],0,1⟩∧OwnS s lo v13 1 (ptrR ob (cI k i))∧lo≤s.length) ?_ 3 ?_
      case refine_2=>exact ⟨0,_,by omega,by simp only [k2,kB,kZ,kD,kE,xn,xi,xm,xe,xf,xg,xh,xl,xk,xj,reduceIte,reduceCtorEq,ya,xz,xu],by simp only [k4,kB,kZ,kD,kE,xn,xi,xm,xe,xf,xg,xh,xl,xk,xj,reduceIte,reduceCtorEq,ya,xz,xu],by simp only [k5,kB,kZ,kD,kE,xn,xi,xm,xe,xf,xg,xh,xl,xk,xj,reduceIte,reduceCtorEq,ya,xz,xu],rfl,rfl,rfl,rfl,hR,hfb,own_nil _ _ _,hsl⟩
      clear hR hfb hsl k2 k4 k5 k8 x0
      rintro n e s ⟨i,v13,hin,k2,k4,k5,k12,k13,k101,k102,hR,hfb,hown,hsl⟩
      simp only [k2,k4,k5,k12,k13,k101,k102,kB,kZ,kD,kE,xn,xi,xm,xe,xf,xg,xh,xl,xk,xj,reduceIte,reduceCtorEq,ya,xz,xu]
      refine condO_intro ?_ ?_<;>intro hc3
      case refine_2 =>
        have hi : i = 3:=by have:=of_decide_eq_false hc3; omega
        subst hi
        simp only [k2,k4,k5,k12,k13,kB,kZ,kD,kE,xn,xi,xm,xe,xf,xg,xh,xl,xk,xj,reduceIte,reduceCtorEq,ya,xz,xu]
        exact ⟨hR,hfb,hown,hsl⟩
      have hi : i < 3:=by have:=of_decide_eq_true hc3; omega
      have hidx : ([.ptr ob 2,.ptr ob 3,.ptr ob 4] : List AV)[i]? = some (.ptr ob (2 + i)):=by
        match i,hi with
        | 0,_=>rfl
        | 1,_=>rfl
        | 2,_=>rfl
      have h03 : (0 : Int)≤(i : Int):=by omega
      have h3 : (i : Int) < 3:=by omega
      have hsh:=fun ox oy=>sh_i X.P 3 hi ox oy
      have hbi:=bit_i ho hi
      have hcs:=cI_succ k hi
      have hwi : IntKind.wrap .i64 ((i : Int) + 1) = ((i + 1 : Nat) : Int):=by rw [wrap_small (by omega) (by omega)]; omega
      have hci:=cI_le k i
      have x0 : ∀ o,St.at1 s fb o = ([iA (usesK k),iA (classK k),sA (nmK k)] : List AV)[o]?:=fun o=>at1_box hfb (by decide) o
      simp only [k2,k4,k5,k12,k13,k101,k102,h03,h3,hidx,x0,hsh,c_and,hbi,kB,kZ,kD,kE,xn,xi,xm,xe,xf,xg,xh,xl,xk,xj,reduceIte,reduceCtorEq,ya,xz,xu]
      refine condO_intro ?_ ?_<;>intro hc4
      · have hfull:=cI_full k hi hc4
        simp only [k2,k4,k5,k12,k13,k101,k102,kB,kZ,kD,kE,xn,xi,xm,xe,xf,xg,xh,xl,xk,xj,reduceIte,reduceCtorEq,ya,xz,xu]
        refine opR_cell (a:=.ptr ob (2 + i)) hown hsl (by unfold ptrR; simp; omega) rfl (by simp only [k13,kB,kZ,kD,kE,xn,xi,xm,xe,xf,xg,xh,xl,xk,xj,reduceIte,reduceCtorEq,ya,xz,xu]) (by simp only [kB,kZ,kD,kE,xn,xi,xm,xe,xf,xg,xh,xl,xk,xj,reduceIte,reduceCtorEq,ya,xz,xu]) ?_
        intro w' s' hag hown'
        obtain ⟨hR',hf'⟩:=hR.step hfb hown hlo hag
        simp only [k2,k4,k5,k12,k13,k101,k102,hwi,kB,kZ,kD,kE,xn,xi,xm,xe,xf,xg,xh,xl,xk,xj,reduceIte,reduceCtorEq,ya,xz,xu]
        refine ⟨n - 1,by omega,i + 1,w',by omega,rfl,rfl,hR',hf',?_,Nat.le_trans hsl hag.len⟩
        rw [hcs,hc4]
        show OwnS s' lo w' 1 (ptrR ob (cI k i + 1))
        rw [ptrR_succ,hfull] at *
        exact hown'
      · simp only [k2,k4,k5,k12,k13,k101,k102,hwi,kB,kZ,kD,kE,xn,xi,xm,xe,xf,xg,xh,xl,xk,xj,reduceIte,reduceCtorEq,ya,xz,xu]
        refine ⟨n - 1,by omega,i + 1,v13,by omega,rfl,rfl,hR,hfb,?_,hsl⟩
        rw [hcs,hc4]
        exact hown
    clear hR hfb hsl k2 k4 k5 k8 x0
    rintro e s ⟨v13,k2,k4,k5,k12,k13,hR,hfb,hown,hsl⟩
    have x0 : ∀ o,St.at1 s fb o = ([iA (usesK k),iA (classK k),sA (nmK k)] : List AV)[o]?:=fun o=>at1_box hfb (by decide) o
    have hlen13 : lenA v13 = some (cI k 3):=by
      have:=hown.arr.len
      simpa [ptrR] using this
    simp only [k2,k4,k5,k12,k13,x0,hlen13,c_and,t240,kB,kZ,kD,kE,xn,xi,xm,xe,xf,xg,xh,xl,xk,xj,reduceIte,reduceCtorEq,ya,xz,xu]
    have hc3:=cI_le k 3
    refine anyCond m0 (fun e s'=>s' = s∧e 2 = .ptr rb 0∧e 4 = .ptr ob 0∧e 5 = .ptr lb 0∧e 13 = v13∧e 16 = iA (cntK k)) ?_ ?_
    · have hwc : IntKind.wrap .i64 ((cI k 3 : Int) + 1) = ((cI k 3 + 1 : Nat) : Int):=by rw [wrap_small (by omega) (by omega)]; omega
      refine condO_intro ?_ ?_<;>intro hcn<;>have hcn : hasN k = _:=hcn
      · have e1 : cntK k = cI k 3 + 1:=by rw [cnt_eq,hcn]; rfl
        simp only [k2,k4,k5,k12,k13,hwc,e1,kB,kZ,kD,kE,xn,xi,xm,xe,xf,xg,xh,xl,xk,xj,reduceIte,reduceCtorEq,ya,xz,xu]
      · have e1 : cntK k = cI k 3:=by rw [cnt_eq,hcn]; rfl
        simp only [k2,k4,k5,k12,k13,e1,kB,kZ,kD,kE,xn,xi,xm,xe,xf,xg,xh,xl,xk,xj,reduceIte,reduceCtorEq,ya,xz,xu]
    clear k2 k4 k5 k12 k13 x0
    rintro e s' ⟨rfl,k2,k4,k5,k13,k16⟩
    have hcnt : cntK k≤4:=by have:=b2_le (hasN k); rw [cnt_eq]; omega
    have l0:=hR.l0
    obtain ⟨slo2,shi2,hss⟩:=hR.strs
    simp only [k2,k4,k5,k13,k16,l0,kB,kZ,kD,kE,xn,xi,xm,xe,xf,xg,xh,xl,xk,xj,reduceIte,reduceCtorEq,ya,xz,xu]
    refine opR_sufS (n:=1) (by simp only [kB,kZ,kD,kE,xn,xi,xm,xe,xf,xg,xh,xl,xk,xj,reduceIte,reduceCtorEq,ya,xz,xu]) rfl hss (by simp) ?_
    intro w3 hw3 _
    simp only [List.map_cons,List.drop_succ_cons,List.drop_zero] at hw3
    simp only [k2,k4,k5,k13,k16,kB,kZ,kD,kE,xn,xi,xm,xe,xf,xg,xh,xl,xk,xj,reduceIte,reduceCtorEq,ya,xz,xu]
    refine wpF.mono (w_code_numbers h (hR.gb hg) hw3 (fun p hp=>by have:=hpl2 p hp; omega) (by omega) (cntK k) (by omega)) ?_
    rintro r1 S1 ⟨wn,m2,rfl,rfl,hwn⟩
    refine ⟨kept_app _ _ _ _,?_⟩
    have hR2:=hR.app m2
    have hown2:=own_frame hown m2
    have o2:=hR2.outN rfl
    obtain ⟨S3,f1,f2,f3⟩:=hR2.fin rfl rfl
    cases hn : nums t (cntK k) with
    | none =>
      simp only [Option.map_none,Option.isSome_none,k2,k4,k5,k13,k16,o2,f1,f2,kB,kZ,kD,kE,xn,xi,xm,xe,xf,xg,xh,xl,xk,xj,reduceIte,reduceCtorEq,ya,xz,xu]
      exact ⟨⟨k,d,0,0,0,0,g⟩,rfl,fun x hx=>hx.elim,f3⟩
    | some n =>
      have hwn:=hwn n hn
      obtain ⟨_,hnl,hnI⟩:=nums_some hn
      clear f1 f2 f3 S3 o2
      have hlo2 : lo≤s'.length:=hsl
      generalize hlo2' : s'.length = lo2 at *
      have hsl2 : lo2≤(s'++m2).length:=by simp; omega
      generalize s'++m2 = S2 at *
      simp only [Option.map_some,Option.isSome_some,k2,k4,k5,k13,k16,hlen13,kB,kZ,kD,kE,xn,xi,xm,xe,xf,xg,xh,xl,xk,xj,reduceIte,reduceCtorEq,ya,xz,xu]
      refine anyLoop (mB m0) (fun e s=>e 2 = .ptr rb 0∧e 4 = .ptr ob 0∧e 13 = v13∧e 16 = iA (cntK k)∧e 17 = wn∧RO st s rb ob lb (oR k d g n (cI k 3)) lv (w :: t)∧OwnS s lo2 wn 1 (rowsI n)) ?_ ?_
      · refine loop_inv (fun nn e s=>∃ (i : Nat),i + nn = cI k 3∧e 2 = .ptr rb 0∧e 4 = .ptr ob 0∧e 13 = v13∧e 16 = iA (cntK k)∧e 17 = wn∧e 135 = v13∧e 136 = iA (cI k 3 : Nat)∧e 137 = iA i∧RO st s rb ob lb (oR k d g n i) lv (w :: t)∧OwnS s lo v13 1 (ptrR ob (cI k 3))∧OwnS s lo2 wn 1 (rowsI n)) ?_ (cI k 3) ?_
        case refine_2=>exact ⟨0,by omega,by simp only [k2,kB,kZ,kD,kE,xn,xi,xm,xe,xf,xg,xh,xl,xk,xj,reduceIte,reduceCtorEq,ya,xz,xu],by simp only [k4,kB,kZ,kD,kE,xn,xi,xm,xe,xf,xg,xh,xl,xk,xj,reduceIte,reduceCtorEq,ya,xz,xu],by simp only [k13,kB,kZ,kD,kE,xn,xi,xm,xe,xf,xg,xh,xl,xk,xj,reduceIte,reduceCtorEq,ya,xz,xu],by simp only [k16,kB,kZ,kD,kE,xn,xi,xm,xe,xf,xg,xh,xl,xk,xj,reduceIte,reduceCtorEq,ya,xz,xu],rfl,rfl,rfl,rfl,hR2,hown2,hwn⟩
        clear hR2 hown2 hwn k2 k4 k5 k13 k16
        rintro nn e s ⟨i,hin,k2,k4,k13,k16,k17,k135,k136,k137,hR2,hown2,hwn⟩
        simp only [k2,k4,k13,k16,k17,k135,k136,k137,kB,kZ,kD,kE,xn,xi,xm,xe,xf,xg,xh,xl,xk,xj,reduceIte,reduceCtorEq,ya,xz,xu]
        refine condO_intro ?_ ?_<;>intro hc5
        case refine_2 =>
          have hi : i = cI k 3:=by have:=of_decide_eq_false hc5; omega
          subst hi
          simp only [k2,k4,k13,k16,k17,kB,kZ,kD,kE,xn,xi,xm,xe,xf,xg,xh,xl,xk,xj,reduceIte,reduceCtorEq,ya,xz,xu]
          exact ⟨hR2,hwn⟩
        have hi : i < cI k 3:=by have:=of_decide_eq_true hc5; omega
        obtain ⟨bp,op,gp,_,pp,_⟩:=hown2.arr.get i (by simpa [ptrR] using hi)
        have pp:=pp [] 0 (by omega)
        simp only [List.append_nil,ptrR,List.getElem_map,List.getElem_range,Nat.add_zero,List.getElem?_cons_zero] at pp
        obtain ⟨bn,on,gn,pn,_⟩:=ser_at hwn i (by rw [hnl,cnt_eq]; omega)
        have pn:=pn []
        simp only [List.append_nil] at pn
        obtain ⟨S4,e4,hR4,hag4⟩:=hR2.put_out (2 + i) (by unfold oR; simp; omega) (iA (n.getD i 0)) rfl
        rw [oR_set _ _ _ _ (by omega)] at hR4
        have hwi : IntKind.wrap .i64 ((i : Int) + 1) = ((i + 1 : Nat) : Int):=by rw [wrap_small (by omega) (by omega)]; omega
        simp only [k2,k4,k13,k16,k17,k135,k136,k137,gp,pp,gn,pn,e4,hwi,kB,kZ,kD,kE,xn,xi,xm,xe,xf,xg,xh,xl,xk,xj,reduceIte,reduceCtorEq,ya,xz,xu]
        exact ⟨nn - 1,by omega,i + 1,by omega,rfl,hR4,hown2.agree hag4 fun b hb hx=>by have:=(hown2.bnd b hb).1; omega,hwn.agree hag4 fun b hb hx=>by have:=(hwn.bnd b hb).1; omega⟩
      clear hR2 hown2 hwn k2 k4 k5 k13 k16
      rintro e s ⟨k2,k4,k13,k16,k17,hR2,hwn⟩
      have hlt : decide ((cI k 3 : Int) < (cntK k : Int)) = hasN k:=by
        rw [cnt_eq]
        cases hasN k
        · exact decide_eq_false (by simp [b2])
        · exact decide_eq_true (by simp only [b2,if_true]; omega)
      simp only [k2,k4,k13,k16,k17,hlen13,hlt,kB,kZ,kD,kE,xn,xi,xm,xe,xf,xg,xh,xl,xk,xj,reduceIte,reduceCtorEq,ya,xz,xu]
      refine anyCond m0 (fun e s=>e 2 = .ptr rb 0∧e 4 = .ptr ob 0∧RO st s rb ob lb (mkOp k g d n).row lv (w :: t)) ?_ ?_
      · refine condO_intro ?_ ?_<;>intro hc6<;>have hc6 : hasN k = _:=hc6
        · have hpos : 1≤cntK k:=by rw [cnt_eq,hc6]; simp [b2]
          have hw1 : IntKind.wrap .i64 ((cntK k : Int) - 1) = ((cntK k - 1 : Nat) : Int):=by rw [wrap_small (by omega) (by omega)]; omega
          obtain ⟨bn,on,gn,pn,_⟩:=ser_at hwn (cntK k - 1) (by omega)
          have pn:=pn []
          simp only [List.append_nil] at pn
          obtain ⟨S4,e4,hR4,hag4⟩:=hR2.put_out 5 (by unfold oR; simp) (iA (n.getD (cntK k - 1) 0)) rfl
          have hmk:=oR_mk k d g n
          rw [if_pos hc6] at hmk
          rw [hmk] at hR4
          simp only [k2,k4,k13,k16,k17,hw1,gn,pn,e4,kB,kZ,kD,kE,xn,xi,xm,xe,xf,xg,xh,xl,xk,xj,reduceIte,reduceCtorEq,ya,xz,xu]
          exact hR4
        · have hmk:=oR_mk k d g n
          rw [if_neg (by rw [hc6]; decide)] at hmk
          have : (oR k d g n (cI k 3)).set 5 (iA 0) = oR k d g n (cI k 3):=rfl
          rw [this] at hmk
          rw [hmk] at hR2
          simp only [k2,k4,kB,kZ,kD,kE,xn,xi,xm,xe,xf,xg,xh,xl,xk,xj,reduceIte,reduceCtorEq,ya,xz,xu]
          exact hR2
      clear hR2 hwn k2 k4 k13 k16 k17
      rintro e s ⟨k2,k4,hR2⟩
      have o2:=hR2.outN rfl
      obtain ⟨S3,f1,f2,f3⟩:=hR2.fin rfl rfl
      clear hR2
      generalize mkOp k g d n = oo at *
      obtain ⟨k',d',a',b',c',n',g'⟩:=oo
      simp only [OpV.row] at o2 f1 f2
      simp only [k2,k4,o2,f1,f2,kB,kZ,kD,kE,xn,xi,xm,xe,xf,xg,xh,xl,xk,xj,reduceIte,reduceCtorEq,ya,xz,xu]
      exact ⟨⟨k',d',a',b',c',n',g'⟩,rfl,fun x hx=>hx,f3⟩
end
end Go.VX.Seat
end
section
set_option maxRecDepth 4000
namespace Go.VX.Seat
open Go.Proofs
def UBox (sz bl : AV) (f : Nat→AV) (n b : Nat) : Prop:=boxOf sz = some b∨boxOf bl = some b∨∃ j,j < n∧boxOf (f j) = some b
theorem OwnB.agree' {X : Nat→Prop} {s s' : St} {lo : Nat} {bl : AV} {f : Nat→AV} {l : List BlkV} (h : OwnB s lo bl f l) (ha : Agree X s s') (hx : ∀ b,boxOf bl = some b→¬ X b) (hx2 : ∀ j,j < l.length→∀ b,boxOf (f j) = some b→¬ X b) : OwnB s' lo bl f l where
  own:=h.own.agree ha hx
  box:=h.box.agree ha hx
  ops:=fun i hi=>(h.ops i hi).agree ha (hx2 i hi)
  sep1:=h.sep1
  sep2:=h.sep2
structure UPtr (s : St) (ub lo : Nat) (sz bl : AV) (f : Nat→AV) (U : UnitV) : Prop where
  box : ∃ ver,s[ub]? = some ⟨[sz,iA U.params,iA U.regs,iA U.code,iA U.spill,bl],0,ver⟩
  sep : ¬ UBox sz bl f U.blocks.length ub
  z : OwnZ s lo sz bl f U.sizes U.blocks
  b : OwnB s lo bl f U.blocks
theorem UPtr.lt {s : St} {ub lo : Nat} {sz bl : AV} {f : Nat→AV} {U : UnitV} (h : UPtr s ub lo sz bl f U) : ub < s.length:=let ⟨_,hb⟩:=h.box; (List.getElem?_eq_some_iff.1 hb).1
theorem UPtr.agree {X : Nat→Prop} {s s' : St} {ub lo : Nat} {sz bl : AV} {f : Nat→AV} {U : UnitV} (h : UPtr s ub lo sz bl f U) (ha : Agree X s s') (h1 : ¬ X ub) (h2 : ∀ b,UBox sz bl f U.blocks.length b→b < s.length→¬ X b) : UPtr s' ub lo sz bl f U :=
  let ⟨ver,hb⟩:=h.box
  ⟨⟨ver,ha.box hb h1⟩,h.sep,⟨h.z.own.agree ha fun b hb=>h2 b (.inl hb) (h.z.own.bnd b hb).2,h.z.sep⟩,h.b.agree' ha (fun b hb=>h2 b (.inr (.inl hb)) (h.b.own.bnd b hb).2) (fun j hj b hb=>h2 b (.inr (.inr ⟨j,hj,hb⟩)) ((h.b.ops j hj).bnd b hb).2)⟩
theorem UPtr.regs {s : St} {ub lo : Nat} {sz bl : AV} {f : Nat→AV} {U : UnitV} (h : UPtr s ub lo sz bl f U) (r : Int) :
    ∃ s',s.put ub 2 [iA r] = some s'∧Agree (fun n=>n = ub) s s'∧UPtr s' ub lo sz bl f { U with regs:=r }:=by
  obtain ⟨ver,hbx⟩:=h.box
  have hput:=put_box (o:=2) (vs:=[iA r]) hbx (by simp) rfl
  refine ⟨_,hput,Agree.set _ _ _,⟨⟨ver + 1,by rw [List.getElem?_set_self (List.getElem?_eq_some_iff.1 hbx).1]; rfl⟩,h.sep,⟨h.z.own.agree (Agree.set _ _ _) (fun b hb e=>?_),h.z.sep⟩,h.b.agree' (Agree.set _ _ _) (fun b hb e=>?_) (fun j hj b hb e=>?_)⟩⟩
  · exact h.sep (.inl (e ▸ hb))
  · exact h.sep (.inr (.inl (e ▸ hb)))
  · exact h.sep (.inr (.inr ⟨j,hj,e ▸ hb⟩))
theorem UPtr.addops {X : Nat→Prop} {s s1 : St} {ub lo : Nat} {sz bl w : AV} {f : Nat→AV} {U : UnitV} (h : UPtr s ub lo sz bl f U) (i : Nat) (hi : i < U.blocks.length) (l2 : List OpV) (ha : Agree X s s1) (hX : ∀ n,n < s.length→X n→boxOf (f i) = some n)
    (hw : OwnS s1 lo w 7 ((U.blocks[i].ops++l2).map OpV.row)) (hwn : w = f i∨boxOf w = some s.length) :
    ∃ bb s2,boxOf bl = some bb∧elemA bl 6 (i : Int) = some (.ptr bb (i * 6))∧s1.put bb (i * 6 + 0) [w] = some s2∧Agree (fun n=>X n∨n = bb) s s2∧UPtr s2 ub lo sz bl (fun j=>if j = i then w else f j) { U with blocks:=U.blocks.set i { U.blocks[i] with ops:=U.blocks[i].ops++l2 } }:=by
  obtain ⟨ver,hb⟩:=h.box
  have hub:=(List.getElem?_eq_some_iff.1 hb).1
  have hXub : ¬ X ub:=fun hx=>h.sep (.inr (.inr ⟨i,hi,hX ub hub hx⟩))
  have hbl1 : ∀ b,boxOf bl = some b→¬ X b:=fun b hb hx=>h.b.sep1 i hi b hb (hX b (h.b.own.bnd b hb).2 hx)
  have hB1:=h.b.own.agree ha hbl1
  have hE1:=h.b.box.agree ha hbl1
  obtain ⟨bb,s2,hbb,hel,hput,hag,hB2,hE2⟩:=own_setops hB1 hE1 i hi (U.blocks[i].ops++l2) (isCell_len hw.arr.len)
  have hbb0:=h.b.own.bnd bb hbb
  have hbu : bb≠ub:=fun e=>h.sep (by rw [←e]; exact .inr (.inl hbb))
  have hwb : ∀ n,boxOf w = some n→boxOf (f i) = some n∨n = s.length:=fun n hn=>by
    rcases hwn with rfl | h1
    · exact .inl hn
    · rw [h1] at hn; cases hn; exact .inr rfl
  have hwbb : ∀ n,boxOf w = some n→n≠bb:=fun n hn e=>by
    subst e
    rcases hwb _ hn with h1 | h1
    · exact h.b.sep1 i hi _ hbb h1
    · omega
  have hlen : ∀ (j : Nat),j < (U.blocks.set i { U.blocks[i] with ops:=U.blocks[i].ops++l2 }).length→j < U.blocks.length:=fun j hj=>by simpa using hj
  have hboxj : ∀ j,j < U.blocks.length→∀ n,boxOf (if j = i then w else f j) = some n→boxOf (f j) = some n∨(j = i∧n = s.length):=fun j hj n hn=>by
    by_cases hji : j = i
    · subst hji
      rw [if_pos rfl] at hn
      rcases hwb n hn with h1 | h1
      · exact .inl h1
      · exact .inr ⟨rfl,h1⟩
    · rw [if_neg hji] at hn
      exact .inl hn
  refine ⟨bb,s2,hbb,hel,hput,ha.trans hag,⟨⟨ver,hag.box (ha.box hb hXub) (fun e=>hbu e.symm)⟩,fun hx=>?_,⟨?_,fun b hbz=>⟨(h.z.sep b hbz).1,fun j hj hjb=>?_⟩⟩,⟨hB2,hE2,fun j hj=>?_,fun j hj b hbl hjb=>?_,fun j k hj hk hjk b hjb hkb=>?_⟩⟩⟩
  · rcases hx with hx | hx | ⟨j,hj,hx⟩
    · exact h.sep (.inl hx)
    · exact h.sep (.inr (.inl hx))
    · rcases hboxj j (hlen j hj) _ hx with h1 | ⟨_,h1⟩
      · exact h.sep (.inr (.inr ⟨j,hlen j hj,h1⟩))
      · omega
  · refine (h.z.own.agree ha fun b hbz hx=>?_).agree hag fun b hbz hx=>?_
    · exact (h.z.sep b hbz).2 i hi (hX b (h.z.own.bnd b hbz).2 hx)
    · subst hx; exact (h.z.sep _ hbz).1 hbb
  · rcases hboxj j (hlen j hj) b hjb with h1 | ⟨_,h1⟩
    · exact (h.z.sep b hbz).2 j (hlen j hj) h1
    · have:=(h.z.own.bnd b hbz).2
      omega
  · have hj':=hlen j hj
    simp only [List.getElem_set]
    by_cases hji : i = j
    · subst hji
      simp only [if_true]
      exact hw.agree hag fun b hb=>hwbb b hb
    · have hij : ¬ j = i:=fun e=>hji e.symm
      simp only [hji,hij,if_false]
      refine ((h.b.ops j hj').agree ha fun b hb hx=>?_).agree hag fun b hb hx=>?_
      · exact h.b.sep2 j i hj' hi (fun e=>hji e.symm) b hb (hX b ((h.b.ops j hj').bnd b hb).2 hx)
      · subst hx; exact h.b.sep1 j hj' _ hbb hb
  · rw [hbb] at hbl
    cases hbl
    rcases hboxj j (hlen j hj) _ hjb with h1 | ⟨_,h1⟩
    · exact h.b.sep1 j (hlen j hj) _ hbb h1
    · omega
  · have hj':=hlen j hj
    have hk':=hlen k hk
    rcases hboxj j hj' b hjb with h1 | ⟨h1,h1'⟩<;>rcases hboxj k hk' b hkb with h2 | ⟨h2,h2'⟩
    · exact h.b.sep2 j k hj' hk' hjk b h1 h2
    · have:=((h.b.ops j hj').bnd b h1).2
      omega
    · have:=((h.b.ops k hk').bnd b h2).2
      omega
    · omega
theorem UPtr.setend {s : St} {ub lo : Nat} {sz bl : AV} {f : Nat→AV} {U : UnitV} (h : UPtr s ub lo sz bl f U) (i : Nat) (hi : i < U.blocks.length) (e : EndV) :
    ∃ bb s2,boxOf bl = some bb∧elemA bl 6 (i : Int) = some (.ptr bb (i * 6))∧s.put bb (i * 6 + 1) [iA e.k,iA e.a,iA e.t,iA e.e] = some s2∧Agree (fun n=>n = bb) s s2∧UPtr s2 ub lo sz bl f { U with blocks:=U.blocks.set i { U.blocks[i] with e:=e } }:=by
  obtain ⟨ver,hb⟩:=h.box
  obtain ⟨bb,s2,hbb,hel,hput,hag,hB2,hE2⟩:=own_setend h.b.own h.b.box i hi e
  have hbu : bb≠ub:=fun e=>h.sep (by rw [←e]; exact .inr (.inl hbb))
  have hlen : ∀ (j : Nat),j < (U.blocks.set i { U.blocks[i] with e:=e }).length→j < U.blocks.length:=fun j hj=>by simpa using hj
  refine ⟨bb,s2,hbb,hel,hput,hag,⟨⟨ver,hag.box hb (fun e=>hbu e.symm)⟩,(by simpa using h.sep),⟨?_,fun b hbz=>⟨(h.z.sep b hbz).1,fun j hj hjb=>(h.z.sep b hbz).2 j (hlen j hj) hjb⟩⟩,⟨hB2,hE2,fun j hj=>?_,fun j hj b hbl hjb=>h.b.sep1 j (hlen j hj) b hbl hjb,fun j k hj hk hjk b hjb hkb=>h.b.sep2 j k (hlen j hj) (hlen k hk) hjk b hjb hkb⟩⟩⟩
  · exact h.z.own.agree hag fun b hbz hx=>(by subst hx; exact (h.z.sep _ hbz).1 hbb)
  · have hj':=hlen j hj
    have:=(h.b.ops j hj').agree hag fun b hb hx=>(by subst hx; exact h.b.sep1 j hj' _ hbb hb)
    simp only [List.getElem_set]
    by_cases hji : i = j
    · subst hji
      simpa using this
    · simpa [hji] using this
theorem UPtr.own {s : St} {ub lo : Nat} {sz bl : AV} {f : Nat→AV} {U : UnitV} (h : UPtr s ub lo sz bl f U) : OwnU s lo (.agg [sz,iA U.params,iA U.regs,iA U.code,iA U.spill,bl]) U:=⟨sz,bl,f,rfl,h.z,h.b⟩
theorem UPtr.row {s : St} {ub lo : Nat} {sz bl : AV} {f : Nat→AV} {U : UnitV} (h : UPtr s ub lo sz bl f U) (x : Nat) (hx : x < U.blocks.length) {bb : Nat} (hbb : boxOf bl = some bb) :
    elemA bl 6 (x : Int) = some (.ptr bb (x * 6))∧lo≤bb∧bb < s.length∧St.at1 s bb (x * 6 + 0) = some (f x)∧St.at1 s bb (x * 6 + 1 + 1) = some (iA U.blocks[x].e.a)∧St.at1 s bb (x * 6 + 1 + 2) = some (iA U.blocks[x].e.t)∧St.at1 s bb (x * 6 + 1 + 3) = some (iA U.blocks[x].e.e):=by
  obtain ⟨bb',s2,hbb',hel,_⟩:=h.setend x hx U.blocks[x].e
  rw [hbb] at hbb'
  cases hbb'
  obtain ⟨b1,o1,he1,hn1,ha1,_⟩:=h.b.own.arr.get x (by rw [blkRows_length]; exact hx)
  rw [hel] at he1
  cases he1
  rw [blkRows_get _ _ _ hx] at ha1
  have a : ∀ k,k < 6→St.at1 s bb (x * 6 + k) = (U.blocks[x].row (f x))[k]?:=fun k hk=>by simpa using ha1 [] k hk
  have h0:=h.b.own.bnd bb hbb
  exact ⟨hel,h0.1,h0.2,a 0 (by omega),by rw [Nat.add_assoc]; exact a 2 (by omega),by rw [Nat.add_assoc]; exact a 3 (by omega),by rw [Nat.add_assoc]; exact a 4 (by omega)⟩
theorem UPtr.cells {s : St} {ub lo : Nat} {sz bl : AV} {f : Nat→AV} {U : UnitV} (h : UPtr s ub lo sz bl f U) (k : Nat) : St.at1 s ub k = [sz,iA U.params,iA U.regs,iA U.code,iA U.spill,bl][k]? :=
  let ⟨_,hb⟩:=h.box
  at1_box hb (by decide) k
end Go.VX.Seat
end
section
set_option maxRecDepth 4000
namespace Go.VX.Seat
open Go.Proofs Go.Lib
theorem cut_le (c : UInt8) (t : List UInt8) : (cutC c t).1.length≤t.length∧(cutC c t).2.1.length≤t.length∧((cutC c t).2.2 = true→(cutC c t).2.1.length + 1≤t.length):=by
  rcases cut_cases c t with ⟨a,b,rfl,_,hc,_⟩ | ⟨_,hc,_⟩
  · rw [hc]
    simp only [List.length_append,List.length_cons]
    exact ⟨by omega,by omega,fun _=>by omega⟩
  · rw [hc]
    exact ⟨Nat.le_refl _,by simp,fun h=>by cases h⟩
structure Small (U : UnitV) (n : Nat) : Prop where
  sizes : U.sizes.length + n≤2500000
  blocks : U.blocks.length + n≤2500000
  ops : ∀ b ∈ U.blocks,b.ops.length + n≤2500000
theorem Small.less {U : UnitV} {n m : Nat} (h : Small U n) (hm : m≤n) : Small U m:=⟨by have:=h.sizes; omega,by have:=h.blocks; omega,fun b hb=>by have:=h.ops b hb; omega⟩
structure PS (st s : St) (lb ub lo : Nat) (k : Int) (t : List UInt8) (sz bl : AV) (f : Nat→AV) (U : UnitV) : Prop where
  pre : ∃ m,s = st++m
  l : ∃ ver,s[lb]? = some ⟨[sA t,iA k],0,ver⟩
  ord : st.length≤lb∧st.length≤ub∧lb≠ub∧lb < lo∧ub < lo∧lo≤s.length
  u : UPtr s ub lo sz bl f U
  k0 : 0≤k∧k + t.length≤2500000
section
variable {st s : St} {lb ub lo : Nat} {k : Int} {t : List UInt8} {sz bl : AV} {f : Nat→AV} {U : UnitV}
theorem UPtr.ubox (h : UPtr s ub lo sz bl f U) {b : Nat} (hb : UBox sz bl f U.blocks.length b) : lo≤b∧b < s.length:=by
  rcases hb with hb | hb | ⟨j,hj,hb⟩
  · exact h.z.own.bnd b hb
  · exact h.b.own.bnd b hb
  · exact (h.b.ops j hj).bnd b hb
theorem PS.gb (h : PS st s lb ub lo k t sz bl f U) (hg : GB st) : GB s:=by
  obtain ⟨m,e⟩:=h.pre
  rw [e]
  exact hg.app m
theorem PS.app (h : PS st s lb ub lo k t sz bl f U) (L : St) : PS st (s++L) lb ub lo k t sz bl f U:=by
  obtain ⟨⟨m,hm⟩,⟨v,hl⟩,hord,hu,hk⟩:=h
  refine ⟨⟨m++L,by rw [hm,List.append_assoc]⟩,⟨v,by rw [List.getElem?_append_left (List.getElem?_eq_some_iff.1 hl).1]; exact hl⟩,?_,hu.agree (Agree.app (fun _=>False) s L) (fun h=>h) (fun _ _ _ h=>h),hk⟩
  simp only [List.length_append]
  omega
theorem PS.line (h : PS st s lb ub lo k t sz bl f U) {s' : St} {ver : Nat} {k' : Int} {t' : List UInt8} (ha : Agree (fun b=>b = lb) s s') (hl : s'[lb]? = some ⟨[sA t',iA k'],0,ver⟩) (hk : 0≤k'∧k' + t'.length≤2500000) : PS st s' lb ub lo k' t' sz bl f U:=by
  obtain ⟨⟨m,hm⟩,_,hord,hu,_⟩:=h
  refine ⟨ha.ext ⟨m,hm⟩ fun b hb hx=>by omega,⟨ver,hl⟩,?_,hu.agree ha (by omega) (fun b hb hlt hx=>by have:=(hu.ubox hb).1; omega),hk⟩
  have:=ha.len
  omega
theorem PS.upd (h : PS st s lb ub lo k t sz bl f U) {X : Nat→Prop} {s' : St} {sz' bl' : AV} {f' : Nat→AV} {U' : UnitV} (ha : Agree X s s') (hX : ∀ b,b < s.length→X b→b = ub∨lo≤b) (hu : UPtr s' ub lo sz' bl' f' U') : PS st s' lb ub lo k t sz' bl' f' U':=by
  obtain ⟨⟨m,hm⟩,⟨v,hl⟩,hord,_,hk⟩:=h
  have hll:=(List.getElem?_eq_some_iff.1 hl).1
  refine ⟨ha.ext ⟨m,hm⟩ fun b hb hx=>?_,⟨v,ha.box hl fun hx=>?_⟩,?_,hu,hk⟩
  · by_cases hbs : b < s.length
    · have:=hX b hbs hx; omega
    · rw [hm] at hbs; simp at hbs; omega
  · have:=hX lb hll hx; omega
  · have:=ha.len; omega
end
section
variable {X : Cx} {st : St}
theorem j_peek (h : OnH X) {s : St} {lb ver : Nat} {t : List UInt8} {k : Int} (hl : s[lb]? = some ⟨[sA t,iA k],0,ver⟩) (ht : t.length≤2500000) : J X.P X.F X.H (.call 77 [.ptr lb 0] s (.ret (.tup [sA (cutC 10 t).1,bA (cutC 10 t).2.2])) s):=by
  refine pure_intro (by rw [h.F]; rfl) rfl ?_
  have x0 : St.at1 (s++[]) lb 0 = some (sA t):=by rw [List.append_nil]; exact at1_box hl (by decide) 0
  simp only [v_code_lines_peek,x0,kB,kZ,kD,kE,xn,xi,xm,xe,xf,xg,xh,xl,xk,xj,reduceIte,reduceCtorEq,ya,xz,xu]
  refine callO_same (j_Cut (st:=s++[]) h 10 t ht) ?_
  simp only [kB,kZ,kD,kE,xn,xi,xm,xe,xf,xg,xh,xl,xk,xj,reduceIte,reduceCtorEq,ya,xz,xu]
  first | exact ⟨_,rfl⟩ | exact ⟨rfl,_,rfl⟩ | exact ⟨trivial,_,rfl⟩ | exact ⟨[],(List.append_nil _).symm⟩
theorem w_take (h : OnH X) {s : St} {lb ver : Nat} {t : List UInt8} {k : Int} (hl : s[lb]? = some ⟨[sA t,iA k],0,ver⟩) (ht : t.length≤2500000) (hk : 0≤k∧k≤2500000) : wpF X 79 [.ptr lb 0] s fun r s'=>r = .ret (.tup [])∧Agree (fun b=>b = lb) s s'∧∃ ver,s'[lb]? = some ⟨[sA (cutC 10 t).2.1,iA (k + 1)],0,ver⟩:=by
  refine wpF_go (fn:=v_code_lines_take) (by rw [h.F]; rfl) ?_
  rw [List.append_nil]
  have x0 : St.at1 s lb 0 = some (sA t):=at1_box hl (by decide) 0
  obtain ⟨s1,e1,h1,a1⟩:=put_one hl 0 (by simp) (sA (cutC 10 t).2.1) rfl
  have x1 : St.at1 s1 lb 1 = some (iA k):=at1_box h1 (by decide) 1
  obtain ⟨s2,e2,h2,a2⟩:=put_one h1 1 (by simp) (iA (k + 1)) rfl
  have hw : IntKind.wrap .i64 (k + 1) = k + 1:=wrap_small (by omega) (by omega)
  simp only [v_code_lines_take,x0,kB,kZ,kD,kE,xn,xi,xm,xe,xf,xg,xh,xl,xk,xj,reduceIte,reduceCtorEq,ya,xz,xu]
  refine callO_same (j_Cut h 10 t ht) ?_
  simp only [e1,x1,hw,e2,kB,kZ,kD,kE,xn,xi,xm,xe,xf,xg,xh,xl,xk,xj,reduceIte,reduceCtorEq,ya,xz,xu]
  exact ⟨(a1.trans a2).mono fun b _ hb=>by omega,ver + 1 + 1,h2⟩
end
end Go.VX.Seat
end
section
set_option maxRecDepth 4000
namespace Go.VX.Seat
open Go.Proofs Go.Lib
theorem runT_miss {s : Nat} {k : Int} {U : UnitV} {t : List UInt8} (h : (cutC 10 t).2.2 = false) (hs : s≠1) : runT s k U t = .error k:=by
  rw [runT_eq,if_neg (by rw [h]; decide),if_neg (fun e=>hs e.2)]
theorem runT_none {s : Nat} {k : Int} {U : UnitV} {t : List UInt8} (h : (cutC 10 t).2.2 = true) (hs : stepL s U (cutC 10 t).1 = none) : runT s k U t = .error k:=by
  rw [runT_eq,if_pos h,hs]
theorem runT_some {s s' : Nat} {k : Int} {U U' : UnitV} {t : List UInt8} (h : (cutC 10 t).2.2 = true) (hs : stepL s U (cutC 10 t).1 = some (s',U')) : runT s k U t = runT s' (k + 1) U' (cutC 10 t).2.1:=by
  rw [runT_eq,if_pos h,hs]
theorem step3_none {U : UnitV} {p : List UInt8} (h : lineB U p = none) : stepL 3 U p = none:=by
  unfold stepL
  rw [if_neg (by decide),if_pos rfl,h]
theorem step3_end {U V : UnitV} {p : List UInt8} (h : lineB U p = some (true,V)) : stepL 3 U p = some (1,V):=by
  unfold stepL
  rw [if_neg (by decide),if_pos rfl,h]
theorem step3_op {U V : UnitV} {p : List UInt8} (h : lineB U p = some (false,V)) : stepL 3 U p = some (3,V):=by
  unfold stepL
  rw [if_neg (by decide),if_pos rfl,h]
theorem setLast_eq (U : UnitV) (hn : 0 < U.blocks.length) (g : BlkV→BlkV) : setLast U g = { U with blocks:=U.blocks.set (U.blocks.length - 1) (g (U.blocks[U.blocks.length - 1]'(by omega))) }:=by
  unfold setLast
  rw [List.getD_eq_getElem?_getD,List.getElem?_eq_getElem (by omega)]
  rfl
section
variable {X : Cx} {st : St}
set_option maxHeartbeats 4000000 in
theorem w_lines_block (h : OnH X) (hg : GB st) {s0 : St} {lb ub lo : Nat} {k0 : Int} {t0 : List UInt8} {sz bl : AV} {f0 : Nat→AV} {U0 : UnitV} (hP0 : PS st s0 lb ub lo k0 t0 sz bl f0 U0) (hS0 : Small U0 t0.length) {bb nb : Nat} (hbb : boxOf bl = some bb) (hnb : U0.blocks.length = nb + 1) :
    wpF X 80 [.ptr lb 0,.ptr bb (nb * 6)] s0 fun r s'=>∃ ok k' t' f' U',r = .ret (bA ok)∧PS st s' lb ub lo k' t' sz bl f' U'∧Small U' t'.length∧U'.blocks.length = nb + 1∧t'.length≤t0.length∧(ok = true→runT 3 k0 U0 t0 = runT 1 k' U' t')∧(ok = false→runT 3 k0 U0 t0 = .error k'):=by
  refine wpF_go (fn:=v_code_lines_block) (by rw [h.F]; rfl) ?_
  rw [List.append_nil]
  simp only [v_code_lines_block,kB,kZ,kD,kE,xn,xi,xm,xe,xf,xg,xh,xl,xk,xj,reduceIte,reduceCtorEq,ya,xz,xu]
  refine loop_inv (fun n e s=>∃ (k : Int) (t : List UInt8) (f : Nat→AV) (U : UnitV),t.length = n∧e 0 = .ptr lb 0∧e 1 = .ptr bb (nb * 6)∧PS st s lb ub lo k t sz bl f U∧Small U t.length∧U.blocks.length = nb + 1∧t.length≤t0.length∧runT 3 k0 U0 t0 = runT 3 k U t) ?_ t0.length ?_
  case refine_2=>exact ⟨k0,t0,f0,U0,rfl,rfl,rfl,hP0,hS0,hnb,Nat.le_refl _,rfl⟩
  rintro n e s ⟨k,t,f,U,hn,e0,e1,hP,hS,hnU,htt,hrun⟩
  obtain ⟨lv,hl⟩:=hP.l
  have hk:=hP.k0
  have htl : t.length≤2500000:=by omega
  obtain ⟨c1,c2,c3⟩:=cut_le 10 t
  simp only [e0,e1,kB,kZ,kD,kE,xn,xi,xm,xe,xf,xg,xh,xl,xk,xj,reduceIte,reduceCtorEq,ya,xz,xu]
  refine callO_same (j_peek h hl htl) ?_
  simp only [e0,e1,kB,kZ,kD,kE,xn,xi,xm,xe,xf,xg,xh,xl,xk,xj,reduceIte,reduceCtorEq,ya,xz,xu]
  refine callO_same (j_CutPrefix2 h _) ?_
  simp only [e0,e1,kB,kZ,kD,kE,xn,xi,xm,xe,xf,xg,xh,xl,xk,xj,reduceIte,reduceCtorEq,ya,xz,xu]
  cases hok : (cutC 10 t).2.2 with
  | false =>
    simp only [kB,kZ,kD,kE,xn,xi,xm,xe,xf,xg,xh,xl,xk,xj,reduceIte,reduceCtorEq,ya,xz,xu]
    exact ⟨false,k,t,f,U,rfl,hP,hS,hnU,htt,(fun e=>by cases e),fun _=>by rw [hrun]; exact runT_miss hok (by decide)⟩
  | true =>
    have hc3:=c3 hok
    by_cases hp : (cutC 10 t).1.take 2 = [32,32]
    case neg =>
      have hd : decide ((cutC 10 t).1.take 2 = [32,32]) = false:=decide_eq_false hp
      simp only [hd,kB,kZ,kD,kE,xn,xi,xm,xe,xf,xg,xh,xl,xk,xj,reduceIte,reduceCtorEq,ya,xz,xu]
      exact ⟨false,k,t,f,U,rfl,hP,hS,hnU,htt,(fun e=>by cases e),fun _=>by rw [hrun]; exact runT_none hok (step3_none (by unfold lineB; rw [if_neg hp]))⟩
    have hd : decide ((cutC 10 t).1.take 2 = [32,32]) = true:=decide_eq_true hp
    have hql : ((cutC 10 t).1.drop 2).length≤2500000:=by simp only [List.length_drop]; omega
    have hlB : lineB U (cutC 10 t).1 = match endP ((cutC 10 t).1.drop 2) with
        | some e=>some (true,setLast U fun b=>{ b with e:=e })
        | none=>match opP ((cutC 10 t).1.drop 2) with
          | some o=>some (false,setLast U fun b=>{ b with ops:=b.ops++[o] })
          | none=>none:=by unfold lineB; exact if_pos hp
    rw [if_pos hp]
    generalize (cutC 10 t).1.drop 2 = q at *
    simp only [hd,e0,e1,kB,kZ,kD,kE,xn,xi,xm,xe,xf,xg,xh,xl,xk,xj,reduceIte,reduceCtorEq,ya,xz,xu]
    refine callO_same (j_code_readEnd h (hP.gb hg) q hql) ?_
    simp only [e0,e1,kB,kZ,kD,kE,xn,xi,xm,xe,xf,xg,xh,xl,xk,xj,reduceIte,reduceCtorEq,ya,xz,xu]
    have hU:=hP.u
    have hib : nb < U.blocks.length:=by omega
    cases hE : endP q with
    | some ev =>
      rw [hE] at hlB
      dsimp only at hlB
      have hP1:=hP.app [⟨[iA ev.k,iA ev.a,iA ev.t,iA ev.e],0,1⟩]
      obtain ⟨bb',s2,hbb',hel,hput,hag,hU2⟩:=hP1.u.setend nb hib ev
      rw [hbb] at hbb'
      cases hbb'
      have hsl : setLast U (fun b=>{ b with e:=ev }) = { U with blocks:=U.blocks.set nb { U.blocks[nb] with e:=ev } }:=by
        rw [setLast_eq U (by omega)]
        simp only [hnU,Nat.add_sub_cancel]
      have hbbd:=hP1.u.ubox (b:=bb) (.inr (.inl hbb))
      have hP2:=hP1.upd hag (fun b _ hb=>.inr (by omega)) hU2
      have hS2 : Small { U with blocks:=U.blocks.set nb { U.blocks[nb] with e:=ev } } t.length:=⟨hS.sizes,(by simpa using hS.blocks),fun b hb=>by
        rcases List.mem_or_eq_of_mem_set hb with hb | rfl
        · exact hS.ops b hb
        · exact hS.ops U.blocks[nb] (List.getElem_mem hib)⟩
      obtain ⟨lv2,hl2⟩:=hP2.l
      simp only [Option.getD_some,Option.isSome_some,EndV.row,e0,e1,hput,kB,kZ,kD,kE,xn,xi,xm,xe,xf,xg,xh,xl,xk,xj,reduceIte,reduceCtorEq,ya,xz,xu]
      refine wpF.mono (w_take h hl2 htl (by omega)) ?_
      rintro r s3 ⟨rfl,hag3,lv3,hl3⟩
      refine ⟨keptA_nil _ _ _,?_⟩
      simp only [kB,kZ,kD,kE,xn,xi,xm,xe,xf,xg,xh,xl,xk,xj,reduceIte,reduceCtorEq,ya,xz,xu]
      have hP3:=hP2.line hag3 hl3 (by omega)
      refine ⟨true,k + 1,_,_,_,rfl,hP3,hS2.less c2,by simp [hnU],by omega,fun _=>?_,fun e=>by cases e⟩
      rw [hrun,runT_some hok (step3_end hlB),hsl]
    | none =>
      rw [hE] at hlB
      dsimp only at hlB
      simp only [Option.getD_none,Option.isSome_none,zeroE,EndV.row,e0,e1,kB,kZ,kD,kE,xn,xi,xm,xe,xf,xg,xh,xl,xk,xj,reduceIte,reduceCtorEq,ya,xz,xu]
      have hP1:=hP.app [⟨[iA 0,iA 0,iA 0,iA 0],0,1⟩]
      refine wpF.mono (w_code_readOp h (hP1.gb hg) q hql) ?_
      rintro r s1 ⟨o,rfl,ho,m,rfl⟩
      refine ⟨kept_app _ _ _ _,?_⟩
      have hP2:=hP1.app m
      simp only [OpV.row,e0,e1,kB,kZ,kD,kE,xn,xi,xm,xe,xf,xg,xh,xl,xk,xj,reduceIte,reduceCtorEq,ya,xz,xu]
      cases hO : opP q with
      | none =>
        rw [hO] at hlB
        dsimp only at hlB
        simp only [Option.isSome_none,kB,kZ,kD,kE,xn,xi,xm,xe,xf,xg,xh,xl,xk,xj,reduceIte,reduceCtorEq,ya,xz,xu]
        have hP3:=hP2.app [⟨[iA o.k,iA o.d,iA o.a,iA o.b,iA o.c,iA o.n,iA o.g],0,1⟩]
        simp only [List.append_assoc,List.cons_append,List.nil_append] at hP3
        exact ⟨false,k,t,f,U,rfl,hP3,hS,hnU,htt,(fun e=>by cases e),fun _=>by rw [hrun]; exact runT_none hok (step3_none hlB)⟩
      | some ov =>
        obtain rfl:=ho ov hO
        rw [hO] at hlB
        dsimp only at hlB
        simp only [Option.isSome_some,e0,e1,kB,kZ,kD,kE,xn,xi,xm,xe,xf,xg,xh,xl,xk,xj,reduceIte,reduceCtorEq,ya,xz,xu]
        have hP3:=hP2.app [⟨[iA o.k,iA o.d,iA o.a,iA o.b,iA o.c,iA o.n,iA o.g],0,1⟩]
        simp only [List.append_assoc,List.cons_append,List.nil_append] at hP3
        have hop5 : St.atN (s++⟨[iA 0,iA 0,iA 0,iA 0],0,1⟩ :: (m++[⟨[iA o.k,iA o.d,iA o.a,iA o.b,iA o.c,iA o.n,iA o.g],0,1⟩])) (s.length + (m.length + 1)) 0 7 = some [iA o.k,iA o.d,iA o.a,iA o.b,iA o.c,iA o.n,iA o.g]:=by
          have hx : (s++(⟨[iA 0,iA 0,iA 0,iA 0],0,1⟩ : Box) :: (m++[(⟨[iA o.k,iA o.d,iA o.a,iA o.b,iA o.c,iA o.n,iA o.g],0,1⟩ : Box)]) : List Box)[s.length + (m.length + 1)]? = some ⟨[iA o.k,iA o.d,iA o.a,iA o.b,iA o.c,iA o.n,iA o.g],0,1⟩:=by simp
          rw [atN_box hx (by decide) 0 7 (by simp)]
          rfl
        generalize s++(⟨[iA 0,iA 0,iA 0,iA 0],0,1⟩ : Box) :: (m++[⟨[iA o.k,iA o.d,iA o.a,iA o.b,iA o.c,iA o.n,iA o.g],0,1⟩]) = S5 at *
        obtain ⟨_,hbl1,hbl2,r0,_⟩:=hP3.u.row nb hib hbb
        simp only [r0,hop5,e0,e1,kB,kZ,kD,kE,xn,xi,xm,xe,xf,xg,xh,xl,xk,xj,reduceIte,reduceCtorEq,ya,xz,xu]
        have hP4:=hP3.app [⟨[iA o.k,iA o.d,iA o.a,iA o.b,iA o.c,iA o.n,iA o.g],0,0⟩]
        have hrow : ArrAt (S5++[⟨[iA o.k,iA o.d,iA o.a,iA o.b,iA o.c,iA o.n,iA o.g],0,0⟩]) S5.length (S5.length + 1) (.sl S5.length 0 1 7 true) 7 [o.row]:=ArrAt.ofBox (mode:=0) (ver:=0) (by simp [OpV.row]) (by decide) (fun r hr=>by rw [List.mem_singleton.1 hr]; rfl) rfl
        have hopn:=hS.ops U.blocks[nb] (List.getElem_mem hib)
        refine opR_append (vx:=f nb) (vy:=.sl S5.length 0 1 7 true) (rows:=U.blocks[nb].ops.map OpV.row) (rows2:=[o.row]) (lo:=lo) (by simp only [kB,kZ,kD,kE,xn,xi,xm,xe,xf,xg,xh,xl,xk,xj,reduceIte,reduceCtorEq,ya,xz,xu]) (by simp only [kB,kZ,kD,kE,xn,xi,xm,xe,xf,xg,xh,xl,xk,xj,reduceIte,reduceCtorEq,ya,xz,xu]) (hP4.u.b.ops nb hib) (by have:=hP4.ord; omega) hrow (by simp; omega) rfl ?_
        intro w' s6 hag6 hown6 hcase
        have hw6 : boxOf w' = some (S5++[(⟨[iA o.k,iA o.d,iA o.a,iA o.b,iA o.c,iA o.n,iA o.g],0,0⟩ : Box)]).length:=by
          rcases hcase with ⟨h1,_⟩ | ⟨_,h1,_⟩
          · cases h1
          · exact h1
        have hag6':=hag6.mono (Y:=fun b=>boxOf (f nb) = some b) fun n _ h=>h.2
        generalize S5++[⟨[iA o.k,iA o.d,iA o.a,iA o.b,iA o.c,iA o.n,iA o.g],0,0⟩] = S6 at *
        have hown7 : OwnS s6 lo w' 7 ((U.blocks[nb].ops++[o]).map OpV.row):=by rw [List.map_append]; exact hown6
        obtain ⟨bb',s7,hbb',hel,hput,hag7,hU7⟩:=hP4.u.addops nb hib [o] hag6' (fun n _ hx=>hx) hown7 (.inr hw6)
        rw [hbb] at hbb'
        cases hbb'
        have hsl : setLast U (fun b=>{ b with ops:=b.ops++[o] }) = { U with blocks:=U.blocks.set nb { U.blocks[nb] with ops:=U.blocks[nb].ops++[o] } }:=by
          rw [setLast_eq U (by omega)]
          simp only [hnU,Nat.add_sub_cancel]
        have hbbU:=hP4.u.ubox (b:=bb) (.inr (.inl hbb))
        have hP7:=hP4.upd hag7 (fun b _ hx=>.inr (by
          rcases hx with hx | rfl
          · exact (hP4.u.ubox (.inr (.inr ⟨nb,hib,hx⟩))).1
          · exact hbbU.1)) hU7
        have hS7 : Small { U with blocks:=U.blocks.set nb { U.blocks[nb] with ops:=U.blocks[nb].ops++[o] } } (cutC 10 t).2.1.length:=⟨by have:=hS.sizes; simp only; omega,(by have:=hS.blocks; simp only [List.length_set]; omega),fun b hb=>by
          rcases List.mem_or_eq_of_mem_set hb with hb | rfl
          · have:=hS.ops b hb; omega
          · simp only [List.length_append,List.length_cons,List.length_nil]; omega⟩
        have hcw:=cells_cell (isCell_len hown7.arr.len)
        obtain ⟨lv2,hl2⟩:=hP7.l
        simp only [e0,e1,hput,hcw,kB,kZ,kD,kE,xn,xi,xm,xe,xf,xg,xh,xl,xk,xj,reduceIte,reduceCtorEq,ya,xz,xu]
        refine wpF.mono (w_take h hl2 htl (by omega)) ?_
        rintro r s8 ⟨rfl,hag8,lv8,hl8⟩
        refine ⟨keptA_nil _ _ _,?_⟩
        have hP8:=hP7.line hag8 hl8 (by omega)
        simp only [e0,e1,kB,kZ,kD,kE,xn,xi,xm,xe,xf,xg,xh,xl,xk,xj,reduceIte,reduceCtorEq,ya,xz,xu]
        refine ⟨(cutC 10 t).2.1.length,by omega,k + 1,_,_,_,rfl,hP8,hS7,by simp [hnU],by omega,?_⟩
        rw [hrun,runT_some hok (step3_op hlB),hsl]
end
end Go.VX.Seat
end
section
set_option maxRecDepth 4000
namespace Go.VX.Seat
open Go.Proofs Go.Lib
section
variable {s : St} {ub lo : Nat} {sz bl : AV} {f : Nat→AV} {U : UnitV}
def setN (U : UnitV) (o : Nat) (z : Int) : UnitV:=if o = 1 then { U with params:=z } else if o = 2 then { U with regs:=z } else if o = 3 then { U with code:=z } else { U with spill:=z }
theorem UPtr.num (h : UPtr s ub lo sz bl f U) (o : Nat) (ho : 1≤o∧o≤4) (z : Int) : ∃ s',s.put ub o [iA z] = some s'∧Agree (fun n=>n = ub) s s'∧UPtr s' ub lo sz bl f (setN U o z):=by
  obtain ⟨ver,hbx⟩:=h.box
  obtain ⟨s',e1,e2,e3⟩:=put_one hbx o (by simp; omega) (iA z) rfl
  refine ⟨s',e1,e3,?_⟩
  have hz : OwnZ s' lo sz bl f U.sizes U.blocks:=⟨h.z.own.agree e3 (fun b hb e=>h.sep (.inl (e ▸ hb))),h.z.sep⟩
  have hB : OwnB s' lo bl f U.blocks:=h.b.agree' e3 (fun b hb e=>h.sep (.inr (.inl (e ▸ hb)))) (fun j hj b hb e=>h.sep (.inr (.inr ⟨j,hj,e ▸ hb⟩)))
  match o,ho with
  | 1,_=>exact ⟨⟨_,e2⟩,h.sep,hz,hB⟩
  | 2,_=>exact ⟨⟨_,e2⟩,h.sep,hz,hB⟩
  | 3,_=>exact ⟨⟨_,e2⟩,h.sep,hz,hB⟩
  | 4,_=>exact ⟨⟨_,e2⟩,h.sep,hz,hB⟩
theorem UPtr.addsize {X : Nat→Prop} {s1 : St} {w : AV} {z : Int} (h : UPtr s ub lo sz bl f U) (ha : Agree X s s1) (hX : ∀ n,n < s.length→X n→boxOf sz = some n) (hw : OwnS s1 lo w 1 ((U.sizes++[z]).map fun n=>[iA n])) (hwn : boxOf w = some s.length) :
    ∃ s2,s1.put ub 0 [w] = some s2∧Agree (fun n=>X n∨n = ub) s s2∧UPtr s2 ub lo w bl f { U with sizes:=U.sizes++[z] }:=by
  obtain ⟨ver,hbx⟩:=h.box
  have hub:=(List.getElem?_eq_some_iff.1 hbx).1
  have hXub : ¬ X ub:=fun hx=>h.sep (.inl (hX ub hub hx))
  obtain ⟨s2,e1,e2,e3⟩:=put_one (ha.box hbx hXub) 0 (by simp) w (isCell_len hw.arr.len)
  refine ⟨s2,e1,ha.trans e3,⟨⟨_,e2⟩,fun hx=>?_,⟨hw.agree e3 fun b hb e=>?_,fun b hb=>⟨fun hbl=>?_,fun i hi hfi=>?_⟩⟩,(h.b.agree' ha (fun b hb hx=>?_) (fun j hj b hb hx=>?_)).agree' e3 (fun b hb e=>?_) (fun j hj b hb e=>?_)⟩⟩
  · rcases hx with hx | hx | hx
    · rw [hwn] at hx; cases hx; omega
    · exact h.sep (.inr (.inl hx))
    · exact h.sep (.inr (.inr hx))
  · rw [hwn] at hb; cases hb; omega
  · rw [hwn] at hb; cases hb
    have:=(h.b.own.bnd _ hbl).2; omega
  · rw [hwn] at hb; cases hb
    have:=((h.b.ops i hi).bnd _ hfi).2; omega
  · have h0:=(h.b.own.bnd b hb).2
    exact (h.z.sep b (hX b h0 hx)).1 hb
  · have h0:=((h.b.ops j hj).bnd b hb).2
    exact (h.z.sep b (hX b h0 hx)).2 j hj hb
  · exact h.sep (.inr (.inl (e ▸ hb)))
  · exact h.sep (.inr (.inr ⟨j,hj,e ▸ hb⟩))
theorem UPtr.addblk {X : Nat→Prop} {s1 : St} {w : AV} {b : BlkV} (h : UPtr s ub lo sz bl f U) (ha : Agree X s s1) (hX : ∀ n,n < s.length→X n→boxOf bl = some n) (hb0 : b.ops = []) (hw : OwnS s1 lo w 6 (blkRows U.blocks f++[b.row (.sc (.slice none 0 0))])) (hex : ExactBox s1 w 6 (blkRows U.blocks f++[b.row (.sc (.slice none 0 0))])) (hwn : boxOf w = some s.length) :
    ∃ s2 f',s1.put ub 5 [w] = some s2∧Agree (fun n=>X n∨n = ub) s s2∧UPtr s2 ub lo sz w f' { U with blocks:=U.blocks++[b] }:=by
  obtain ⟨ver,hbx⟩:=h.box
  have hub:=(List.getElem?_eq_some_iff.1 hbx).1
  have hXub : ¬ X ub:=fun hx=>h.sep (.inr (.inl (hX ub hub hx)))
  obtain ⟨s2,e1,e2,e3⟩:=put_one (ha.box hbx hXub) 5 (by simp) w (isCell_len hw.arr.len)
  have hB:=OwnB.snoc (w:=.sc (.slice none 0 0)) (b:=b) h.b ha hX (by rw [hb0]; exact own_nil _ _ _) (fun n hn=>by cases hn) hw hex (fun n hn=>⟨by rw [hwn] at hn; cases hn; omega,fun e=>by cases e⟩)
  have hZ:=OwnZ.snoc (w:=.sc (.slice none 0 0)) (b:=b) (bl':=w) h.z ha hX (fun n hn=>by cases hn) (fun n hn=>by rw [hwn] at hn; cases hn; omega)
  have hfub : ∀ j,j < (U.blocks++[b]).length→boxOf (if j = U.blocks.length then (.sc (.slice none 0 0) : AV) else f j)≠some ub:=fun j hj e=>by
    split at e
    · cases e
    · rename_i hne
      simp at hj
      exact h.sep (.inr (.inr ⟨j,by omega,e⟩))
  refine ⟨s2,_,e1,ha.trans e3,⟨⟨_,e2⟩,fun hx=>?_,⟨hZ.own.agree e3 fun c hc e=>?_,hZ.sep⟩,hB.agree' e3 (fun c hc e=>?_) (fun j hj c hc e=>?_)⟩⟩
  · rcases hx with hx | hx | ⟨j,hj,hx⟩
    · exact h.sep (.inl hx)
    · rw [hwn] at hx; cases hx; omega
    · exact hfub j hj hx
  · exact h.sep (.inl (e ▸ hc))
  · rw [hwn] at hc; cases hc; omega
  · exact hfub j hj (e ▸ hc)
end
theorem step1_arr {U : UnitV} {p : List UInt8} {n : List Int} (h0 : U.blocks.length = 0) (h : headP p w_array 1 = some n) : stepL 1 U p = some (1,{ U with sizes:=U.sizes++[n.getD 0 0] }):=by
  unfold stepL
  rw [if_neg (by decide),if_neg (by decide),if_pos h0,h]
theorem step1_blk {U : UnitV} {p : List UInt8} {n : List Int} (h0 : (if U.blocks.length = 0 then headP p w_array 1 else none) = none) (h : headP p w_block 1 = some n) : stepL 1 U p = some (3,{ U with blocks:=U.blocks++[⟨[],⟨0,0,0,0⟩,n.getD 0 0⟩] }):=by
  unfold stepL
  rw [if_neg (by decide),if_neg (by decide),h0,h]
theorem step1_none {U : UnitV} {p : List UInt8} (h0 : (if U.blocks.length = 0 then headP p w_array 1 else none) = none) (h : headP p w_block 1 = none) : stepL 1 U p = none:=by
  unfold stepL
  rw [if_neg (by decide),if_neg (by decide),h0,h]
theorem step0_some {U : UnitV} {p : List UInt8} {n : List Int} (h : headP p w_unit 4 = some n) : stepL 0 U p = some (1,{ U with params:=n.getD 0 0,regs:=n.getD 1 0,code:=n.getD 2 0,spill:=n.getD 3 0 }):=by
  unfold stepL
  rw [if_pos rfl,h]
theorem step0_none {U : UnitV} {p : List UInt8} (h : headP p w_unit 4 = none) : stepL 0 U p = none:=by
  unfold stepL
  rw [if_pos rfl,h]
theorem runT_end {k : Int} {U : UnitV} : runT 1 k U [] = .ok U:=by
  rw [runT_eq,if_neg (by decide),if_pos ⟨rfl,rfl⟩]
theorem runT_rest {s : Nat} {k : Int} {U : UnitV} {t : List UInt8} (h : (cutC 10 t).2.2 = false) (ht : t≠[]) : runT s k U t = .error k:=by
  rw [runT_eq,if_neg (by rw [h]; decide),if_neg (fun e=>ht e.1)]
end Go.VX.Seat
end
section
set_option maxRecDepth 4000
namespace Go.VX.Seat
open Go.Proofs Go.Lib
section
variable {X : Cx} {st : St}
set_option maxHeartbeats 4000000 in
theorem w_lines_unit (h : OnH X) (hg : GB st) {s0 : St} {lb ub lo : Nat} {t0 : List UInt8} {f0 : Nat→AV} (hP0 : PS st s0 lb ub lo 1 t0 (.sc (.slice none 0 0)) (.sc (.slice none 0 0)) f0 zeroU) (ht0 : t0.length≤2400000) :
    wpF X 46 [.ptr lb 0,.ptr ub 0] s0 fun r s'=>∃ ok k' t' sz' bl' f' U',r = .ret (bA ok)∧PS st s' lb ub lo k' t' sz' bl' f' U'∧(ok = true→runT 0 1 zeroU t0 = .ok U')∧(ok = false→runT 0 1 zeroU t0 = .error k'):=by
  refine wpF_go (fn:=v_code_lines_unit) (by rw [h.F]; rfl) ?_
  rw [List.append_nil]
  obtain ⟨lv,hl⟩:=hP0.l
  have hk:=hP0.k0
  obtain ⟨c1,c2,c3⟩:=cut_le 10 t0
  have eu : (#[117,110,105,116] : Array UInt8) = w_unit.toArray:=rfl
  simp only [v_code_lines_unit,kB,kZ,kD,kE,xn,xi,xm,xe,xf,xg,xh,xl,xk,xj,reduceIte,reduceCtorEq,ya,xz,xu]
  refine callO_same (j_peek h hl (by omega)) ?_
  simp only [kB,kZ,kD,kE,xn,xi,xm,xe,xf,xg,xh,xl,xk,xj,reduceIte,reduceCtorEq,ya,xz,xu]
  refine wpF.mono (w_code_headed h (hP0.gb hg) (cutC 10 t0).1 w_unit (by omega) 4 (by omega)) ?_
  rintro r s1 ⟨w,m,rfl,rfl,hw⟩
  refine ⟨kept_app _ _ _ _,?_⟩
  have hP1:=hP0.app m
  have hs0 : lo≤s0.length:=hP0.ord.2.2.2.2.2
  obtain ⟨lv1,hl1⟩:=hP1.l
  simp only [kB,kZ,kD,kE,xn,xi,xm,xe,xf,xg,xh,xl,xk,xj,reduceIte,reduceCtorEq,ya,xz,xu]
  refine callO_same (j_peek h hl1 (by omega)) ?_
  cases hH : headP (cutC 10 t0).1 w_unit 4 with
  | none =>
    simp only [Option.isSome_none,kB,kZ,kD,kE,xn,xi,xm,xe,xf,xg,xh,xl,xk,xj,reduceIte,reduceCtorEq,ya,xz,xu]
    refine ⟨false,1,t0,_,_,f0,zeroU,rfl,hP1,(fun e=>by cases e),fun _=>?_⟩
    cases hok : (cutC 10 t0).2.2
    · exact runT_miss hok (by decide)
    · exact runT_none hok (step0_none hH)
  | some n =>
    have hw:=hw n hH
    obtain ⟨hnl,hnI⟩:=headP_len hH
    cases hok : (cutC 10 t0).2.2 with
    | false =>
      simp only [Option.isSome_some,kB,kZ,kD,kE,xn,xi,xm,xe,xf,xg,xh,xl,xk,xj,reduceIte,reduceCtorEq,ya,xz,xu]
      exact ⟨false,1,t0,_,_,f0,zeroU,rfl,hP1,(fun e=>by cases e),fun _=>runT_miss hok (by decide)⟩
    | true =>
      have hc3:=c3 hok
      obtain ⟨b0,o0,g0,p0,q0⟩:=ser_at hw 0 (by omega)
      obtain ⟨b1,o1,g1,p1,q1⟩:=ser_at hw 1 (by omega)
      obtain ⟨b2,o2,g2,p2,q2⟩:=ser_at hw 2 (by omega)
      obtain ⟨b3,o3,g3,p3,q3⟩:=ser_at hw 3 (by omega)
      have p0:=p0 []
      have p1:=p1 []
      have p2:=p2 []
      have p3:=p3 []
      simp only [List.append_nil] at p0 p1 p2 p3
      simp only [Int.natCast_zero,Int.cast_ofNat_Int] at g0 g1 g2 g3
      generalize s0++m = s1 at *
      obtain ⟨s2,e1,a1,u1⟩:=hP1.u.num 1 (by omega) (n.getD 0 0)
      have hP2:=hP1.upd a1 (fun b _ hb=>.inl hb) u1
      obtain ⟨s3,e2,a2,u2⟩:=u1.num 2 (by omega) (n.getD 1 0)
      have hP3:=hP2.upd a2 (fun b _ hb=>.inl hb) u2
      obtain ⟨s4,e3,a3,u3⟩:=u2.num 3 (by omega) (n.getD 2 0)
      have hP4:=hP3.upd a3 (fun b _ hb=>.inl hb) u3
      obtain ⟨s5,e4,a4,u4⟩:=u3.num 4 (by omega) (n.getD 3 0)
      have hP5:=hP4.upd a4 (fun b _ hb=>.inl hb) u4
      obtain ⟨lv5,hl5⟩:=hP5.l
      simp only [Option.isSome_some,g0,g1,g2,g3,p0,p1,p2,p3,e1,e2,e3,e4,kB,kZ,kD,kE,xn,xi,xm,xe,xf,xg,xh,xl,xk,xj,reduceIte,reduceCtorEq,ya,xz,xu]
      refine wpF.mono (w_take h hl5 (by omega) (by omega)) ?_
      rintro r s6 ⟨rfl,hag6,lv6,hl6⟩
      refine ⟨keptA_nil _ _ _,?_⟩
      have hP6:=hP5.line hag6 hl6 (by omega)
      have hrun:=runT_some (s:=0) (k:=1) (U:=zeroU) hok (step0_some hH)
      have hU6 : setN (setN (setN (setN zeroU 1 (n.getD 0 0)) 2 (n.getD 1 0)) 3 (n.getD 2 0)) 4 (n.getD 3 0) = { zeroU with params:=n.getD 0 0,regs:=n.getD 1 0,code:=n.getD 2 0,spill:=n.getD 3 0 }:=rfl
      rw [hU6] at hP6
      generalize hUx : ({ zeroU with params:=n.getD 0 0,regs:=n.getD 1 0,code:=n.getD 2 0,spill:=n.getD 3 0 } : UnitV) = U1 at *
      have hS6 : Small U1 (cutC 10 t0).2.1.length:=by
        rw [←hUx]
        exact ⟨by simp only [zeroU,List.length_nil]; omega,by simp only [zeroU,List.length_nil]; omega,fun b hb=>by simp [zeroU] at hb⟩
      simp only [kB,kZ,kD,kE,xn,xi,xm,xe,xf,xg,xh,xl,xk,xj,reduceIte,reduceCtorEq,ya,xz,xu]
      refine anyLoop (mB m0) (fun e s=>∃ (k : Int) (sz bl : AV) (f : Nat→AV) (U : UnitV),PS st s lb ub lo k [] sz bl f U∧runT 0 1 zeroU t0 = .ok U) ?_ ?_
      · refine loop_inv (fun nn e s=>∃ (k : Int) (t : List UInt8) (sz bl : AV) (f : Nat→AV) (U : UnitV),t.length = nn∧e 0 = .ptr lb 0∧e 1 = .ptr ub 0∧PS st s lb ub lo k t sz bl f U∧Small U t.length∧runT 0 1 zeroU t0 = runT 1 k U t) ?_ (cutC 10 t0).2.1.length ?_
        case refine_2=>exact ⟨1 + 1,_,_,_,_,_,rfl,rfl,rfl,hP6,hS6,hrun⟩
        clear hP0 hP1 hP2 hP3 hP4 hP5 hP6 hS6 hrun u1 u2 u3 u4 a1 a2 a3 a4 e1 e2 e3 e4 g0 g1 g2 g3 p0 p1 p2 p3 hw hl hl1 hl5 hl6 hag6 hU6 hUx hk c1 c2 c3 hc3
        rintro nn e s ⟨k,t,sz,bl,f,U,hn,e0,e1,hP,hS,hrun⟩
        obtain ⟨lv,hl⟩:=hP.l
        have hk:=hP.k0
        obtain ⟨c1,c2,c3⟩:=cut_le 10 t
        have x0 : St.at1 s lb 0 = some (sA t):=at1_box hl (by decide) 0
        have g0:=fun ox oy=>k_ne X.P ox oy t []
        simp only [e0,e1,x0,g0,kB,kZ,kD,kE,xn,xi,xm,xe,xf,xg,xh,xl,xk,xj,reduceIte,reduceCtorEq,ya,xz,xu]
        refine condO_intro ?_ ?_<;>intro hc
        case refine_2 =>
          have ht : t = []:=by simpa using hc
          subst ht
          simp only [kB,kZ,kD,kE,xn,xi,xm,xe,xf,xg,xh,xl,xk,xj,reduceIte,reduceCtorEq,ya,xz,xu]
          exact ⟨k,sz,bl,f,U,hP,by rw [hrun,runT_end]⟩
        have ht : t≠[]:=by simpa using hc
        simp only [e0,e1,kB,kZ,kD,kE,xn,xi,xm,xe,xf,xg,xh,xl,xk,xj,reduceIte,reduceCtorEq,ya,xz,xu]
        refine callO_same (j_peek h hl (by omega)) ?_
        simp only [e0,e1,kB,kZ,kD,kE,xn,xi,xm,xe,xf,xg,xh,xl,xk,xj,reduceIte,reduceCtorEq,ya,xz,xu]
        refine wpF.mono (w_code_headed h (hP.gb hg) (cutC 10 t).1 w_array (by omega) 1 (by omega)) ?_
        rintro r s1 ⟨wa,m1,rfl,rfl,hwa⟩
        refine ⟨kept_app _ _ _ _,?_⟩
        have hP1:=hP.app m1
        have hs1 : lo≤s.length:=hP.ord.2.2.2.2.2
        simp only [e0,e1,kB,kZ,kD,kE,xn,xi,xm,xe,xf,xg,xh,xl,xk,xj,reduceIte,reduceCtorEq,ya,xz,xu]
        refine wpF.mono (w_code_headed h (hP1.gb hg) (cutC 10 t).1 w_block (by omega) 1 (by omega)) ?_
        rintro r s2 ⟨wb,m2,rfl,rfl,hwb⟩
        refine ⟨kept_app _ _ _ _,?_⟩
        have hP2:=hP1.app m2
        have hs2 : lo≤(s++m1).length:=hP1.ord.2.2.2.2.2
        simp only [e0,e1,kB,kZ,kD,kE,xn,xi,xm,xe,xf,xg,xh,xl,xk,xj,reduceIte,reduceCtorEq,ya,xz,xu]
        cases hok : (cutC 10 t).2.2 with
        | false =>
          simp only [kB,kZ,kD,kE,xn,xi,xm,xe,xf,xg,xh,xl,xk,xj,reduceIte,reduceCtorEq,ya,xz,xu]
          simp only [List.append_assoc] at hP2
          exact ⟨false,k,t,sz,bl,f,U,rfl,hP2,(fun e=>by cases e),fun _=>by rw [hrun]; exact runT_rest hok ht⟩
        | true =>
          have hc3:=c3 hok
          have c5:=hP2.u.cells 5
          have c0:=hP2.u.cells 0
          have hbll : lenA bl = some U.blocks.length:=by
            have:=hP2.u.b.own.arr.len
            rwa [blkRows_length] at this
          simp only [e0,e1,kB,kZ,kD,kE,xn,xi,xm,xe,xf,xg,xh,xl,xk,xj,reduceIte,reduceCtorEq,ya,xz,xu]
          refine anyG m0 (fun e' s'=>s' = s++m1++m2∧e' 0 = .ptr lb 0∧e' 1 = .ptr ub 0∧e' 13 = wa∧e' 15 = wb∧e' 16 = bA (headP (cutC 10 t).1 w_block 1).isSome∧e' 87 = bA (if U.blocks.length = 0 then headP (cutC 10 t).1 w_array 1 else none).isSome) ?_ ?_
          · cases hA : headP (cutC 10 t).1 w_array 1 with
            | none =>
              have : (if U.blocks.length = 0 then (none : Option (List Int)) else none) = none:=by split<;>rfl
              simp only [this,Option.isSome_none,e0,e1,List.append_assoc,kB,kZ,kD,kE,xn,xi,xm,xe,xf,xg,xh,xl,xk,xj,reduceIte,reduceCtorEq,ya,xz,xu]
            | some na =>
              have : bA (if U.blocks.length = 0 then some na else none).isSome = bA (decide ((U.blocks.length : Int) = 0)):=by
                by_cases h0 : U.blocks.length = 0
                · rw [if_pos h0,decide_eq_true (by omega)]; rfl
                · rw [if_neg h0,decide_eq_false (by omega)]; rfl
              rw [this]
              simp only [List.append_assoc] at c5
              simp only [Option.isSome_some,e0,e1,c5,hbll,List.append_assoc,kB,kZ,kD,kE,xn,xi,xm,xe,xf,xg,xh,xl,xk,xj,reduceIte,reduceCtorEq,ya,xz,xu]
          clear e0 e1
          rintro e s' ⟨rfl,e0,e1,e13,e15,e16,e87⟩
          generalize hS3 : s++m1++m2 = S3 at *
          simp only [e0,e1,e13,e15,e16,e87,kB,kZ,kD,kE,xn,xi,xm,xe,xf,xg,xh,xl,xk,xj,reduceIte,reduceCtorEq,ya,xz,xu]
          have hs3 : lo≤S3.length:=hP2.ord.2.2.2.2.2
          cases hArr : (if U.blocks.length = 0 then headP (cutC 10 t).1 w_array 1 else none) with
          | some na =>
            have h0 : U.blocks.length = 0:=by
              by_cases h0 : U.blocks.length = 0
              · exact h0
              · rw [if_neg h0] at hArr; cases hArr
            rw [if_pos h0] at hArr
            have hw1:=(own_frame (hwa na hArr) m2)
            rw [hS3] at hw1
            obtain ⟨hnl,_⟩:=headP_len hArr
            obtain ⟨b0,o0,g0,p0,_⟩:=ser_at hw1 0 (by omega)
            have p0:=p0 []
            simp only [List.append_nil] at p0
            simp only [Int.natCast_zero] at g0
            have c0' : St.at1 S3 ub 0 = some sz:=c0
            simp only [Option.isSome_some,e0,e1,e13,c0',g0,p0,kB,kZ,kD,kE,xn,xi,xm,xe,xf,xg,xh,xl,xk,xj,reduceIte,reduceCtorEq,ya,xz,xu]
            have hP4:=hP2.app [⟨[iA (na.getD 0 0)],0,0⟩]
            have hrow : ArrAt (S3++[⟨[iA (na.getD 0 0)],0,0⟩]) S3.length (S3.length + 1) (.sl S3.length 0 1 1 true) 1 [[iA (na.getD 0 0)]]:=ArrAt.ofBox (mode:=0) (ver:=0) (by simp) (by decide) (fun r hr=>by rw [List.mem_singleton.1 hr]; rfl) rfl
            have hsz:=hS.sizes
            refine opR_append (vx:=sz) (vy:=.sl S3.length 0 1 1 true) (rows:=U.sizes.map fun n=>[iA n]) (rows2:=[[iA (na.getD 0 0)]]) (lo:=lo) (by simp only [kB,kZ,kD,kE,xn,xi,xm,xe,xf,xg,xh,xl,xk,xj,reduceIte,reduceCtorEq,ya,xz,xu]) (by simp only [kB,kZ,kD,kE,xn,xi,xm,xe,xf,xg,xh,xl,xk,xj,reduceIte,reduceCtorEq,ya,xz,xu]) hP4.u.z.own hP4.ord.2.2.2.2.2 hrow (by simp; omega) rfl ?_
            intro w' s6 hag6 hown6 hcase
            have hw6 : boxOf w' = some (S3++[(⟨[iA (na.getD 0 0)],0,0⟩ : Box)]).length:=by
              rcases hcase with ⟨h1,_⟩ | ⟨_,h1,_⟩
              · cases h1
              · exact h1
            have hag6':=hag6.mono (Y:=fun b=>boxOf sz = some b) fun n _ h=>h.2
            generalize S3++[⟨[iA (na.getD 0 0)],0,0⟩] = S6 at *
            have hown7 : OwnS s6 lo w' 1 ((U.sizes++[na.getD 0 0]).map fun n=>[iA n]):=by rw [List.map_append]; exact hown6
            obtain ⟨s7,hput,hag7,hU7⟩:=hP4.u.addsize hag6' (fun n _ hx=>hx) hown7 hw6
            have hP7:=hP4.upd hag7 (fun b _ hx=>by
              rcases hx with hx | hx
              · exact .inr (hP4.u.ubox (.inl hx)).1
              · exact .inl hx) hU7
            have hS7 : Small { U with sizes:=U.sizes++[na.getD 0 0] } (cutC 10 t).2.1.length:=⟨by simp; omega,by have:=hS.blocks; simp only; omega,fun b hb=>by have:=hS.ops b hb; omega⟩
            have hcw:=cells_cell (isCell_len hown7.arr.len)
            obtain ⟨lv2,hl2⟩:=hP7.l
            simp only [e0,e1,hput,hcw,kB,kZ,kD,kE,xn,xi,xm,xe,xf,xg,xh,xl,xk,xj,reduceIte,reduceCtorEq,ya,xz,xu]
            refine wpF.mono (w_take h hl2 (by omega) (by omega)) ?_
            rintro r s8 ⟨rfl,hag8,lv8,hl8⟩
            refine ⟨keptA_nil _ _ _,?_⟩
            have hP8:=hP7.line hag8 hl8 (by omega)
            simp only [e0,e1,kB,kZ,kD,kE,xn,xi,xm,xe,xf,xg,xh,xl,xk,xj,reduceIte,reduceCtorEq,ya,xz,xu]
            refine ⟨(cutC 10 t).2.1.length,by omega,k + 1,_,_,_,_,_,rfl,hP8,hS7,?_⟩
            rw [hrun,runT_some hok (step1_arr h0 hArr)]
          | none =>
            cases hB : headP (cutC 10 t).1 w_block 1 with
            | none =>
              simp only [Option.isSome_none,e0,e1,e16,hB,kB,kZ,kD,kE,xn,xi,xm,xe,xf,xg,xh,xl,xk,xj,reduceIte,reduceCtorEq,ya,xz,xu]
              exact ⟨false,k,t,sz,bl,f,U,rfl,hP2,(fun e=>by cases e),fun _=>by rw [hrun]; exact runT_none hok (step1_none hArr hB)⟩
            | some n1 =>
              have hw1:=hwb n1 hB
              obtain ⟨hnl,_⟩:=headP_len hB
              obtain ⟨b0,o0,g0,p0,_⟩:=ser_at hw1 0 (by omega)
              have p0:=p0 []
              simp only [List.append_nil] at p0
              simp only [Int.natCast_zero] at g0
              have c5' : St.at1 S3 ub 5 = some bl:=c5
              simp only [Option.isSome_some,Option.isSome_none,e0,e1,e15,e16,hB,c5',g0,p0,kB,kZ,kD,kE,xn,xi,xm,xe,xf,xg,xh,xl,xk,xj,reduceIte,reduceCtorEq,ya,xz,xu]
              have hP4:=hP2.app [⟨[.sc (.slice none 0 0),iA 0,iA 0,iA 0,iA 0,iA (n1.getD 0 0)],0,0⟩]
              have hrow : ArrAt (S3++[⟨[.sc (.slice none 0 0),iA 0,iA 0,iA 0,iA 0,iA (n1.getD 0 0)],0,0⟩]) S3.length (S3.length + 1) (.sl S3.length 0 1 6 true) 6 [(⟨[],⟨0,0,0,0⟩,n1.getD 0 0⟩ : BlkV).row (.sc (.slice none 0 0))]:=ArrAt.ofBox (mode:=0) (ver:=0) (by simp [BlkV.row]) (by decide) (fun r hr=>by rw [List.mem_singleton.1 hr]; rfl) rfl
              have hsb:=hS.blocks
              refine opR_append (vx:=bl) (vy:=.sl S3.length 0 1 6 true) (rows:=blkRows U.blocks f) (rows2:=[(⟨[],⟨0,0,0,0⟩,n1.getD 0 0⟩ : BlkV).row (.sc (.slice none 0 0))]) (lo:=lo) (by simp only [kB,kZ,kD,kE,xn,xi,xm,xe,xf,xg,xh,xl,xk,xj,reduceIte,reduceCtorEq,ya,xz,xu]) (by simp only [kB,kZ,kD,kE,xn,xi,xm,xe,xf,xg,xh,xl,xk,xj,reduceIte,reduceCtorEq,ya,xz,xu]) hP4.u.b.own hP4.ord.2.2.2.2.2 hrow (by rw [blkRows_length]; simp; omega) rfl ?_
              intro w' s6 hag6 hown6 hcase
              have hw6 : boxOf w' = some (S3++[(⟨[.sc (.slice none 0 0),iA 0,iA 0,iA 0,iA 0,iA (n1.getD 0 0)],0,0⟩ : Box)]).length∧ExactBox s6 w' 6 (blkRows U.blocks f++[(⟨[],⟨0,0,0,0⟩,n1.getD 0 0⟩ : BlkV).row (.sc (.slice none 0 0))]):=by
                rcases hcase with ⟨h1,_⟩ | ⟨_,h1,h2⟩
                · cases h1
                · exact ⟨h1,h2⟩
              have hag6':=hag6.mono (Y:=fun b=>boxOf bl = some b) fun n _ h=>h.2
              generalize S3++[⟨[.sc (.slice none 0 0),iA 0,iA 0,iA 0,iA 0,iA (n1.getD 0 0)],0,0⟩] = S6 at *
              obtain ⟨s7,f7,hput,hag7,hU7⟩:=hP4.u.addblk hag6' (fun n _ hx=>hx) rfl hown6 hw6.2 hw6.1
              have hP7:=hP4.upd hag7 (fun b _ hx=>by
                rcases hx with hx | hx
                · exact .inr (hP4.u.ubox (.inr (.inl hx))).1
                · exact .inl hx) hU7
              have hS7 : Small { U with blocks:=U.blocks++[⟨[],⟨0,0,0,0⟩,n1.getD 0 0⟩] } (cutC 10 t).2.1.length:=⟨by have:=hS.sizes; simp only; omega,by simp; omega,fun b hb=>by
                rcases List.mem_append.1 hb with hb | hb
                · have:=hS.ops b hb; omega
                · rw [List.mem_singleton.1 hb]; simp; omega⟩
              have hcw:=cells_cell (isCell_len hown6.arr.len)
              obtain ⟨lv2,hl2⟩:=hP7.l
              simp only [e0,e1,hput,hcw,kB,kZ,kD,kE,xn,xi,xm,xe,xf,xg,xh,xl,xk,xj,reduceIte,reduceCtorEq,ya,xz,xu]
              refine wpF.mono (w_take h hl2 (by omega) (by omega)) ?_
              rintro r s8 ⟨rfl,hag8,lv8,hl8⟩
              refine ⟨keptA_nil _ _ _,?_⟩
              have hP8:=hP7.line hag8 hl8 (by omega)
              have hnb : (U.blocks++[(⟨[],⟨0,0,0,0⟩,n1.getD 0 0⟩ : BlkV)]).length = U.blocks.length + 1:=by simp
              obtain ⟨hel,_⟩:=hP8.u.row U.blocks.length (by rw [hnb]; omega) hw6.1
              have c58:=hP8.u.cells 5
              have c58' : St.at1 s8 ub 5 = some w':=c58
              have hln8 : lenA w' = some (U.blocks.length + 1):=by
                have:=hP8.u.b.own.arr.len
                rw [blkRows_length,hnb] at this
                exact this
              have hwn : IntKind.wrap .i64 (((U.blocks.length + 1 : Nat) : Int) - 1) = (U.blocks.length : Int):=by rw [wrap_small (by omega) (by omega)]; omega
              simp only [e0,e1,c58',hln8,hwn,hel,kB,kZ,kD,kE,xn,xi,xm,xe,xf,xg,xh,xl,xk,xj,reduceIte,reduceCtorEq,ya,xz,xu]
              refine wpF.mono (w_lines_block h hg hP8 hS7 hw6.1 hnb) ?_
              rintro r s9 ⟨ok9,k9,t9,f9,U9,rfl,hP9,hS9,hnb9,htt9,hyes,hno⟩
              refine ⟨keptA_nil _ _ _,?_⟩
              have hr9:=runT_some (k:=k) hok (step1_blk hArr hB)
              cases ok9 with
              | false =>
                simp only [e0,e1,kB,kZ,kD,kE,xn,xi,xm,xe,xf,xg,xh,xl,xk,xj,reduceIte,reduceCtorEq,ya,xz,xu]
                exact ⟨false,k9,t9,sz,w',f9,U9,rfl,hP9,(fun e=>by cases e),fun _=>by rw [hrun,hr9]; exact hno rfl⟩
              | true =>
                simp only [e0,e1,kB,kZ,kD,kE,xn,xi,xm,xe,xf,xg,xh,xl,xk,xj,reduceIte,reduceCtorEq,ya,xz,xu]
                exact ⟨t9.length,by omega,k9,t9,sz,w',f9,U9,rfl,hP9,hS9,by rw [hrun,hr9]; exact hyes rfl⟩
      rintro e s ⟨k,sz,bl,f,U,hP,hrun⟩
      simp only [kB,kZ,kD,kE,xn,xi,xm,xe,xf,xg,xh,xl,xk,xj,reduceIte,reduceCtorEq,ya,xz,xu]
      exact ⟨true,k,[],sz,bl,f,U,rfl,hP,fun _=>hrun,fun e=>by cases e⟩
end
end Go.VX.Seat
end
section
set_option maxRecDepth 4000
namespace Go.VX.Seat
open Go.Proofs Go.Lib
theorem zero_ptr {s : St} {ub lo ver : Nat} (h : s[ub]? = some ⟨[.sc (.slice none 0 0),iA 0,iA 0,iA 0,iA 0,.sc (.slice none 0 0)],0,ver⟩) : UPtr s ub lo (.sc (.slice none 0 0)) (.sc (.slice none 0 0)) (fun _=>.sc (.slice none 0 0)) zeroU :=
  ⟨⟨ver,h⟩,(fun hx=>by rcases hx with hx | hx | ⟨j,hj,hx⟩<;>cases hx),⟨own_nil _ _ _,fun b hb=>by cases hb⟩,⟨own_nil _ _ _,fun hne=>absurd rfl hne,fun i hi=>absurd hi (by simp [zeroU]),fun i hi=>absurd hi (by simp [zeroU]),fun i j hi=>absurd hi (by simp [zeroU])⟩⟩
theorem own_zero (s : St) (lo : Nat) : OwnU s lo (.agg [.sc (.slice none 0 0),iA 0,iA 0,iA 0,iA 0,.sc (.slice none 0 0)]) zeroU :=
  ⟨_,_,(fun _=>.sc (.slice none 0 0)),rfl,⟨own_nil _ _ _,fun b hb=>by cases hb⟩,⟨own_nil _ _ _,fun hne=>absurd rfl hne,fun i hi=>absurd hi (by simp [zeroU]),fun i hi=>absurd hi (by simp [zeroU]),fun i j hi=>absurd hi (by simp [zeroU])⟩⟩
section
variable {X : Cx} {st : St}
set_option maxHeartbeats 2000000 in
theorem w_code_Parse (h : OnH X) (hg : GB st) (t : List UInt8) :
    wpF X 14 [sA t] st fun r s=>∃ w,r = .ret (.tup [w,iA (parseT t).2.1,iA (parseT t).2.2])∧(∃ m,s = st++m)∧OwnU s st.length w (parseT t).1:=by
  refine wpF_go (fn:=v_code_Parse) (by rw [h.F]; rfl) ?_
  have q1:=k_len h.toOn t
  simp only [v_code_Parse,q1,kB,kZ,kD,kE,xn,xi,xm,xe,xf,xg,xh,xl,xk,xj,reduceIte,reduceCtorEq,ya,xz,xu]
  refine condO_intro ?_ ?_<;>intro hc
  · have hlt : 2000000 < (t.length : Int):=of_decide_eq_true hc
    have e : parseT t = (zeroU,0,3):=by unfold parseT; rw [if_pos hlt]
    rw [e]
    simp only [kB,kZ,kD,kE,xn,xi,xm,xe,xf,xg,xh,xl,xk,xj,reduceIte,reduceCtorEq,ya,xz,xu]
    exact ⟨_,rfl,⟨_,rfl⟩,own_zero _ _⟩
  have hlt : ¬ 2000000 < (t.length : Int):=of_decide_eq_false hc
  have ht : t.length≤2400000:=by omega
  have eP : parseT t = match runT 0 1 zeroU t with
      | .error k=>(zeroU,k,4)
      | .ok U=>if chkU U = 0 then (U,0,0) else (zeroU,0,chkU U):=by unfold parseT; exact if_neg hlt
  simp only [kB,kZ,kD,kE,xn,xi,xm,xe,xf,xg,xh,xl,xk,xj,reduceIte,reduceCtorEq,ya,xz,xu]
  obtain ⟨st1,hst1⟩ : ∃ st1 : St,st1 = st++[⟨[.sc (.slice none 0 0),iA 0,iA 0,iA 0,iA 0,.sc (.slice none 0 0)],0,0⟩]:=⟨_,rfl⟩
  have hl1 : st1.length = st.length + 1:=by rw [hst1]; simp
  have hg1 : GB st1:=by rw [hst1]; exact hg.app _
  have hr1 : st1[st.length + 0]? = some ⟨[.sc (.slice none 0 0),iA 0,iA 0,iA 0,iA 0,.sc (.slice none 0 0)],0,0⟩:=by rw [hst1]; simp
  have hP : PS st1 (st++[⟨[.sc (.slice none 0 0),iA 0,iA 0,iA 0,iA 0,.sc (.slice none 0 0)],0,0⟩,⟨[.sc (.slice none 0 0),iA 0,iA 0,iA 0,iA 0,.sc (.slice none 0 0)],0,0⟩,⟨[sA t,iA 1],0,0⟩]) (st.length + 2) (st.length + 1) (st.length + 3) 1 t (.sc (.slice none 0 0)) (.sc (.slice none 0 0)) (fun _=>.sc (.slice none 0 0)) zeroU :=
    ⟨⟨[⟨[.sc (.slice none 0 0),iA 0,iA 0,iA 0,iA 0,.sc (.slice none 0 0)],0,0⟩,⟨[sA t,iA 1],0,0⟩],by rw [hst1]; simp⟩,⟨0,by simp⟩,⟨by omega,by omega,by omega,by omega,by omega,by simp⟩,zero_ptr (ver:=0) (by simp),⟨by omega,by omega⟩⟩
  refine wpF.mono (w_lines_unit h hg1 hP ht) ?_
  rintro r s ⟨ok,k,t',sz,bl,f,U,rfl,hP2,hyes,hno⟩
  refine ⟨keptA_nil _ _ _,?_⟩
  clear hP
  obtain ⟨m,hm⟩:=hP2.pre
  have hr2 : s[st.length + 0]? = some ⟨[.sc (.slice none 0 0),iA 0,iA 0,iA 0,iA 0,.sc (.slice none 0 0)],0,0⟩:=by
    rw [hm,List.getElem?_append_left (by omega)]
    exact hr1
  have hpre : ∃ m,s = st++m:=⟨_,by rw [hm,hst1,List.append_assoc]⟩
  obtain ⟨lv,hl⟩:=hP2.l
  have x1 : St.at1 s (st.length + 2) 1 = some (iA k):=at1_box hl (by decide) 1
  have hz : ∃ S',St.put s (st.length + 0) 0 [.sc (.slice none 0 0),iA 0,iA 0,iA 0,iA 0,.sc (.slice none 0 0)] = some S'∧St.atN S' (st.length + 0) 0 6 = some [.sc (.slice none 0 0),iA 0,iA 0,iA 0,iA 0,.sc (.slice none 0 0)]∧(∃ m,S' = st++m)∧Agree (fun b=>b = st.length + 0) s S':=by
    obtain ⟨S',e1,e2,e3⟩:=put_whole hr2 (cells:=[.sc (.slice none 0 0),iA 0,iA 0,iA 0,iA 0,.sc (.slice none 0 0)]) rfl rfl
    exact ⟨S',e1,by rw [atN_box e2 (by decide) 0 6 (by simp)]; rfl,e3.ext hpre fun b hb e=>by omega,e3⟩
  obtain ⟨S1,z1,z2,z3,z4⟩:=hz
  cases ok with
  | false =>
    have hr:=hno rfl
    rw [eP,hr]
    simp only [x1,z1,z2,kB,kZ,kD,kE,xn,xi,xm,xe,xf,xg,xh,xl,xk,xj,reduceIte,reduceCtorEq,ya,xz,xu]
    refine ⟨kept_oneP (b:=st.length + 2) (o:=1) rfl (z4.eq _ (List.getElem?_eq_some_iff.1 hl).1 (by omega)),_,rfl,z3,own_zero _ _⟩
  | true =>
    have hr:=hyes rfl
    have hown:=hP2.u.own
    obtain ⟨uv,hub⟩:=hP2.u.box
    have hu:=hown.unit
    have x6 : St.atN s (st.length + 1) 0 6 = some [sz,iA U.params,iA U.regs,iA U.code,iA U.spill,bl]:=by
      rw [atN_box hub (by decide) 0 6 (by simp)]
      rfl
    simp only [x6,kB,kZ,kD,kE,xn,xi,xm,xe,xf,xg,xh,xl,xk,xj,reduceIte,reduceCtorEq,ya,xz,xu]
    refine callO_same (j_code_Check h (hP2.gb hg1) hu) ?_
    by_cases hc0 : chkU U = 0
    · have e : parseT t = (U,0,0):=by rw [eP,hr]; show (if chkU U = 0 then _ else _) = _; rw [if_pos hc0]
      rw [e]
      have hszc:=isCell_len hP2.u.z.own.arr.len
      have hblc:=isCell_len hP2.u.b.own.arr.len
      obtain ⟨S2,e1,e2,e3⟩:=put_whole hr2 (cells:=[sz,iA U.params,iA U.regs,iA U.code,iA U.spill,bl]) rfl (show (sz.isCell && (true && (true && (true && (true && (bl.isCell && true)))))) = true by rw [hszc,hblc]; rfl)
      have e4 : St.atN S2 (st.length + 0) 0 6 = some [sz,iA U.params,iA U.regs,iA U.code,iA U.spill,bl]:=by
        rw [atN_box e2 (by decide) 0 6 (by simp)]
        rfl
      have d0 : decide ((0 : Int)≠0) = false:=rfl
      simp only [hc0,d0,x6,e1,e4,kB,kZ,kD,kE,xn,xi,xm,xe,xf,xg,xh,xl,xk,xj,reduceIte,reduceCtorEq,ya,xz,xu]
      exact ⟨_,rfl,e3.ext hpre fun b hb e=>by omega,(hown.agree e3 fun b hb _ hx=>by omega).low (by omega)⟩
    · have e : parseT t = (zeroU,0,chkU U):=by rw [eP,hr]; show (if chkU U = 0 then _ else _) = _; rw [if_neg hc0]
      rw [e]
      have d0 : decide (chkU U≠0) = true:=decide_eq_true hc0
      simp only [d0,z1,z2,kB,kZ,kD,kE,xn,xi,xm,xe,xf,xg,xh,xl,xk,xj,reduceIte,reduceCtorEq,ya,xz,xu]
      exact ⟨_,rfl,z3,own_zero _ _⟩
end
end Go.VX.Seat
end
section
set_option maxRecDepth 4000
namespace Go.VX.Seat
open Go.Proofs Go.Lib
theorem Bl.arr {S0 s st : St} {bx lo hi esz : Nat} {l : List UInt8} {v : AV} {rows : List (List AV)} (h : Bl S0 s bx l) (hS : ∃ k,S0 = st++k) (ha : ArrAt st lo hi v esz rows) : ArrAt s lo hi v esz rows:=by
  obtain ⟨k,rfl⟩:=h.pre
  obtain ⟨k0,rfl⟩:=hS
  rw [List.append_assoc]
  exact ha.mono _
section
variable {X : Cx} {st : St}
end
end Go.VX.Seat
end
section
set_option maxRecDepth 4000
namespace Go.VX.Seat
open Go.Proofs Go.Lib
structure CanE (e : EndV) : Prop where
  k : 1≤e.k∧e.k≤4
  i : EndI e
  a : e.k = 1→e.a = 0
  t : e.k≠1→e.k≠2→e.t = 0
  e : e.k≠2→e.e = 0
structure CanB (b : BlkV) : Prop where
  ops : ∀ o ∈ b.ops,CanO o
  e : CanE b.e
  c : I64 b.catch_
end Go.VX.Seat
end
section
set_option maxRecDepth 4000
namespace Go.VX.Seat
open Go.Proofs Go.Lib
def digC (c : UInt8) : Bool:=decide (48≤c.toNat) && decide (c.toNat≤57)
def decV (l : List UInt8) : Nat:=l.foldl (fun v c=>10 * v + (c.toNat - 48)) 0
def negC (l : List UInt8) : Bool:=decide (l.head? = some 45)
def dgs (l : List UInt8) : List UInt8:=if negC l then l.drop 1 else l
def sgN (l : List UInt8) : Int:=IntKind.wrap .i64 (if negC l then -(decV (dgs l) : Int) else (decV (dgs l) : Int))
def refN (l : List UInt8) : Option Int:=if (dgs l).all digC = true∧(dgs l).length≤19 then (if itoa (sgN l) = l then some (sgN l) else none) else none
theorem wrap_I64 (n : Int) : I64 (IntKind.wrap .i64 n):=by
  rw [IntKind.wrap_i64]
  unfold I64
  omega
theorem decV_snoc (l : List UInt8) (c : UInt8) : decV (l++[c]) = 10 * decV l + (c.toNat - 48):=by
  unfold decV
  rw [List.foldl_append]
  rfl
theorem decV_dec : ∀ u : Nat,decV (decDigits u) = u
  | u=>by
    rw [decDigits]
    split
    · rename_i hu
      show 10 * 0 + ((UInt8.ofNat (48 + u)).toNat - 48) = u
      rw [digit_toNat hu]
      omega
    · have hm:=Nat.mod_lt u (show 10 > 0 by decide)
      rw [decV_snoc,decV_dec (u / 10),digit_toNat hm]
      omega
termination_by u=>u
decreasing_by omega
theorem refN_eq (l : List UInt8) : refN l = readN l:=by
  cases h : readN l with
  | some n =>
    obtain ⟨e,hn⟩:=readN_some h
    have hd : ∃ u : Nat,u≤9223372036854775808∧dgs l = decDigits u∧sgN l = n:=by
      unfold sgN dgs negC
      rw [e]
      unfold itoa
      split
      · rename_i hneg
        refine ⟨n.natAbs,by have:=hn.1; omega,by simp,?_⟩
        simp only [List.head?_cons,decide_true,if_true,List.drop_succ_cons,List.drop_zero]
        rw [decV_dec,wrap_small (by have:=hn.1; omega) (by omega)]
        try omega
      · rename_i hneg
        obtain ⟨c,r,ec⟩:=dec_cons n.toNat
        have hc:=decDigits_mem n.toNat c (by rw [ec]; exact List.mem_cons_self ..)
        have hne : decide ((decDigits n.toNat).head? = some 45) = false:=by
          rw [ec]
          refine decide_eq_false fun h=>?_
          simp only [List.head?_cons,Option.some.injEq] at h
          rw [h] at hc
          exact absurd hc.1 (by decide)
        refine ⟨n.toNat,by have:=hn.2; omega,by rw [hne]; rfl,?_⟩
        rw [hne]
        simp only [Bool.false_eq_true,if_false]
        rw [decV_dec,wrap_small (by omega) (by have:=hn.2; omega)]
        try omega
    obtain ⟨u,hu,e1,e2⟩:=hd
    have hall : (decDigits u).all digC = true:=by
      rw [List.all_eq_true]
      intro c hc
      have:=decDigits_mem u c hc
      unfold digC
      simp only [Bool.and_eq_true,decide_eq_true_eq]
      exact this
    unfold refN
    rw [e1,e2,if_pos ⟨hall,decDigits_len 18 u (by omega)⟩,if_pos e.symm]
  | none =>
    unfold refN
    split
    · split
      · rename_i h2
        have:=readN_itoa (wrap_I64 (if negC l then -(decV (dgs l) : Int) else (decV (dgs l) : Int)))
        rw [show IntKind.wrap .i64 (if negC l then -(decV (dgs l) : Int) else (decV (dgs l) : Int)) = sgN l from rfl,h2,h] at this
        cases this
      · rfl
    · rfl
section
variable {X : Cx} {st : St}
set_option maxHeartbeats 2000000 in
theorem j_r01_Read (h : OnH X) (hg : GB st) (l : List UInt8) (hl : l.length≤100000000) : J X.P X.F X.H (.call 107 [sA l] st (.ret (.tup [iA ((readN l).getD 0),bA (readN l).isSome])) st):=by
  rw [←refN_eq]
  refine pure_intro (by rw [h.F]; rfl) rfl ?_
  have hlen:=k_len h.toOn l
  have hgs:=hg.app []
  simp only [v_r01_Read,hlen,kB,kZ,kD,kE,xn,xi,xm,xe,xf,xg,xh,xl,xk,xj,reduceIte,reduceCtorEq,ya,xz,xu]
  refine anyG (mS m0) (fun e s=>s = st++[]∧e 0 = sA l∧e 4 = sA (dgs l)∧e 5 = iA (if negC l then 1 else -1)) ?_ ?_
  · cases l with
    | nil =>
      have e0 : decide ((0 : Int) < ((([] : List UInt8).length : Nat) : Int)) = false:=rfl
      simp only [e0,kB,kZ,kD,kE,xn,xi,xm,xe,xf,xg,xh,xl,xk,xj,reduceIte,reduceCtorEq,ya,xz,xu]
      exact ⟨rfl,rfl⟩
    | cons c r =>
      have e0 : decide ((0 : Int) < ((r.length + 1 : Nat) : Int)) = true:=decide_eq_true (by omega)
      have g0 : closed X.P (Instr.index 9 (.string ⟨(c :: r).toArray⟩) (.int .i64 0)) = some (.int .u8 (c.toNat : Int)):=k_idx h.toOn (c :: r) 0 (by simp)
      have g1 : closed X.P (Instr.sliceAt 9 (.string ⟨(c :: r).toArray⟩) (some (.int .i64 1)) none none) = some (.string ⟨r.toArray⟩):=k_sl1 h.toOn (c :: r) 1 (by simp)
      cases h45 : decide ((c.toNat : Int) = 45)
      · have hne : negC (c :: r) = false:=decide_eq_false (fun e=>by
          simp only [List.head?_cons,Option.some.injEq] at e
          subst e
          exact absurd h45 (by decide))
        simp only [e0,g0,g1,h45,kB,kZ,kD,kE,xn,xi,xm,xe,xf,xg,xh,xl,xk,xj,reduceIte,reduceCtorEq,ya,xz,xu]
        unfold dgs
        rw [hne]
        exact ⟨rfl,rfl⟩
      · have he : c = 45:=UInt8.toNat_inj.1 (by have:=of_decide_eq_true h45; show c.toNat = 45; omega)
        have hne : negC (c :: r) = true:=decide_eq_true (by rw [he]; rfl)
        simp only [e0,g0,g1,h45,Option.map_none,kB,kZ,kD,kE,xn,xi,xm,xe,xf,xg,xh,xl,xk,xj,reduceIte,reduceCtorEq,ya,xz,xu]
        unfold dgs
        rw [hne]
        exact ⟨rfl,rfl⟩
  rintro e s ⟨rfl,k0,k4,k5⟩
  have hdl : (dgs l).length≤l.length:=by unfold dgs; split<;>simp
  have hlen2:=k_len h.toOn (dgs l)
  simp only [k0,k4,k5,kB,kZ,kD,kE,xn,xi,xm,xe,xf,xg,xh,xl,xk,xj,reduceIte,reduceCtorEq,ya,xz,xu]
  refine anyLoop (mB m0) (fun e s=>s = st++[]∧e 0 = sA l∧e 5 = iA (if negC l then 1 else -1)∧e 6 = iA (IntKind.wrap .i64 (-(decV (dgs l) : Int)))∧(dgs l).all digC = true∧(dgs l).length≤19) ?_ ?_
  · refine loop_inv (fun k e s=>∃ i : Nat,i + k = (dgs l).length∧s = st++[]∧e 0 = sA l∧e 4 = sA (dgs l)∧e 5 = iA (if negC l then 1 else -1)∧e 6 = iA (IntKind.wrap .i64 (-(decV ((dgs l).take i) : Int)))∧e 7 = iA i∧((dgs l).take i).all digC = true∧i≤19) ?_ (dgs l).length ?_
    case refine_2=>exact ⟨0,by omega,rfl,by simp only [k0,kB,kZ,kD,kE,xn,xi,xm,xe,xf,xg,xh,xl,xk,xj,reduceIte,reduceCtorEq,ya,xz,xu],by simp only [k4,kB,kZ,kD,kE,xn,xi,xm,xe,xf,xg,xh,xl,xk,xj,reduceIte,reduceCtorEq,ya,xz,xu],by simp only [k5,kB,kZ,kD,kE,xn,xi,xm,xe,xf,xg,xh,xl,xk,xj,reduceIte,reduceCtorEq,ya,xz,xu],rfl,rfl,rfl,by omega⟩
    clear k0 k4 k5
    rintro k e s ⟨i,hik,rfl,k0,k4,k5,k6,k7,hall,hi19⟩
    simp only [k0,k4,k5,k6,k7,hlen2,kB,kZ,kD,kE,xn,xi,xm,xe,xf,xg,xh,xl,xk,xj,reduceIte,reduceCtorEq,ya,xz,xu]
    refine condO_intro ?_ ?_<;>intro hc
    case refine_2 =>
      have hi : i = (dgs l).length:=by have:=of_decide_eq_false hc; omega
      subst hi
      rw [List.take_length] at k6 hall
      simp only [k0,k5,k6,kB,kZ,kD,kE,xn,xi,xm,xe,xf,xg,xh,xl,xk,xj,reduceIte,reduceCtorEq,ya,xz,xu]
      exact ⟨hall,hi19⟩
    have hi : i < (dgs l).length:=by have:=of_decide_eq_true hc; omega
    have g0:=k_idx h.toOn (dgs l) i hi
    have htk : (dgs l).take (i + 1) = (dgs l).take i++[(dgs l)[i]]:=List.take_succ_eq_append_getElem hi
    have hmem : (dgs l)[i] ∈ dgs l:=List.getElem_mem hi
    have h256 : ((dgs l)[i]).toNat < 256:=UInt8.toNat_lt _
    generalize (dgs l)[i] = c at *
    have hbad : digC c = false→refN l = none:=fun hd=>by
      unfold refN
      rw [if_neg]
      rintro ⟨h1,_⟩
      have:=List.all_eq_true.1 h1 c hmem
      rw [hd] at this
      cases this
    cases h48 : decide ((c.toNat : Int) < 48)
    case true =>
      have:=hbad (by unfold digC; rw [decide_eq_false (by have:=of_decide_eq_true h48; omega)]; rfl)
      rw [this]
      simp only [k0,k4,k5,k6,k7,g0,h48,Option.isSome_none,Option.getD_none,kB,kZ,kD,kE,xn,xi,xm,xe,xf,xg,xh,xl,xk,xj,reduceIte,reduceCtorEq,ya,xz,xu]
      first | exact ⟨_,rfl⟩ | exact ⟨rfl,_,rfl⟩ | exact ⟨trivial,_,rfl⟩ | exact ⟨[],(List.append_nil _).symm⟩
    cases h57 : decide ((57 : Int) < (c.toNat : Int))
    case true =>
      have:=hbad (by unfold digC; rw [Bool.and_comm,decide_eq_false (by have:=of_decide_eq_true h57; omega)]; rfl)
      rw [this]
      simp only [k0,k4,k5,k6,k7,g0,h48,h57,Option.isSome_none,Option.getD_none,kB,kZ,kD,kE,xn,xi,xm,xe,xf,xg,xh,xl,xk,xj,reduceIte,reduceCtorEq,ya,xz,xu]
      first | exact ⟨_,rfl⟩ | exact ⟨rfl,_,rfl⟩ | exact ⟨trivial,_,rfl⟩ | exact ⟨[],(List.append_nil _).symm⟩
    cases h19 : decide ((19 : Int)≤(i : Int))
    case true =>
      have : refN l = none:=by
        unfold refN
        rw [if_neg]
        rintro ⟨_,h1⟩
        have:=of_decide_eq_true h19
        omega
      rw [this]
      simp only [k0,k4,k5,k6,k7,g0,h48,h57,h19,Option.isSome_none,Option.getD_none,kB,kZ,kD,kE,xn,xi,xm,xe,xf,xg,xh,xl,xk,xj,reduceIte,reduceCtorEq,ya,xz,xu]
      first | exact ⟨_,rfl⟩ | exact ⟨rfl,_,rfl⟩ | exact ⟨trivial,_,rfl⟩ | exact ⟨[],(List.append_nil _).symm⟩
    have h48':=of_decide_eq_false h48
    have h57':=of_decide_eq_false h57
    have h19':=of_decide_eq_false h19
    have hd : digC c = true:=by unfold digC; rw [decide_eq_true (by omega),decide_eq_true (by omega)]; rfl
    have hwi : IntKind.wrap .i64 ((i : Int) + 1) = ((i + 1 : Nat) : Int):=by rw [wrap_small (by omega) (by omega)]; omega
    have w2 : IntKind.wrap .u8 ((c.toNat : Int) - 48) = (c.toNat : Int) - 48:=by
      have e : IntKind.wrap .u8 ((c.toNat : Int) - 48) = ((c.toNat : Int) - 48) % 256:=rfl
      rw [e]
      omega
    have hkc : ∀ n : Int,closed X.P (convert 5 2 (.int .u8 n)) = some (.int .i64 (IntKind.wrap .i64 n)):=fun n=>by rw [h.P]; kernel_rfl
    have w3 : IntKind.wrap .i64 ((c.toNat : Int) - 48) = (c.toNat : Int) - 48:=wrap_small (by omega) (by omega)
    have hdv:=decV_snoc ((dgs l).take i) c
    rw [←htk] at hdv
    have hstep : IntKind.wrap .i64 (IntKind.wrap .i64 (10 * IntKind.wrap .i64 (-(decV ((dgs l).take i) : Int))) - ((c.toNat : Int) - 48)) = IntKind.wrap .i64 (-(decV ((dgs l).take (i + 1)) : Int)):=by
      rw [hdv]
      simp only [IntKind.wrap_i64]
      omega
    simp only [k0,k4,k5,k6,k7,g0,h48,h57,h19,hwi,w2,hkc,w3,hstep,kB,kZ,kD,kE,xn,xi,xm,xe,xf,xg,xh,xl,xk,xj,reduceIte,reduceCtorEq,ya,xz,xu]
    refine ⟨k - 1,by omega,i + 1,by omega,rfl,rfl,?_,by omega⟩
    rw [htk,List.all_append,hall]
    simp [hd]
  clear k0 k4 k5
  rintro e s ⟨rfl,k0,k5,k6,hall,hl19⟩
  have hsg : IntKind.wrap .i64 (IntKind.wrap .i64 (-(decV (dgs l) : Int)) * (if negC l then 1 else -1)) = sgN l:=by
    unfold sgN
    cases negC l
    · simp only [Bool.false_eq_true,if_false,IntKind.wrap_i64]
      omega
    · simp only [if_true,IntKind.wrap_i64]
      omega
  have hr : refN l = if itoa (sgN l) = l then some (sgN l) else none:=by unfold refN; rw [if_pos ⟨hall,hl19⟩]
  have hI : I64 (sgN l):=wrap_I64 _
  simp only [k0,k5,k6,hsg,kB,kZ,kD,kE,xn,xi,xm,xe,xf,xg,xh,xl,xk,xj,reduceIte,reduceCtorEq,ya,xz,xu]
  refine callO_same (j_r01_Show h hgs (sgN l) hI) ?_
  have g1:=fun ox oy=>k_ne X.P ox oy (itoa (sgN l)) l
  rw [hr]
  by_cases hc : itoa (sgN l) = l
  · have e1 : decide (itoa (sgN l)≠l) = false:=by simp [hc]
    rw [if_pos hc]
    simp only [k0,g1,e1,Option.isSome_some,Option.getD_some,kB,kZ,kD,kE,xn,xi,xm,xe,xf,xg,xh,xl,xk,xj,reduceIte,reduceCtorEq,ya,xz,xu]
    first | exact ⟨_,rfl⟩ | exact ⟨rfl,_,rfl⟩ | exact ⟨trivial,_,rfl⟩ | exact ⟨[],(List.append_nil _).symm⟩
  · have e1 : decide (itoa (sgN l)≠l) = true:=by simp [hc]
    rw [if_neg hc]
    simp only [k0,g1,e1,Option.isSome_none,Option.getD_none,kB,kZ,kD,kE,xn,xi,xm,xe,xf,xg,xh,xl,xk,xj,reduceIte,reduceCtorEq,ya,xz,xu]
    first | exact ⟨_,rfl⟩ | exact ⟨rfl,_,rfl⟩ | exact ⟨trivial,_,rfl⟩ | exact ⟨[],(List.append_nil _).symm⟩
end
end Go.VX.Seat
end
section
set_option maxRecDepth 4000
namespace Go.VX.Seat
open Go.Proofs Go.Lib
section
variable {X : Cx} {st : St}
theorem w_r07_numbers (h : OnH X) (hg : GB st) {lo hi : Nat} {v : AV} {ws : List (List UInt8)} (hv : StrsAt st lo hi v ws) (hl : ∀ p ∈ ws,p.length≤2500000) (hwl : ws.length≤2500001) (c : Nat) (hc : c≤10) :
    wpF X 105 [v,iA c] st fun r s=>∃ w m,r = .ret (.tup [w,bA (nums ws c).isSome])∧s = st++m∧∀ n,nums ws c = some n→OwnS s st.length w 1 (rowsI n):=by
  refine wpF_go (fn:=v_r07_numbers) (by rw [h.F]; rfl) ?_
  have hlen:=hv.len
  simp only [List.length_map] at hlen
  have d0 : decide ((0 : Int)≠0) = false:=rfl
  simp only [v_r07_numbers,hlen,kB,kZ,kD,kE,xn,xi,xm,xe,xf,xg,xh,xl,xk,xj,reduceIte,reduceCtorEq,ya,xz,xu]
  refine condO_intro ?_ ?_<;>intro hc1
  · have hne : ws.length≠c:=by have:=of_decide_eq_true hc1; omega
    have e : nums ws c = none:=by unfold nums; rw [if_neg hne]
    simp only [kB,kZ,kD,kE,xn,xi,xm,xe,xf,xg,xh,xl,xk,xj,reduceIte,reduceCtorEq,ya,xz,xu]
    exact ⟨_,[],by rw [e]; rfl,rfl,fun n hn=>by rw [e] at hn; cases hn⟩
  have hwc : ws.length = c:=by have:=of_decide_eq_false hc1; omega
  have en : nums ws c = ws.mapM readN:=by unfold nums; rw [if_pos hwc]
  simp only [hlen,kB,kZ,kD,kE,xn,xi,xm,xe,xf,xg,xh,xl,xk,xj,reduceIte,reduceCtorEq,ya,xz,xu]
  refine anyLoop (mB m0) (fun e s=>∃ (w : AV) (n : List Int),e 6 = w∧nums ws c = some n∧(∃ m,s = st++m)∧OwnS s st.length w 1 (rowsI n)) ?_ ?_
  · refine loop_inv (fun k e s=>∃ (i : Nat) (w : AV) (n : List Int),i + k = ws.length∧e 6 = w∧e 0 = v∧e 7 = iA i∧(ws.take i).mapM readN = some n∧(∃ m,s = st++m)∧OwnS s st.length w 1 (rowsI n)) ?_ ws.length ?_
    case refine_2=>exact ⟨0,_,[],by omega,rfl,rfl,rfl,rfl,⟨[],rfl⟩,own_nil _ _ _⟩
    rintro k e s ⟨i,w,n,hik,k6,k0,k7,hn,hpre,hown⟩
    simp only [k6,k0,k7,hlen,kB,kZ,kD,kE,xn,xi,xm,xe,xf,xg,xh,xl,xk,xj,reduceIte,reduceCtorEq,ya,xz,xu]
    refine condO_intro ?_ ?_<;>intro hc2
    case refine_2 =>
      have hi : i = ws.length:=by have:=of_decide_eq_false hc2; omega
      subst hi
      rw [List.take_length] at hn
      simp only [k6,kB,kZ,kD,kE,xn,xi,xm,xe,xf,xg,xh,xl,xk,xj,reduceIte,reduceCtorEq,ya,xz,xu]
      exact ⟨w,n,rfl,by rw [en,hn],hpre,hown⟩
    have hii : i < ws.length:=by have:=of_decide_eq_true hc2; omega
    obtain ⟨ms,hms⟩:=hpre
    have hv2:=hv.mono ms
    have hgs:=hg.app ms
    have hstl : st.length≤s.length:=by rw [hms]; simp
    rw [←hms] at hv2 hgs
    obtain ⟨b1,o1,he1,hn1,ha1,_⟩:=hv2.get i (by simpa using hii)
    have p1:=ha1 [] 0 (by omega)
    simp only [List.append_nil,List.getElem_map,Nat.add_zero,List.getElem?_cons_zero] at p1
    have hpl:=hl _ (List.getElem_mem hii)
    have hnl : n.length≤i:=by
      have:=(mapM_readN hn).1
      have:=congrArg List.length this
      simp at this
      omega
    have hwi : IntKind.wrap .i64 ((i : Int) + 1) = ((i + 1 : Nat) : Int):=by rw [wrap_small (by omega) (by omega)]; omega
    simp only [k6,k0,k7,he1,p1,kB,kZ,kD,kE,xn,xi,xm,xe,xf,xg,xh,xl,xk,xj,reduceIte,reduceCtorEq,ya,xz,xu]
    refine callO_same (j_r01_Read h hgs _ (by omega)) ?_
    cases hr : readN ws[i] with
    | none =>
      have e0 : nums ws c = none:=by rw [en]; exact mapM_none hii hr
      simp only [Option.isSome_none,Option.getD_none,kB,kZ,kD,kE,xn,xi,xm,xe,xf,xg,xh,xl,xk,xj,reduceIte,reduceCtorEq,ya,xz,xu]
      exact ⟨_,ms,by rw [e0]; rfl,hms,fun n hn=>by rw [e0] at hn; cases hn⟩
    | some x =>
      simp only [Option.isSome_some,Option.getD_some,if_true,d0,k6,k0,k7,kB,kZ,kD,kE,xn,xi,xm,xe,xf,xg,xh,xl,xk,xj,reduceIte,reduceCtorEq,ya,xz,xu]
      refine opR_ints (n:=x) hown hstl (by omega) (by simp only [kB,kZ,kD,kE,xn,xi,xm,xe,xf,xg,xh,xl,xk,xj,reduceIte,reduceCtorEq,ya,xz,xu]) (by simp only [kB,kZ,kD,kE,xn,xi,xm,xe,xf,xg,xh,xl,xk,xj,reduceIte,reduceCtorEq,ya,xz,xu]) ?_
      intro w' s' hag hown' _
      have hpre':=hag.ext ⟨ms,hms⟩ fun b hb e=>by have:=(hown.bnd b e).1; omega
      simp only [k6,k0,k7,hwi,kB,kZ,kD,kE,xn,xi,xm,xe,xf,xg,xh,xl,xk,xj,reduceIte,reduceCtorEq,ya,xz,xu]
      exact ⟨k - 1,by omega,i + 1,w',n++[x],by omega,rfl,rfl,mapM_take hii hn hr,hpre',hown'⟩
  rintro e s ⟨w,n,k6,hn,⟨m,rfl⟩,hown⟩
  simp only [k6,kB,kZ,kD,kE,xn,xi,xm,xe,xf,xg,xh,xl,xk,xj,reduceIte,reduceCtorEq,ya,xz,xu]
  exact ⟨w,m,by rw [hn]; rfl,rfl,fun n' hn'=>by rw [hn] at hn'; cases hn'; exact hown⟩
theorem w_r07_headed (h : OnH X) (hg : GB st) (line head : List UInt8) (hl : line.length≤2500000) (c : Nat) (hc : c≤10) :
    wpF X 82 [sA line,sA head,iA c] st fun r s=>∃ w m,r = .ret (.tup [w,bA (headP line head c).isSome])∧s = st++m∧∀ n,headP line head c = some n→OwnS s st.length w 1 (rowsI n):=by
  refine wpF_go (fn:=v_r07_headed) (by rw [h.F]; rfl) ?_
  simp only [v_r07_headed,kB,kZ,kD,kE,xn,xi,xm,xe,xf,xg,xh,xl,xk,xj,reduceIte,reduceCtorEq,ya,xz,xu]
  refine wpF.mono (w_Split h 32 line (by omega)) ?_
  rintro r S ⟨v,m,hi,rfl,rfl,ha⟩
  refine ⟨kept_app _ _ _ _,?_⟩
  obtain ⟨w0,t,e⟩:=spl_cons 32 line
  have hpl:=spl_le 32 line
  have hcl:=spl_len 32 line
  have hcc:=List.count_le_length (a:=(32 : UInt8)) (l:=line)
  simp only [List.append_nil] at ha ⊢
  have hsl : st.length≤(st++m).length:=by simp
  have eh : headP line head c = if w0 = head then nums t c else none:=by unfold headP; rw [show spl line = w0 :: t from e]
  rw [e] at ha hpl hcl
  simp only [List.length_cons] at hcl
  obtain ⟨b1,o1,he1,hn1,ha1,_⟩:=ha.get 0 (by simp)
  have p1:=ha1 [] 0 (by omega)
  simp only [List.append_nil,List.map_cons,List.getElem_cons_zero,Nat.add_zero,List.getElem?_cons_zero,Int.natCast_zero] at p1 he1
  have g1:=fun ox oy=>k_ne X.P ox oy w0 head
  have hgm:=hg.app m
  generalize hS : st++m = S at *
  simp only [he1,p1,g1,kB,kZ,kD,kE,xn,xi,xm,xe,xf,xg,xh,xl,xk,xj,reduceIte,reduceCtorEq,ya,xz,xu]
  refine condO_intro ?_ ?_<;>intro hc1
  · have hne : w0≠head:=by simpa using hc1
    have e0 : headP line head c = none:=by rw [eh,if_neg hne]
    simp only [kB,kZ,kD,kE,xn,xi,xm,xe,xf,xg,xh,xl,xk,xj,reduceIte,reduceCtorEq,ya,xz,xu]
    exact ⟨_,m,by rw [e0]; rfl,hS.symm,fun n hn=>by rw [e0] at hn; cases hn⟩
  have he : w0 = head:=by simpa using hc1
  have e1 : headP line head c = nums t c:=by rw [eh,if_pos he]
  simp only [kB,kZ,kD,kE,xn,xi,xm,xe,xf,xg,xh,xl,xk,xj,reduceIte,reduceCtorEq,ya,xz,xu]
  refine opR_sufS (n:=1) (by simp only [kB,kZ,kD,kE,xn,xi,xm,xe,xf,xg,xh,xl,xk,xj,reduceIte,reduceCtorEq,ya,xz,xu]) rfl ha (by simp) ?_
  intro w hw _
  simp only [List.map_cons,List.drop_succ_cons,List.drop_zero] at hw
  simp only [kB,kZ,kD,kE,xn,xi,xm,xe,xf,xg,xh,xl,xk,xj,reduceIte,reduceCtorEq,ya,xz,xu]
  refine wpF.mono (w_r07_numbers h hgm hw (fun p hp=>by have:=hpl p (List.mem_cons_of_mem _ hp); omega) (by omega) c hc) ?_
  rintro r s ⟨w2,m2,rfl,rfl,hw2⟩
  refine ⟨kept_app _ _ _ _,?_⟩
  simp only [kB,kZ,kD,kE,xn,xi,xm,xe,xf,xg,xh,xl,xk,xj,reduceIte,reduceCtorEq,ya,xz,xu]
  rw [←hS]
  exact ⟨w2,m++m2,by rw [e1],by simp,fun n hn=>(by rw [e1] at hn; have:=(hw2 n hn).low hsl; rw [←hS] at this; exact this)⟩
end
end Go.VX.Seat
end
section
set_option maxRecDepth 4000
namespace Go.VX.Seat
open Go.Proofs Go.Lib
section
variable {X : Cx} {st : St}
set_option maxHeartbeats 2000000 in
theorem j_r07_readEnd (h : OnH X) (hg : GB st) (line : List UInt8) (hl : line.length≤2500000) :
    J X.P X.F X.H (.call 84 [sA line] st (.ret (.tup [.agg ((endP line).getD zeroE).row,bA (endP line).isSome])) st):=by
  refine pure_intro (by rw [h.F]; rfl) rfl ?_
  have hput : ∀ {S : St} {rb : Nat} (cells : List AV),S[rb]? = some ⟨[iA 0,iA 0,iA 0,iA 0],0,0⟩→st.length≤rb→(∃ m,S = st++m)→cells.length = 4→cells.all AV.isCell = true→∃ S',St.put S rb 0 cells = some S'∧St.atN S' rb 0 4 = some cells∧∃ m,S' = st++m:=fun {S rb} cells hr hrb hm hcl hcc=>by
    obtain ⟨S',e1,e2,e3⟩:=put_whole hr (by rw [hcl]; rfl) hcc
    refine ⟨S',e1,?_,e3.ext hm fun b hb e=>by omega⟩
    rw [atN_box e2 (by decide) 0 4 (by omega)]
    simp only [List.drop_zero,List.take_of_length_le (show cells.length≤4 by omega)]
  simp only [v_r07_readEnd,kB,kZ,kD,kE,xn,xi,xm,xe,xf,xg,xh,xl,xk,xj,reduceIte,reduceCtorEq,ya,xz,xu]
  have hr : (st++[⟨[iA 0,iA 0,iA 0,iA 0],0,0⟩])[st.length + 0]? = some ⟨[iA 0,iA 0,iA 0,iA 0],0,0⟩:=by simp
  have hp : ∃ m,st++[⟨[iA 0,iA 0,iA 0,iA 0],0,0⟩] = st++m:=⟨_,rfl⟩
  have hrb : st.length≤st.length + 0:=Nat.le_refl _
  generalize (st++[⟨[iA 0,iA 0,iA 0,iA 0],0,0⟩] : St) = S at *
  generalize st.length + 0 = rb at *
  refine wpF.mono (w_r07_headed h (by obtain ⟨m,e⟩:=hp; rw [e]; exact hg.app m) line (endNm 1) hl 1 (by omega)) ?_
  rintro r S1 ⟨w,m,rfl,rfl,hw⟩
  refine ⟨kept_app _ _ _ _,?_⟩
  replace hr : (S++m)[rb]? = some ⟨[iA 0,iA 0,iA 0,iA 0],0,0⟩:=by rw [List.getElem?_append_left (List.getElem?_eq_some_iff.1 hr).1]; exact hr
  replace hp : ∃ k,S++m = st++k:=by obtain ⟨k,e⟩:=hp; exact ⟨k++m,by rw [e,List.append_assoc]⟩
  generalize S++m = M1 at *
  cases hH1 : headP line (endNm 1) 1 with
  | some n =>
    have hwn:=hw n hH1
    obtain ⟨hnl,_⟩:=headP_len hH1
    obtain ⟨b0,o0,g0,p0,_⟩:=ser_at hwn 0 (by omega)
    have p0:=p0 []
    simp only [List.append_nil] at p0
    simp only [Int.natCast_zero] at g0
    obtain ⟨S',e1,e2,e3⟩:=hput [iA 1,iA 0,iA (n.getD 0 0),iA 0] hr hrb hp rfl rfl
    have hE : endP line = some (mkEnd 0 n):=by unfold endP; rw [hH1]; rfl
    rw [hE]
    simp only [Option.isSome_some,Option.getD_some,g0,p0,e1,e2,kB,kZ,kD,kE,xn,xi,xm,xe,xf,xg,xh,xl,xk,xj,reduceIte,reduceCtorEq,ya,xz,xu]
    exact ⟨rfl,e3⟩
  | none =>
  simp only [Option.isSome_none,kB,kZ,kD,kE,xn,xi,xm,xe,xf,xg,xh,xl,xk,xj,reduceIte,reduceCtorEq,ya,xz,xu]
  clear hw
  refine wpF.mono (w_r07_headed h (by obtain ⟨m,e⟩:=hp; rw [e]; exact hg.app m) line (endNm 2) hl 3 (by omega)) ?_
  rintro r S1 ⟨w,m,rfl,rfl,hw⟩
  refine ⟨kept_app _ _ _ _,?_⟩
  replace hr : (M1++m)[rb]? = some ⟨[iA 0,iA 0,iA 0,iA 0],0,0⟩:=by rw [List.getElem?_append_left (List.getElem?_eq_some_iff.1 hr).1]; exact hr
  replace hp : ∃ k,M1++m = st++k:=by obtain ⟨k,e⟩:=hp; exact ⟨k++m,by rw [e,List.append_assoc]⟩
  generalize M1++m = M2 at *
  cases hH2 : headP line (endNm 2) 3 with
  | some n =>
    have hwn:=hw n hH2
    obtain ⟨hnl,_⟩:=headP_len hH2
    obtain ⟨b0,o0,g0,p0,_⟩:=ser_at hwn 0 (by omega)
    have p0:=p0 []
    simp only [List.append_nil] at p0
    simp only [Int.natCast_zero] at g0
    obtain ⟨b1,o1,g1,p1,_⟩:=ser_at hwn 1 (by omega)
    obtain ⟨b2,o2,g2,p2,_⟩:=ser_at hwn 2 (by omega)
    have p1:=p1 []
    have p2:=p2 []
    simp only [List.append_nil] at p1 p2
    simp only [Int.cast_ofNat_Int] at g1 g2
    obtain ⟨M1',e1,e2,e3⟩:=hput [iA 2,iA (n.getD 0 0),iA (n.getD 1 0),iA (n.getD 2 0)] hr hrb hp rfl rfl
    have hE : endP line = some (mkEnd 1 n):=by unfold endP; rw [hH1,hH2]; rfl
    rw [hE]
    simp only [Option.isSome_some,Option.getD_some,g0,p0,g1,p1,g2,p2,e1,e2,kB,kZ,kD,kE,xn,xi,xm,xe,xf,xg,xh,xl,xk,xj,reduceIte,reduceCtorEq,ya,xz,xu]
    exact ⟨rfl,e3⟩
  | none =>
  simp only [Option.isSome_none,kB,kZ,kD,kE,xn,xi,xm,xe,xf,xg,xh,xl,xk,xj,reduceIte,reduceCtorEq,ya,xz,xu]
  clear hw
  refine wpF.mono (w_r07_headed h (by obtain ⟨m,e⟩:=hp; rw [e]; exact hg.app m) line (endNm 3) hl 1 (by omega)) ?_
  rintro r S1 ⟨w,m,rfl,rfl,hw⟩
  refine ⟨kept_app _ _ _ _,?_⟩
  replace hr : (M2++m)[rb]? = some ⟨[iA 0,iA 0,iA 0,iA 0],0,0⟩:=by rw [List.getElem?_append_left (List.getElem?_eq_some_iff.1 hr).1]; exact hr
  replace hp : ∃ k,M2++m = st++k:=by obtain ⟨k,e⟩:=hp; exact ⟨k++m,by rw [e,List.append_assoc]⟩
  generalize M2++m = M3 at *
  cases hH3 : headP line (endNm 3) 1 with
  | some n =>
    have hwn:=hw n hH3
    obtain ⟨hnl,_⟩:=headP_len hH3
    obtain ⟨b0,o0,g0,p0,_⟩:=ser_at hwn 0 (by omega)
    have p0:=p0 []
    simp only [List.append_nil] at p0
    simp only [Int.natCast_zero] at g0
    obtain ⟨M2',e1,e2,e3⟩:=hput [iA 3,iA (n.getD 0 0),iA 0,iA 0] hr hrb hp rfl rfl
    have hE : endP line = some (mkEnd 2 n):=by unfold endP; rw [hH1,hH2,hH3]; rfl
    rw [hE]
    simp only [Option.isSome_some,Option.getD_some,g0,p0,e1,e2,kB,kZ,kD,kE,xn,xi,xm,xe,xf,xg,xh,xl,xk,xj,reduceIte,reduceCtorEq,ya,xz,xu]
    exact ⟨rfl,e3⟩
  | none =>
  simp only [Option.isSome_none,kB,kZ,kD,kE,xn,xi,xm,xe,xf,xg,xh,xl,xk,xj,reduceIte,reduceCtorEq,ya,xz,xu]
  clear hw
  refine wpF.mono (w_r07_headed h (by obtain ⟨m,e⟩:=hp; rw [e]; exact hg.app m) line (endNm 4) hl 1 (by omega)) ?_
  rintro r S1 ⟨w,m,rfl,rfl,hw⟩
  refine ⟨kept_app _ _ _ _,?_⟩
  replace hr : (M3++m)[rb]? = some ⟨[iA 0,iA 0,iA 0,iA 0],0,0⟩:=by rw [List.getElem?_append_left (List.getElem?_eq_some_iff.1 hr).1]; exact hr
  replace hp : ∃ k,M3++m = st++k:=by obtain ⟨k,e⟩:=hp; exact ⟨k++m,by rw [e,List.append_assoc]⟩
  generalize M3++m = M4 at *
  cases hH4 : headP line (endNm 4) 1 with
  | some n =>
    have hwn:=hw n hH4
    obtain ⟨hnl,_⟩:=headP_len hH4
    obtain ⟨b0,o0,g0,p0,_⟩:=ser_at hwn 0 (by omega)
    have p0:=p0 []
    simp only [List.append_nil] at p0
    simp only [Int.natCast_zero] at g0
    obtain ⟨M3',e1,e2,e3⟩:=hput [iA 4,iA (n.getD 0 0),iA 0,iA 0] hr hrb hp rfl rfl
    have hE : endP line = some (mkEnd 3 n):=by unfold endP; rw [hH1,hH2,hH3,hH4]; rfl
    rw [hE]
    simp only [Option.isSome_some,Option.getD_some,g0,p0,e1,e2,kB,kZ,kD,kE,xn,xi,xm,xe,xf,xg,xh,xl,xk,xj,reduceIte,reduceCtorEq,ya,xz,xu]
    exact ⟨rfl,e3⟩
  | none =>
  simp only [Option.isSome_none,kB,kZ,kD,kE,xn,xi,xm,xe,xf,xg,xh,xl,xk,xj,reduceIte,reduceCtorEq,ya,xz,xu]
  clear hw
  obtain ⟨M4',e1,e2,e3⟩:=hput [iA 0,iA 0,iA 0,iA 0] hr hrb hp rfl rfl
  have hE : endP line = none:=by unfold endP; rw [hH1,hH2,hH3,hH4]
  rw [hE]
  simp only [Option.isSome_none,Option.getD_none,e1,e2,kB,kZ,kD,kE,xn,xi,xm,xe,xf,xg,xh,xl,xk,xj,reduceIte,reduceCtorEq,ya,xz,xu]
  exact ⟨rfl,e3⟩
end
end Go.VX.Seat
end
section
set_option maxRecDepth 4000
namespace Go.VX.Seat
open Go.Proofs Go.Lib
structure RQ (st S : St) (rb ob : Nat) (o : List AV) (v : AV) (ps : List (List UInt8)) : Prop where
  pre : ∃ k,S = st++k
  res : S[rb]? = some ⟨[iA 0,iA 0,iA 0,iA 0,iA 0,iA 0,iA 0],0,0⟩
  out : ∃ ver,S[ob]? = some ⟨o,0,ver⟩
  ord : st.length≤rb∧rb < ob∧ob < S.length
  strs : ∃ lo hi,StrsAt S lo hi v ps
  sep : ∀ b,boxOf v = some b→ob < b
section
variable {st S : St} {rb ob : Nat} {o : List AV} {v : AV} {ps : List (List UInt8)}
theorem RQ.app (h : RQ st S rb ob o v ps) (L : St) : RQ st (S++L) rb ob o v ps:=by
  obtain ⟨⟨k,hk⟩,hr,⟨v1,ho⟩,hord,⟨lo,hi,hs⟩,hsep⟩:=h
  have ha:=Agree.app (fun _=>False) S L
  exact ⟨ha.ext ⟨k,hk⟩ fun _ _ hx=>hx.elim,ha.box hr fun hx=>hx,⟨v1,ha.box ho fun hx=>hx⟩,by have:=ha.len; omega,⟨lo,hi,hs.agree ha fun _ _ hx=>hx⟩,hsep⟩
theorem RQ.gb (h : RQ st S rb ob o v ps) (hg : GB st) : GB S:=by
  obtain ⟨k,hk⟩:=h.pre
  rw [hk]
  exact hg.app k
theorem RQ.out1 (h : RQ st S rb ob o v ps) (k : Nat) : St.at1 S ob k = o[k]?:=let ⟨_,hb⟩:=h.out; at1_box hb (by decide) k
theorem RQ.outN (h : RQ st S rb ob o v ps) (hl : o.length = 7) : St.atN S ob 0 7 = some o:=by
  obtain ⟨_,hb⟩:=h.out
  rw [atN_box hb (by decide) 0 7 (by omega)]
  simp only [List.drop_zero,List.take_of_length_le (show o.length≤7 by omega)]
theorem RQ.put_out (h : RQ st S rb ob o v ps) (k : Nat) (hk : k < o.length) (a : AV) (hc : a.isCell = true) : ∃ S',S.put ob k [a] = some S'∧RQ st S' rb ob (o.set k a) v ps∧Agree (fun b=>b = ob) S S':=by
  obtain ⟨⟨k0,hk0⟩,hr,⟨v1,ho⟩,hord,⟨lo,hi,hs⟩,hsep⟩:=h
  obtain ⟨S',e1,e2,e3⟩:=put_one ho k hk a hc
  exact ⟨S',e1,⟨e3.ext ⟨k0,hk0⟩ fun b hb hx=>(by omega),e3.box hr (by omega),⟨_,e2⟩,by have:=e3.len; omega,⟨lo,hi,hs.agree e3 fun b hb hx=>by have:=hsep b hb; omega⟩,hsep⟩,e3⟩
theorem RQ.fin (h : RQ st S rb ob o v ps) {q : List AV} (hl : q.length = 7) (hc : q.all AV.isCell = true) : ∃ S',S.put rb 0 q = some S'∧St.atN S' rb 0 7 = some q∧∃ m,S' = st++m:=by
  obtain ⟨S',e1,e2,e3⟩:=put_whole h.res (cells:=q) (by rw [hl]; rfl) hc
  obtain ⟨k0,hk0⟩:=h.pre
  refine ⟨S',e1,?_,e3.ext ⟨k0,hk0⟩ fun b hb hx=>(by have:=h.ord; omega)⟩
  rw [atN_box e2 (by decide) 0 7 (by omega)]
  simp only [List.drop_zero,List.take_of_length_le (show q.length≤7 by omega)]
theorem RQ.word (h : RQ st S rb ob o v ps) (i : Nat) (hi : i < ps.length) : ∃ b k,elemA v 1 (i : Int) = some (.ptr b k)∧∀ L,St.at1 (S++L) b k = some (sA (ps.getD i [])):=by
  obtain ⟨lo,hi',hs⟩:=h.strs
  obtain ⟨b1,o1,he1,hn1,ha1,_⟩:=hs.get i (by simpa using hi)
  refine ⟨b1,o1,he1,fun L=>?_⟩
  have p1:=ha1 L 0 (by omega)
  simp only [List.getElem_map,Nat.add_zero,List.getElem?_cons_zero] at p1
  rw [p1,List.getD_eq_getElem?_getD,List.getElem?_eq_getElem hi]
  rfl
theorem RQ.len (h : RQ st S rb ob o v ps) : lenA v = some ps.length:=by
  obtain ⟨lo,hi',hs⟩:=h.strs
  have:=hs.len
  simpa using this
theorem RQ.with (h : RQ st S rb ob o v ps) {w : AV} {qs : List (List UInt8)} {lo hi : Nat} (hs : StrsAt S lo hi w qs) (hb : boxOf w = boxOf v) : RQ st S rb ob o w qs:=⟨h.pre,h.res,h.out,h.ord,⟨lo,hi,hs⟩,fun b e=>h.sep b (by rw [←hb]; exact e)⟩
end
theorem mk_I {k g d : Int} {n : List Int} (hk : oneK k = true) (hg : I64 g) (hd : I64 d) (hn : ∀ x ∈ n,I64 x) : OpI (mkOp k g d n):=by
  have hb : 1≤k∧k≤25:=by unfold oneK at hk; simpa using hk
  refine ⟨⟨by show _≤k; omega,by show k≤_; omega⟩,hd,?_,?_,?_,?_,hg⟩
  · show I64 (if hasA k then _ else 0)
    split
    · exact getD_I hn _
    · exact I64_0
  · show I64 (if hasB k then _ else 0)
    split
    · exact getD_I hn _
    · exact I64_0
  · show I64 (if hasC k then _ else 0)
    split
    · exact getD_I hn _
    · exact I64_0
  · show I64 (if hasN k then _ else 0)
    split
    · exact getD_I hn _
    · exact I64_0
def kF (w : List UInt8) (i : Nat) : Int:=match (List.range i).find? fun j=>decide (nmJ j = w) with
  | some j=>(j : Int) + 1
  | none=>0
theorem kF_hit {w : List UInt8} {i : Nat} (hi : i < 25) (h : nmJ i = w) : kF w (i + 1) = (i : Int) + 1:=by
  unfold kF
  have : ((List.range (i + 1)).find? fun j=>decide (nmJ j = w)) = some i:=by
    rw [List.find?_range_eq_some]
    refine ⟨by simpa using h,by simp,fun j hj=>?_⟩
    have:=nmJ_inj ⟨j,by omega⟩ ⟨i,hi⟩
    simp only [Fin.mk.injEq] at this
    simp only [Bool.not_eq_true',decide_eq_false_iff_not]
    intro e
    have:=this (by rw [e,h])
    omega
  rw [this]
theorem kF_miss {w : List UInt8} {i : Nat} (h : nmJ i≠w) : kF w (i + 1) = kF w i:=by
  unfold kF
  rw [List.range_succ,List.find?_append]
  cases (List.range i).find? fun j=>decide (nmJ j = w) with
  | some j=>rfl
  | none=>simp [h]
theorem kF_all (w : List UInt8) : kF w 25 = (idxK w).getD 0:=by
  unfold kF idxK
  cases (List.range 25).find? fun j=>decide (nmJ j = w)<;>rfl
theorem nm_at (i : Nat) (hi : i < 25) : (nameL.map fun b=>AV.sc (.string b))[i]? = some (sA (nmJ i)):=by
  rw [List.getElem?_map,List.getElem?_eq_getElem (show i < nameL.length from hi),Option.map_some]
  have:=nmJ_eq i
  rw [List.getD_eq_getElem?_getD,List.getElem?_eq_getElem (show i < nameL.length from hi)] at this
  simp only [Option.getD_some] at this
  rw [this]
section
variable {X : Cx} {st : St}
set_option maxHeartbeats 4000000 in
theorem w_r07_readOp (h : OnH X) (hg : GB st) (line : List UInt8) (hl : line.length≤2500000) :
    wpF X 85 [sA line] st fun r s=>∃ o : OpV,r = .ret (.tup [.agg o.row,bA (opQ line).isSome])∧(∀ x,opQ line = some x→o = x)∧∃ m,s = st++m:=by
  refine wpF_go (fn:=v_r07_readOp) (by rw [h.F]; rfl) ?_
  simp only [v_r07_readOp,kB,kZ,kD,kE,xn,xi,xm,xe,xf,xg,xh,xl,xk,xj,reduceIte,reduceCtorEq,ya,xz,xu]
  refine wpF.mono (w_Split h 32 line (by omega)) ?_
  rintro r S ⟨v,m,hi,rfl,rfl,ha⟩
  refine ⟨kept_app _ _ _ _,?_⟩
  have hpl:=spl_le 32 line
  have hcl:=spl_len 32 line
  have hcc:=List.count_le_length (a:=(32 : UInt8)) (l:=line)
  have hpne : splC 32 line≠[]:=by obtain ⟨p0,pt,e⟩:=spl_cons 32 line; rw [e]; simp
  have hoP : opQ line = opG (tailR line) (splC 32 line):=rfl
  rw [hoP]
  generalize splC 32 line = ps at *
  have hbv : ∀ b,boxOf v = some b→st.length + 1 < b:=fun b hb=>by
    obtain ⟨b1,o1,he1,hb1,hb2,_⟩:=ha.row 0 (by simpa using List.length_pos_iff.2 hpne)
    obtain ⟨b',o',len',full',rfl,_,_,hp⟩:=elemA_inv he1
    cases hb
    cases hp
    simp only [List.length_append,List.length_cons,List.length_nil] at hb1
    omega
  have hR : RQ st (st++(⟨[iA 0,iA 0,iA 0,iA 0,iA 0,iA 0,iA 0],0,0⟩ :: ⟨[iA 0,iA 0,iA 0,iA 0,iA 0,iA 0,iA (-1)],0,1⟩ :: m)) (st.length + 0) (st.length + 1) [iA 0,iA 0,iA 0,iA 0,iA 0,iA 0,iA (-1)] v ps:=by
    simp only [List.append_assoc,List.cons_append,List.nil_append] at ha
    exact ⟨⟨_,rfl⟩,by simp,⟨1,by simp⟩,⟨by omega,by omega,by simp⟩,⟨_,_,ha⟩,hbv⟩
  simp only [kB,kZ,kD,kE,xn,xi,xm,xe,xf,xg,xh,xl,xk,xj,reduceIte,reduceCtorEq,ya,xz,xu]
  clear ha hoP hbv
  generalize (st++(⟨[iA 0,iA 0,iA 0,iA 0,iA 0,iA 0,iA 0],0,0⟩ :: ⟨[iA 0,iA 0,iA 0,iA 0,iA 0,iA 0,iA (-1)],0,1⟩ :: m) : St) = S at *
  generalize st.length + 0 = rb at *
  generalize st.length + 1 = ob at *
  have hln:=hR.len
  have hno : ∀ {q : Option OpV},q = none→∀ (y x : OpV),q = some x→y = x:=fun e y x h=>by rw [e] at h; cases h
  simp only [hln,kB,kZ,kD,kE,xn,xi,xm,xe,xf,xg,xh,xl,xk,xj,reduceIte,reduceCtorEq,ya,xz,xu]
  refine anyG (T:=fun q=>q) m0 (fun e s'=>s' = S∧e 0 = sA line∧e 2 = .ptr rb 0∧e 4 = .ptr ob 0∧e 5 = v∧e 25 = bA (decide (2 < ps.length∧ps.getD 0 [] = [63]))) ?_ ?_
  · cases hq : decide ((2 : Int) < (ps.length : Int))
    · have : decide (2 < ps.length∧ps.getD 0 [] = [63]) = false:=decide_eq_false (by have:=of_decide_eq_false hq; omega)
      simp only [hq,this,kB,kZ,kD,kE,xn,xi,xm,xe,xf,xg,xh,xl,xk,xj,reduceIte,reduceCtorEq,ya,xz,xu]
    · have hlt : 2 < ps.length:=by have:=of_decide_eq_true hq; omega
      have : decide (2 < ps.length∧ps.getD 0 [] = [63]) = decide (ps.getD 0 [] = [63]):=by simp [hlt]
      obtain ⟨b0,o0,he0,hp0⟩:=hR.word 0 (by omega)
      have d1:=fun ox oy=>k_eq X.P ox oy (ps.getD 0 []) [63]
      have hw0:=hp0 []
      simp only [List.append_nil] at hw0
      simp only [Int.natCast_zero] at he0
      simp only [hq,this,he0,hw0,d1,kB,kZ,kD,kE,xn,xi,xm,xe,xf,xg,xh,xl,xk,xj,reduceIte,reduceCtorEq,ya,xz,xu]
  rintro e s ⟨rfl,k0,k2,k4,k5,k25⟩
  simp only [k0,k2,k4,k5,k25,kB,kZ,kD,kE,xn,xi,xm,xe,xf,xg,xh,xl,xk,xj,reduceIte,reduceCtorEq,ya,xz,xu]
  refine anyCond m0 (fun e s=>∃ (g : Int) (lv : AV) (qs : List (List UInt8)),e 0 = sA line∧e 2 = .ptr rb 0∧e 4 = .ptr ob 0∧e 5 = lv∧RQ st s rb ob [iA 0,iA 0,iA 0,iA 0,iA 0,iA 0,iA g] lv qs∧I64 g∧qs≠[]∧opG (tailR line) ps = dstG (tailR line g) qs∧(∀ p ∈ qs,p.length≤line.length)∧qs.length≤line.length + 1) ?_ ?_
  · refine condO_intro ?_ ?_<;>intro hc
    case refine_2 =>
      simp only [k0,k2,k4,k5,kB,kZ,kD,kE,xn,xi,xm,xe,xf,xg,xh,xl,xk,xj,reduceIte,reduceCtorEq,ya,xz,xu]
      refine ⟨-1,v,ps,rfl,hR,by unfold I64; omega,hpne,?_,hpl,by omega⟩
      unfold opG
      rw [if_neg (of_decide_eq_false hc)]
    have hlt : 2 < ps.length:=(of_decide_eq_true hc).1
    have hop : opG (tailR line) ps = match readN (ps.getD 1 []) with
        | some g=>if g = -1 then none else dstG (tailR line g) (ps.drop 2)
        | none=>none:=by unfold opG; exact if_pos (of_decide_eq_true hc)
    obtain ⟨b1,o1,he1,hp1⟩:=hR.word 1 (by omega)
    have hw1:=hp1 []
    have hl1 : (ps.getD 1 []).length≤line.length:=hpl _ (by rw [List.getD_eq_getElem?_getD,List.getElem?_eq_getElem (show 1 < ps.length by omega)]; exact List.getElem_mem _)
    simp only [List.append_nil] at hw1
    simp only [Int.cast_ofNat_Int] at he1
    obtain ⟨S3,f1,f2,f3⟩:=hR.fin (q:=[iA 0,iA 0,iA 0,iA 0,iA 0,iA 0,iA 0]) rfl rfl
    simp only [k0,k2,k4,k5,he1,hw1,kB,kZ,kD,kE,xn,xi,xm,xe,xf,xg,xh,xl,xk,xj,reduceIte,reduceCtorEq,ya,xz,xu]
    refine callO_same (j_r01_Read h (hR.gb hg) (ps.getD 1 []) (by omega)) ?_
    cases hr : readN (ps.getD 1 []) with
    | none =>
      rw [hr] at hop
      dsimp only at hop
      simp only [Option.isSome_none,Option.getD_none,k0,k2,k4,k5,f1,f2,kB,kZ,kD,kE,xn,xi,xm,xe,xf,xg,xh,xl,xk,xj,reduceIte,reduceCtorEq,ya,xz,xu]
      exact ⟨⟨0,0,0,0,0,0,0⟩,by rw [hop]; rfl,hno hop _,f3⟩
    | some g =>
      rw [hr] at hop
      dsimp only at hop
      have hgI:=(readN_some hr).2
      simp only [Option.isSome_some,Option.getD_some,k0,k2,k4,k5,kB,kZ,kD,kE,xn,xi,xm,xe,xf,xg,xh,xl,xk,xj,reduceIte,reduceCtorEq,ya,xz,xu]
      refine condO_intro ?_ ?_<;>intro hc2
      · have hg1 : g = -1:=of_decide_eq_true hc2
        rw [if_pos hg1] at hop
        simp only [k0,k2,k4,k5,f1,f2,kB,kZ,kD,kE,xn,xi,xm,xe,xf,xg,xh,xl,xk,xj,reduceIte,reduceCtorEq,ya,xz,xu]
        exact ⟨⟨0,0,0,0,0,0,0⟩,by rw [hop]; rfl,hno hop _,f3⟩
      have hg1 : g≠-1:=of_decide_eq_false hc2
      rw [if_neg hg1] at hop
      clear f1 f2 f3 S3
      obtain ⟨S4,e4,hR4,_⟩:=hR.put_out 6 (by simp) (iA g) rfl
      obtain ⟨lo,hi,hss⟩:=hR4.strs
      simp only [k0,k2,k4,k5,e4,kB,kZ,kD,kE,xn,xi,xm,xe,xf,xg,xh,xl,xk,xj,reduceIte,reduceCtorEq,ya,xz,xu]
      refine opR_sufS (n:=2) (by simp only [kB,kZ,kD,kE,xn,xi,xm,xe,xf,xg,xh,xl,xk,xj,reduceIte,reduceCtorEq,ya,xz,xu]) rfl hss (by simp; omega) ?_
      intro w hw hbw
      rw [←List.map_drop] at hw
      simp only [k0,k2,k4,k5,kB,kZ,kD,kE,xn,xi,xm,xe,xf,xg,xh,xl,xk,xj,reduceIte,reduceCtorEq,ya,xz,xu]
      exact ⟨g,w,ps.drop 2,rfl,hR4.with hw hbw,hgI,(fun e=>by have:=congrArg List.length e; simp at this; omega),hop,fun p hp=>hpl p (List.mem_of_mem_drop hp),by simp; omega⟩
  clear hR hln k0 k2 k4 k5 k25 hpl hcl hpne
  rintro e s ⟨g,lv,qs,k0,k2,k4,k5,hR,hgI,hqne,hop,hpl,hql⟩
  rw [hop]
  clear hop
  have hln:=hR.len
  simp only [k0,k2,k4,k5,hln,kB,kZ,kD,kE,xn,xi,xm,xe,xf,xg,xh,xl,xk,xj,reduceIte,reduceCtorEq,ya,xz,xu]
  refine anyG (T:=fun q=>q) m0 (fun e s'=>s' = s∧e 0 = sA line∧e 2 = .ptr rb 0∧e 4 = .ptr ob 0∧e 5 = lv∧e 52 = bA (decide (2 < qs.length∧qs.getD 1 [] = [61]))) ?_ ?_
  · cases hq : decide ((2 : Int) < (qs.length : Int))
    · have : decide (2 < qs.length∧qs.getD 1 [] = [61]) = false:=decide_eq_false (by have:=of_decide_eq_false hq; omega)
      simp only [hq,this,k0,k2,k4,k5,kB,kZ,kD,kE,xn,xi,xm,xe,xf,xg,xh,xl,xk,xj,reduceIte,reduceCtorEq,ya,xz,xu]
    · have hlt : 2 < qs.length:=by have:=of_decide_eq_true hq; omega
      have : decide (2 < qs.length∧qs.getD 1 [] = [61]) = decide (qs.getD 1 [] = [61]):=by simp [hlt]
      obtain ⟨b0,o0,he0,hp0⟩:=hR.word 1 (by omega)
      have d1:=fun ox oy=>k_eq X.P ox oy (qs.getD 1 []) [61]
      have hw0:=hp0 []
      simp only [List.append_nil] at hw0
      simp only [Int.cast_ofNat_Int] at he0
      simp only [hq,this,he0,hw0,d1,k0,k2,k4,k5,kB,kZ,kD,kE,xn,xi,xm,xe,xf,xg,xh,xl,xk,xj,reduceIte,reduceCtorEq,ya,xz,xu]
  clear k0 k2 k4 k5
  rintro e s' ⟨rfl,k0,k2,k4,k5,k52⟩
  simp only [k0,k2,k4,k5,k52,kB,kZ,kD,kE,xn,xi,xm,xe,xf,xg,xh,xl,xk,xj,reduceIte,reduceCtorEq,ya,xz,xu]
  refine anyCond m0 (fun e s=>∃ (d : Int) (dst : Bool) (lv : AV) (w : List UInt8) (t : List (List UInt8)),e 0 = sA line∧e 2 = .ptr rb 0∧e 4 = .ptr ob 0∧e 5 = lv∧RQ st s rb ob [iA 0,iA d,iA 0,iA 0,iA 0,iA 0,iA g] lv (w :: t)∧I64 d∧dstG (tailR line g) qs = tailR line g d dst (w :: t)∧(∀ p ∈ t,p.length≤line.length)∧t.length≤line.length) ?_ ?_
  · refine condO_intro ?_ ?_<;>intro hc
    case refine_2 =>
      have hd : dstG (tailR line g) qs = tailR line g 0 false qs:=by unfold dstG; rw [if_neg (of_decide_eq_false hc)]
      match qs,hqne,hd,hR,hql,hpl with
      | w :: t,_,hd,hR,hql,hpl =>
      simp only [k0,k2,k4,k5,kB,kZ,kD,kE,xn,xi,xm,xe,xf,xg,xh,xl,xk,xj,reduceIte,reduceCtorEq,ya,xz,xu]
      exact ⟨0,false,lv,w,t,rfl,hR,I64_0,hd,fun p hp=>hpl p (List.mem_cons_of_mem _ hp),by simp only [List.length_cons] at hql; omega⟩
    have hlt : 2 < qs.length:=(of_decide_eq_true hc).1
    have hop : dstG (tailR line g) qs = match readN (qs.getD 0 []) with
        | some d=>tailR line g d true (qs.drop 2)
        | none=>none:=by unfold dstG; exact if_pos (of_decide_eq_true hc)
    obtain ⟨b1,o1,he1,hp1⟩:=hR.word 0 (by omega)
    have hw1:=hp1 []
    have hl1 : (qs.getD 0 []).length≤line.length:=hpl _ (by rw [List.getD_eq_getElem?_getD,List.getElem?_eq_getElem (show 0 < qs.length by omega)]; exact List.getElem_mem _)
    simp only [List.append_nil] at hw1
    simp only [Int.natCast_zero] at he1
    obtain ⟨S3,f1,f2,f3⟩:=hR.fin (q:=[iA 0,iA 0,iA 0,iA 0,iA 0,iA 0,iA 0]) rfl rfl
    simp only [k0,k2,k4,k5,he1,hw1,kB,kZ,kD,kE,xn,xi,xm,xe,xf,xg,xh,xl,xk,xj,reduceIte,reduceCtorEq,ya,xz,xu]
    refine callO_same (j_r01_Read h (hR.gb hg) (qs.getD 0 []) (by omega)) ?_
    cases hr : readN (qs.getD 0 []) with
    | none =>
      rw [hr] at hop
      dsimp only at hop
      simp only [Option.isSome_none,Option.getD_none,k0,k2,k4,k5,f1,f2,kB,kZ,kD,kE,xn,xi,xm,xe,xf,xg,xh,xl,xk,xj,reduceIte,reduceCtorEq,ya,xz,xu]
      exact ⟨⟨0,0,0,0,0,0,0⟩,by rw [hop]; rfl,hno hop _,f3⟩
    | some d =>
      rw [hr] at hop
      dsimp only at hop
      have hdI:=(readN_some hr).2
      clear f1 f2 f3 S3
      obtain ⟨S4,e4,hR4,_⟩:=hR.put_out 1 (by simp) (iA d) rfl
      obtain ⟨lo,hi,hss⟩:=hR4.strs
      simp only [Option.isSome_some,Option.getD_some,k0,k2,k4,k5,e4,kB,kZ,kD,kE,xn,xi,xm,xe,xf,xg,xh,xl,xk,xj,reduceIte,reduceCtorEq,ya,xz,xu]
      refine opR_sufS (n:=2) (by simp only [kB,kZ,kD,kE,xn,xi,xm,xe,xf,xg,xh,xl,xk,xj,reduceIte,reduceCtorEq,ya,xz,xu]) rfl hss (by simp; omega) ?_
      intro w hw hbw
      rw [←List.map_drop] at hw
      simp only [k0,k2,k4,k5,kB,kZ,kD,kE,xn,xi,xm,xe,xf,xg,xh,xl,xk,xj,reduceIte,reduceCtorEq,ya,xz,xu]
      have hR5:=hR4.with hw hbw
      obtain ⟨x,t,hx⟩ : ∃ x t,qs.drop 2 = x :: t:=by
        cases hq : qs.drop 2 with
        | nil=>have:=congrArg List.length hq; simp at this; omega
        | cons x t=>exact ⟨x,t,rfl⟩
      have hxl:=congrArg List.length hx
      simp only [List.length_drop,List.length_cons] at hxl
      have hxm : ∀ p ∈ t,p ∈ qs:=fun p hp=>List.mem_of_mem_drop (i:=2) (by rw [hx]; exact List.mem_cons_of_mem _ hp)
      rw [hx] at hR5 hop
      exact ⟨d,true,w,x,t,rfl,hR5,hdI,hop,fun p hp=>hpl p (hxm p hp),by omega⟩
  clear hR hln k0 k2 k4 k5 k52 hpl hql hqne
  rintro e s ⟨d,dst,lv,w,t,k0,k2,k4,k5,hR,hdI,hop,hpl,htl⟩
  rw [hop]
  clear hop
  simp only [k0,k2,k4,k5,kB,kZ,kD,kE,xn,xi,xm,xe,xf,xg,xh,xl,xk,xj,reduceIte,reduceCtorEq,ya,xz,xu]
  refine anyLoop (mB m0) (fun e s=>e 0 = sA line∧e 2 = .ptr rb 0∧e 4 = .ptr ob 0∧e 5 = lv∧RQ st s rb ob [iA (kF w 25),iA d,iA 0,iA 0,iA 0,iA 0,iA g] lv (w :: t)) ?_ ?_
  · refine loop_inv (fun n e s=>∃ i : Nat,i + n = 25∧e 0 = sA line∧e 2 = .ptr rb 0∧e 4 = .ptr ob 0∧e 5 = lv∧e 10 = iA i∧RQ st s rb ob [iA (kF w i),iA d,iA 0,iA 0,iA 0,iA 0,iA g] lv (w :: t)) ?_ 25 ?_
    case refine_2=>exact ⟨0,by omega,by simp only [k0,kB,kZ,kD,kE,xn,xi,xm,xe,xf,xg,xh,xl,xk,xj,reduceIte,reduceCtorEq,ya,xz,xu],by simp only [k2,kB,kZ,kD,kE,xn,xi,xm,xe,xf,xg,xh,xl,xk,xj,reduceIte,reduceCtorEq,ya,xz,xu],by simp only [k4,kB,kZ,kD,kE,xn,xi,xm,xe,xf,xg,xh,xl,xk,xj,reduceIte,reduceCtorEq,ya,xz,xu],by simp only [k5,kB,kZ,kD,kE,xn,xi,xm,xe,xf,xg,xh,xl,xk,xj,reduceIte,reduceCtorEq,ya,xz,xu],rfl,hR⟩
    clear k0 k2 k4 k5 hR
    rintro n e s ⟨i,hin,k0,k2,k4,k5,k10,hR⟩
    simp only [k0,k2,k4,k5,k10,kB,kZ,kD,kE,xn,xi,xm,xe,xf,xg,xh,xl,xk,xj,reduceIte,reduceCtorEq,ya,xz,xu]
    refine wpF.mono (w_r07_Names h.toOn) ?_
    rintro r s1 ⟨rfl,rfl⟩
    refine ⟨kept_app _ _ _ _,?_⟩
    have hR1:=hR.app [⟨nameL.map fun b=>.sc (.string b),0,0⟩]
    generalize s++[⟨nameL.map fun b=>AV.sc (.string b),0,0⟩] = s1 at *
    simp only [k0,k2,k4,k5,k10,kB,kZ,kD,kE,xn,xi,xm,xe,xf,xg,xh,xl,xk,xj,reduceIte,reduceCtorEq,ya,xz,xu]
    refine condO_intro ?_ ?_<;>intro hc
    case refine_2 =>
      have hi : i = 25:=by have:=of_decide_eq_false hc; omega
      subst hi
      simp only [k0,k2,k4,k5,kB,kZ,kD,kE,xn,xi,xm,xe,xf,xg,xh,xl,xk,xj,reduceIte,reduceCtorEq,ya,xz,xu]
      exact hR1
    have hi : i < 25:=by have:=of_decide_eq_true hc; omega
    obtain ⟨b1,o1,he1,hp1⟩:=hR1.word 0 (by simp)
    have hw1:=hp1 []
    simp only [List.append_nil,List.getD_cons_zero] at hw1
    simp only [Int.natCast_zero] at he1
    have hj : (0 : Int)≤(i : Int)∧(i : Int) < 25:=by omega
    have d1:=fun ox oy=>k_eq X.P ox oy (nmJ i) w
    have hR2:=hR1.app [⟨nameL.map fun b=>.sc (.string b),0,0⟩]
    have hn:=nm_at i hi
    simp only [k0,k2,k4,k5,k10,he1,hw1,kB,kZ,kD,kE,xn,xi,xm,xe,xf,xg,xh,xl,xk,xj,reduceIte,reduceCtorEq,ya,xz,xu]
    refine wpF.mono (w_r07_Names h.toOn) ?_
    rintro r s2 ⟨rfl,rfl⟩
    refine ⟨kept_app _ _ _ _,?_⟩
    have hwi : IntKind.wrap .i64 ((i : Int) + 1) = ((i + 1 : Nat) : Int):=by rw [wrap_small (by omega) (by omega)]; omega
    simp only [k0,k2,k4,k5,k10,if_pos hj,hn,d1,kB,kZ,kD,kE,xn,xi,xm,xe,xf,xg,xh,xl,xk,xj,reduceIte,reduceCtorEq,ya,xz,xu]
    refine condO_intro ?_ ?_<;>intro hc3
    · have hk:=kF_hit hi (of_decide_eq_true hc3)
      obtain ⟨S4,e4,hR4,_⟩:=hR2.put_out 0 (by simp) (iA ((i : Int) + 1)) rfl
      rw [←hk] at hR4
      have hwi' : IntKind.wrap .i64 ((i : Int) + 1) = (i : Int) + 1:=by rw [hwi]; omega
      simp only [k0,k2,k4,k5,k10,hwi',e4,kB,kZ,kD,kE,xn,xi,xm,xe,xf,xg,xh,xl,xk,xj,reduceIte,reduceCtorEq,ya,xz,xu]
      exact ⟨n - 1,by omega,i + 1,by omega,by rw [Int.natCast_add]; rfl,hR4⟩
    · have hk:=kF_miss (of_decide_eq_false hc3)
      rw [←hk] at hR2
      simp only [k0,k2,k4,k5,k10,hwi,kB,kZ,kD,kE,xn,xi,xm,xe,xf,xg,xh,xl,xk,xj,reduceIte,reduceCtorEq,ya,xz,xu]
      exact ⟨n - 1,by omega,i + 1,by omega,rfl,hR2⟩
  clear hR k0 k2 k4 k5
  rintro e s ⟨k0,k2,k4,k5,hR⟩
  rw [kF_all] at hR
  have x0:=hR.out1 0
  simp only [List.getElem?_cons_zero] at x0
  obtain ⟨S3,f1,f2,f3⟩:=hR.fin (q:=[iA 0,iA 0,iA 0,iA 0,iA 0,iA 0,iA 0]) rfl rfl
  unfold tailR
  dsimp only
  cases hk : idxK w with
  | none =>
    rw [hk] at hR x0
    simp only [Option.getD_none] at hR x0
    simp only [k0,k2,k4,k5,x0,f1,f2,kB,kZ,kD,kE,xn,xi,xm,xe,xf,xg,xh,xl,xk,xj,reduceIte,reduceCtorEq,ya,xz,xu]
    exact ⟨⟨0,0,0,0,0,0,0⟩,rfl,fun x hx=>hx.elim,f3⟩
  | some k =>
  rw [hk] at hR x0
  simp only [Option.getD_some] at hR x0
  clear f1 f2 f3 S3
  obtain ⟨ho,hnm⟩:=idxK_some hk
  have hkb:=oneK_bnd ho
  have hk0 : decide (k = 0) = false:=decide_eq_false (by omega)
  have oN:=hR.outN rfl
  simp only [k0,k2,k4,k5,x0,hk0,oN,kB,kZ,kD,kE,xn,xi,xm,xe,xf,xg,xh,xl,xk,xj,reduceIte,reduceCtorEq,ya,xz,xu]
  refine callO_own (w_r07_Operands h.toOn ⟨k,d,0,0,0,0,g⟩) ?_
  intro w2 m2 hown2
  have hlw:=hown2.arr.len
  simp only [List.length_map] at hlw
  have hcn : (operL ⟨k,d,0,0,0,0,g⟩).length + b2 (hasN k) = cntK k:=by
    have:=arg_len ⟨k,d,0,0,0,0,g⟩
    unfold argL at this
    rw [←this,List.length_append]
    congr 1
    show _ = (if hasN k then [_] else []).length
    cases hasN k<;>rfl
  have hc10 : cntK k≤10:=by have:=operL_len ⟨k,d,0,0,0,0,g⟩; have:=b2_le (hasN k); omega
  have hR1:=hR.app m2
  have y0:=hR1.out1 0
  simp only [List.getElem?_cons_zero] at y0
  generalize s++m2 = S1 at *
  generalize (operL ⟨k,d,0,0,0,0,g⟩).length = L at *
  clear hown2 oN x0 hR m2
  simp only [k0,k2,k4,k5,hlw,y0,kB,kZ,kD,kE,xn,xi,xm,xe,xf,xg,xh,xl,xk,xj,reduceIte,reduceCtorEq,ya,xz,xu]
  refine callO_same (j_r07_HasN h.toOn k) ?_
  have hNe : (decide (k = 1) || arrK k || cellK k || decide (k = 21)) = hasN k:=rfl
  rw [hNe]
  simp only [k0,k2,k4,k5,kB,kZ,kD,kE,xn,xi,xm,xe,xf,xg,xh,xl,xk,xj,reduceIte,reduceCtorEq,ya,xz,xu]
  refine anyCond m0 (fun e s=>s = S1∧e 0 = sA line∧e 2 = .ptr rb 0∧e 4 = .ptr ob 0∧e 5 = lv∧e 11 = iA (cntK k)) ?_ ?_
  · refine condO_intro ?_ ?_<;>intro hc
    · have hb : b2 (hasN k) = 1:=by rw [hc]; rfl
      have hwi : IntKind.wrap .i64 ((L : Int) + 1) = (cntK k : Int):=by rw [wrap_small (by omega) (by omega)]; omega
      simp only [k0,k2,k4,k5,hwi,kB,kZ,kD,kE,xn,xi,xm,xe,xf,xg,xh,xl,xk,xj,reduceIte,reduceCtorEq,ya,xz,xu]
    · have hb : b2 (hasN k) = 0:=by rw [hc]; rfl
      have hwi : (L : Int) = (cntK k : Int):=by omega
      simp only [k0,k2,k4,k5,hwi,kB,kZ,kD,kE,xn,xi,xm,xe,xf,xg,xh,xl,xk,xj,reduceIte,reduceCtorEq,ya,xz,xu]
  clear k0 k2 k4 k5
  rintro e s ⟨rfl,k0,k2,k4,k5,k11⟩
  obtain ⟨lo,hi,hss⟩:=hR1.strs
  simp only [k0,k2,k4,k5,k11,kB,kZ,kD,kE,xn,xi,xm,xe,xf,xg,xh,xl,xk,xj,reduceIte,reduceCtorEq,ya,xz,xu]
  refine opR_sufS (n:=1) (by simp only [kB,kZ,kD,kE,xn,xi,xm,xe,xf,xg,xh,xl,xk,xj,reduceIte,reduceCtorEq,ya,xz,xu]) rfl hss (by simp) ?_
  intro w3 hw3 hbw3
  rw [←List.map_drop] at hw3
  simp only [List.drop_succ_cons,List.drop_zero] at hw3
  simp only [k0,k2,k4,k5,k11,kB,kZ,kD,kE,xn,xi,xm,xe,xf,xg,xh,xl,xk,xj,reduceIte,reduceCtorEq,ya,xz,xu]
  refine wpF.mono (w_r07_numbers h (hR1.gb hg) hw3 (fun p hp=>by have:=hpl p hp; omega) (by omega) (cntK k) hc10) ?_
  rintro r S2 ⟨w4,m4,rfl,rfl,hown⟩
  refine ⟨kept_app _ _ _ _,?_⟩
  have hR2:=hR1.app m4
  have hob:=hR1.ord.2.2
  obtain ⟨S3,f1,f2,f3⟩:=hR2.fin (q:=[iA 0,iA 0,iA 0,iA 0,iA 0,iA 0,iA 0]) rfl rfl
  generalize hnn : nums t (cntK k) = N at *
  cases N with
  | none =>
    simp only [Option.isSome_none,k0,k2,k4,k5,k11,f1,f2,kB,kZ,kD,kE,xn,xi,xm,xe,xf,xg,xh,xl,xk,xj,reduceIte,reduceCtorEq,ya,xz,xu]
    exact ⟨⟨0,0,0,0,0,0,0⟩,rfl,fun x hx=>hx.elim,f3⟩
  | some n =>
  obtain ⟨_,hnl,hnI⟩:=nums_some hnn
  replace hown:=hown n rfl
  have hlw4:=hown.arr.len
  simp only [List.length_map,hnl] at hlw4
  clear f1 f2 f3 S3 hw3 hss hbw3
  have y0:=hR2.out1 0
  simp only [List.getElem?_cons_zero] at y0
  have hXI:=mk_I (g:=g) ho hgI hdI hnI
  obtain ⟨hch1,hch2⟩:=has_chain k
  have hcA : hasA k = true→1≤cntK k:=fun e=>by unfold cntK; rw [e]; simp only [b2,if_true]; omega
  have hcB : hasB k = true→2≤cntK k:=fun e=>by unfold cntK; rw [hch1 e,e]; simp only [b2,if_true]; omega
  have hcC : hasC k = true→3≤cntK k:=fun e=>by unfold cntK; rw [hch1 (hch2 e),hch2 e,e]; simp only [b2,if_true]; omega
  have hcN : hasN k = true→1≤cntK k:=fun e=>by unfold cntK; rw [e]; simp only [b2,if_true]; omega
  simp only [Option.isSome_some,k0,k2,k4,k5,k11,y0,kB,kZ,kD,kE,xn,xi,xm,xe,xf,xg,xh,xl,xk,xj,reduceIte,reduceCtorEq,ya,xz,xu]
  generalize s++m4 = S2 at *
  generalize hlo4 : s.length = lo4 at *
  clear hR1 k11 y0
  refine callO_same (j_r07_HasN h.toOn k) ?_
  rw [hNe]
  simp only [k0,k2,k4,k5,kB,kZ,kD,kE,xn,xi,xm,xe,xf,xg,xh,xl,xk,xj,reduceIte,reduceCtorEq,ya,xz,xu]
  refine anyCond m0 (fun e s=>e 0 = sA line∧e 2 = .ptr rb 0∧e 4 = .ptr ob 0∧e 12 = w4∧OwnS s lo4 w4 1 (rowsI n)∧RQ st s rb ob [iA k,iA d,iA 0,iA 0,iA 0,iA (if hasN k then n.getD (cntK k - 1) 0 else 0),iA g] lv (w :: t)) ?_ ?_
  · refine condO_intro ?_ ?_<;>intro hc
    · have h1:=hcN hc
      have hw1 : IntKind.wrap .i64 ((cntK k : Int) - 1) = ((cntK k - 1 : Nat) : Int):=by rw [wrap_small (by omega) (by omega)]; omega
      obtain ⟨bn,on,gn,pn,_⟩:=ser_at hown (cntK k - 1) (by omega)
      have pn:=pn []
      simp only [List.append_nil] at pn
      obtain ⟨S4,e4,hR4,hag⟩:=hR2.put_out 5 (by simp) (iA (n.getD (cntK k - 1) 0)) rfl
      have ho4:=hown.agree hag fun b hb hx=>by have:=(hown.bnd b hb).1; omega
      simp only [k0,k2,k4,k5,hlw4,hw1,gn,pn,e4,kB,kZ,kD,kE,xn,xi,xm,xe,xf,xg,xh,xl,xk,xj,reduceIte,reduceCtorEq,ya,xz,xu]
      rw [if_pos hc]
      exact ⟨ho4,hR4⟩
    · simp only [k0,k2,k4,k5,kB,kZ,kD,kE,xn,xi,xm,xe,xf,xg,xh,xl,xk,xj,reduceIte,reduceCtorEq,ya,xz,xu]
      rw [if_neg (by rw [hc]; decide)]
      exact ⟨hown,hR2⟩
  clear k0 k2 k4 k5 hR2 hown
  generalize hzN : (if hasN k = true then n.getD (cntK k - 1) 0 else 0) = zN at *
  rintro e s' ⟨k0,k2,k4,k12,hown,hR2⟩
  have y0:=hR2.out1 0
  simp only [List.getElem?_cons_zero] at y0
  simp only [k0,k2,k4,k12,y0,kB,kZ,kD,kE,xn,xi,xm,xe,xf,xg,xh,xl,xk,xj,reduceIte,reduceCtorEq,ya,xz,xu]
  refine callO_same (j_r07_HasA h.toOn k) ?_
  simp only [k0,k2,k4,k12,kB,kZ,kD,kE,xn,xi,xm,xe,xf,xg,xh,xl,xk,xj,reduceIte,reduceCtorEq,ya,xz,xu]
  refine anyCond m0 (fun e s=>e 0 = sA line∧e 2 = .ptr rb 0∧e 4 = .ptr ob 0∧e 12 = w4∧OwnS s lo4 w4 1 (rowsI n)∧RQ st s rb ob [iA k,iA d,iA (if hasA k then n.getD 0 0 else 0),iA 0,iA 0,iA zN,iA g] lv (w :: t)) ?_ ?_
  · refine condO_intro ?_ ?_<;>intro hc
    · obtain ⟨bn,on,gn,pn,_⟩:=ser_at hown 0 (by have:=hcA hc; omega)
      have pn:=pn []
      simp only [List.append_nil] at pn
      simp only [Int.natCast_zero] at gn
      obtain ⟨S4,e4,hR4,hag⟩:=hR2.put_out 2 (by simp) (iA (n.getD 0 0)) rfl
      have ho4:=hown.agree hag fun b hb hx=>by have:=(hown.bnd b hb).1; omega
      simp only [k0,k2,k4,k12,gn,pn,e4,kB,kZ,kD,kE,xn,xi,xm,xe,xf,xg,xh,xl,xk,xj,reduceIte,reduceCtorEq,ya,xz,xu]
      rw [if_pos hc]
      exact ⟨ho4,hR4⟩
    · simp only [k0,k2,k4,k12,kB,kZ,kD,kE,xn,xi,xm,xe,xf,xg,xh,xl,xk,xj,reduceIte,reduceCtorEq,ya,xz,xu]
      rw [if_neg (by rw [hc]; decide)]
      exact ⟨hown,hR2⟩
  clear k0 k2 k4 k12 hR2 hown y0
  generalize hzA : (if hasA k = true then n.getD 0 0 else 0) = zA at *
  rintro e s' ⟨k0,k2,k4,k12,hown,hR2⟩
  have y0:=hR2.out1 0
  simp only [List.getElem?_cons_zero] at y0
  simp only [k0,k2,k4,k12,y0,kB,kZ,kD,kE,xn,xi,xm,xe,xf,xg,xh,xl,xk,xj,reduceIte,reduceCtorEq,ya,xz,xu]
  refine callO_same (j_r07_HasB h.toOn k) ?_
  simp only [k0,k2,k4,k12,kB,kZ,kD,kE,xn,xi,xm,xe,xf,xg,xh,xl,xk,xj,reduceIte,reduceCtorEq,ya,xz,xu]
  refine anyCond m0 (fun e s=>e 0 = sA line∧e 2 = .ptr rb 0∧e 4 = .ptr ob 0∧e 12 = w4∧OwnS s lo4 w4 1 (rowsI n)∧RQ st s rb ob [iA k,iA d,iA zA,iA (if hasB k then n.getD 1 0 else 0),iA 0,iA zN,iA g] lv (w :: t)) ?_ ?_
  · refine condO_intro ?_ ?_<;>intro hc
    · obtain ⟨bn,on,gn,pn,_⟩:=ser_at hown 1 (by have:=hcB hc; omega)
      have pn:=pn []
      simp only [List.append_nil] at pn
      simp only [Int.cast_ofNat_Int] at gn
      obtain ⟨S4,e4,hR4,hag⟩:=hR2.put_out 3 (by simp) (iA (n.getD 1 0)) rfl
      have ho4:=hown.agree hag fun b hb hx=>by have:=(hown.bnd b hb).1; omega
      simp only [k0,k2,k4,k12,gn,pn,e4,kB,kZ,kD,kE,xn,xi,xm,xe,xf,xg,xh,xl,xk,xj,reduceIte,reduceCtorEq,ya,xz,xu]
      rw [if_pos hc]
      exact ⟨ho4,hR4⟩
    · simp only [k0,k2,k4,k12,kB,kZ,kD,kE,xn,xi,xm,xe,xf,xg,xh,xl,xk,xj,reduceIte,reduceCtorEq,ya,xz,xu]
      rw [if_neg (by rw [hc]; decide)]
      exact ⟨hown,hR2⟩
  clear k0 k2 k4 k12 hR2 hown y0
  generalize hzB : (if hasB k = true then n.getD 1 0 else 0) = zB at *
  rintro e s' ⟨k0,k2,k4,k12,hown,hR2⟩
  have y0:=hR2.out1 0
  simp only [List.getElem?_cons_zero] at y0
  simp only [k0,k2,k4,k12,y0,kB,kZ,kD,kE,xn,xi,xm,xe,xf,xg,xh,xl,xk,xj,reduceIte,reduceCtorEq,ya,xz,xu]
  refine callO_same (j_r07_HasC h.toOn k) ?_
  simp only [k0,k2,k4,k12,kB,kZ,kD,kE,xn,xi,xm,xe,xf,xg,xh,xl,xk,xj,reduceIte,reduceCtorEq,ya,xz,xu]
  refine anyCond m0 (fun e s=>e 0 = sA line∧e 2 = .ptr rb 0∧e 4 = .ptr ob 0∧RQ st s rb ob [iA k,iA d,iA zA,iA zB,iA (if hasC k then n.getD 2 0 else 0),iA zN,iA g] lv (w :: t)) ?_ ?_
  · refine condO_intro ?_ ?_<;>intro hc
    · obtain ⟨bn,on,gn,pn,_⟩:=ser_at hown 2 (by have:=hcC hc; omega)
      have pn:=pn []
      simp only [List.append_nil] at pn
      simp only [Int.cast_ofNat_Int] at gn
      obtain ⟨S4,e4,hR4,hag⟩:=hR2.put_out 4 (by simp) (iA (n.getD 2 0)) rfl
      simp only [k0,k2,k4,k12,gn,pn,e4,kB,kZ,kD,kE,xn,xi,xm,xe,xf,xg,xh,xl,xk,xj,reduceIte,reduceCtorEq,ya,xz,xu]
      rw [if_pos hc]
      exact hR4
    · simp only [k0,k2,k4,k12,kB,kZ,kD,kE,xn,xi,xm,xe,xf,xg,xh,xl,xk,xj,reduceIte,reduceCtorEq,ya,xz,xu]
      rw [if_neg (by rw [hc]; decide)]
      exact hR2
  clear k0 k2 k4 k12 hR2 hown y0
  rintro e s' ⟨k0,k2,k4,hR2⟩
  have hrow : ([iA k,iA d,iA zA,iA zB,iA (if hasC k then n.getD 2 0 else 0),iA zN,iA g] : List AV) = (mkOp k g d n).row:=by rw [←hzN,← hzA,← hzB]; rfl
  rw [hrow] at hR2
  have hko : oneK (mkOp k g d n).k = true:=ho
  generalize mkOp k g d n = oo at *
  have oN:=hR2.outN rfl
  obtain ⟨S3,f1,f2,f3⟩:=hR2.fin (q:=oo.row) rfl rfl
  have d1:=fun ox oy=>k_eq X.P ox oy (opX oo) line
  simp only [k0,k2,k4,oN,kB,kZ,kD,kE,xn,xi,xm,xe,xf,xg,xh,xl,xk,xj,reduceIte,reduceCtorEq,ya,xz,xu]
  refine callO_same (j_r07_opText h (hR2.gb hg) oo hko hXI) ?_
  generalize hX : opX oo = T at *
  obtain ⟨k',d',a',b',c',n',g'⟩:=oo
  simp only [OpV.row] at oN f1 f2
  simp only [OpV.row,k0,k2,k4,oN,d1,f1,f2,kB,kZ,kD,kE,xn,xi,xm,xe,xf,xg,xh,xl,xk,xj,reduceIte,reduceCtorEq,ya,xz,xu]
  refine ⟨⟨k',d',a',b',c',n',g'⟩,?_,?_,f3⟩
  · by_cases he : T = line
    · rw [if_pos he]; simp [he]
    · rw [if_neg he]; simp [he]
  · intro x hx
    by_cases he : T = line
    · rw [if_pos he] at hx; cases hx; rfl
    · rw [if_neg he] at hx; cases hx
end
end Go.VX.Seat
end
section
set_option maxRecDepth 4000
namespace Go.VX.Seat
open Go.Proofs Go.Lib
theorem splice_mid (A B : List AV) (x y : List AV) (m m' : List AV) (hm : m.length = m'.length) : splice (A++(x++m++y)++B) A.length (x++m'++y) = splice (A++(x++m++y)++B) (A.length + x.length) m':=by
  unfold splice
  have e1 : (A++(x++m++y)++B).take A.length = A:=by simp
  have e2 : (A++(x++m++y)++B).drop (A.length + (x++m'++y).length) = B:=by
    rw [show A.length + (x++m'++y).length = (A++(x++m++y)).length by simp [hm],List.drop_left]
  have e3 : (A++(x++m++y)++B).take (A.length + x.length) = A++x:=by
    rw [show A++(x++m++y)++B = (A++x)++(m++y++B) by simp,show A.length + x.length = (A++x).length by simp,List.take_left]
  have e4 : (A++(x++m++y)++B).drop (A.length + x.length + m'.length) = y++B:=by
    rw [show A++(x++m++y)++B = (A++x++m)++(y++B) by simp,show A.length + x.length + m'.length = (A++x++m).length by simp only [List.length_append,hm],List.drop_left]
  rw [e1,e2,e3,e4]
  simp
theorem put_mid {s : St} {b o : Nat} {x m m' y : List AV} (hN : St.atN s b o (x++m++y).length = some (x++m++y)) (hm : m.length = m'.length) (hx : x.all AV.isCell = true) (hy : y.all AV.isCell = true) {s' : St} (h : s.put b (o + x.length) m' = some s') : s.put b o (x++m'++y) = some s':=by
  unfold St.put at h ⊢
  cases hb : s[b]? with
  | none=>rw [hb] at h; cases h
  | some bx =>
    rw [hb] at h
    dsimp only at h ⊢
    split at h
    · rename_i hc
      obtain ⟨h1,h2,h3⟩:=hc
      have hat : (bx.cells.drop o).take (x++m++y).length = x++m++y∧o + (x++m++y).length≤bx.cells.length:=by
        unfold St.atN at hN
        rw [hb] at hN
        simp only [show ¬ 2≤bx.mode by omega,if_false] at hN
        by_cases hq : o + (x++m++y).length≤bx.cells.length
        · rw [if_pos hq] at hN
          exact ⟨Option.some.inj hN,hq⟩
        · rw [if_neg hq] at hN
          cases hN
      obtain ⟨q1,q2⟩:=hat
      have hcs : bx.cells = bx.cells.take o++(x++m++y)++bx.cells.drop (o + (x++m++y).length):=by
        have e1:=List.take_append_drop o bx.cells
        have e2:=List.take_append_drop (x++m++y).length (bx.cells.drop o)
        rw [q1,List.drop_drop] at e2
        rw [List.append_assoc,e2,e1]
      have hA : (bx.cells.take o).length = o:=by rw [List.length_take]; omega
      rw [if_pos ⟨h1,by simp only [List.length_append] at q2 ⊢; omega,by rw [List.all_append,List.all_append,hx,hy,h3]; rfl⟩,← h]
      congr 2
      have:=splice_mid (bx.cells.take o) (bx.cells.drop (o + (x++m++y).length)) x y m m' hm
      rw [←hcs,hA] at this
      rw [this]
    · cases h
theorem put_comm {s s1 s2 : St} {a b o1 o2 : Nat} {v1 v2 : List AV} (h1 : s.put a o1 v1 = some s1) (h2 : s.put b o2 v2 = some s2) (hne : a≠b) : ∃ s3,s1.put b o2 v2 = some s3∧Agree (fun n=>n = a) s2 s3:=by
  unfold St.put at h1 h2
  cases ha : s[a]? with
  | none=>rw [ha] at h1; cases h1
  | some xa =>
    cases hb : s[b]? with
    | none=>rw [hb] at h2; cases h2
    | some xb =>
      rw [ha] at h1
      rw [hb] at h2
      dsimp only at h1 h2
      split at h1
      · split at h2
        · rename_i q2
          cases h1
          cases h2
          refine ⟨_,?_,Agree.set (s:=s.set b { xb with cells:=splice xb.cells o2 v2,ver:=xb.ver + 1 }) a { xa with cells:=splice xa.cells o1 v1,ver:=xa.ver + 1 }⟩
          unfold St.put
          rw [List.getElem?_set_ne hne,hb]
          dsimp only
          rw [if_pos q2,List.set_comm _ _ (fun e=>hne e)]
        · cases h2
      · cases h1
structure QS (st s : St) (sb ub lo : Nat) (σ : Int) (sz bl : AV) (f : Nat→AV) (U : UnitV) : Prop where
  pre : ∃ m,s = st++m
  sbox : ∃ ver,s[sb]? = some ⟨[iA σ],0,ver⟩
  ord : st.length≤sb∧st.length≤ub∧sb≠ub∧sb < lo∧ub < lo∧lo≤s.length
  u : UPtr s ub lo sz bl f U
section
variable {st s : St} {sb ub lo : Nat} {σ : Int} {sz bl : AV} {f : Nat→AV} {U : UnitV}
theorem QS.gb (h : QS st s sb ub lo σ sz bl f U) (hg : GB st) : GB s:=by
  obtain ⟨m,e⟩:=h.pre
  rw [e]
  exact hg.app m
theorem QS.app (h : QS st s sb ub lo σ sz bl f U) (L : St) : QS st (s++L) sb ub lo σ sz bl f U:=by
  obtain ⟨⟨m,hm⟩,⟨v,hl⟩,hord,hu⟩:=h
  refine ⟨⟨m++L,by rw [hm,List.append_assoc]⟩,⟨v,by rw [List.getElem?_append_left (List.getElem?_eq_some_iff.1 hl).1]; exact hl⟩,?_,hu.agree (Agree.app (fun _=>False) s L) (fun h=>h) (fun _ _ _ h=>h)⟩
  simp only [List.length_append]
  omega
theorem QS.st0 (h : QS st s sb ub lo σ sz bl f U) : St.at1 s sb 0 = some (iA σ):=by
  obtain ⟨_,hb⟩:=h.sbox
  exact at1_box hb (by decide) 0
theorem QS.to (h : QS st s sb ub lo σ sz bl f U) (τ : Int) : ∃ s',s.put sb 0 [iA τ] = some s'∧QS st s' sb ub lo τ sz bl f U:=by
  obtain ⟨⟨m,hm⟩,⟨v,hl⟩,hord,hu⟩:=h
  obtain ⟨s',e1,e2,e3⟩:=put_one hl 0 (by simp) (iA τ) rfl
  refine ⟨s',e1,⟨e3.ext ⟨m,hm⟩ fun b hb hx=>by omega,⟨_,e2⟩,?_,hu.agree e3 (by omega) fun b hb hlt hx=>by have:=(hu.ubox hb).1; omega⟩⟩
  have:=e3.len
  omega
theorem QS.upd (h : QS st s sb ub lo σ sz bl f U) {X : Nat→Prop} {s' : St} {sz' bl' : AV} {f' : Nat→AV} {U' : UnitV} (ha : Agree X s s') (hX : ∀ b,b < s.length→X b→b = ub∨lo≤b) (hu : UPtr s' ub lo sz' bl' f' U') : QS st s' sb ub lo σ sz' bl' f' U':=by
  obtain ⟨⟨m,hm⟩,⟨v,hl⟩,hord,_⟩:=h
  have hll:=(List.getElem?_eq_some_iff.1 hl).1
  refine ⟨ha.ext ⟨m,hm⟩ fun b hb hx=>?_,⟨v,ha.box hl fun hx=>?_⟩,?_,hu⟩
  · by_cases hbs : b < s.length
    · have:=hX b hbs hx; omega
    · rw [hm] at hbs; simp at hbs; omega
  · have:=hX sb hll hx; omega
  · have:=ha.len; omega
end
def sT (σ : Int) : Nat:=if σ = 2 then 1 else σ.toNat
def stOk (σ : Int) (U : UnitV) : Prop:=(σ = 0∧U.blocks = [])∨(σ = 1∧U.blocks = [])∨(σ = 2∧U.blocks≠[])∨(σ = 3∧U.blocks≠[])
def StepTo (st : St) (sb ub lo : Nat) (σ : Int) (U : UnitV) (n : Nat) (line : List UInt8) (r : CRes) (s' : St) : Prop:=∃ ok,r = .ret (bA ok)∧(∃ m,s' = st++m)∧(ok = false→stepL (sT σ) U line = none)∧(ok = true→∃ (τ : Int) (sz bl : AV) (f : Nat→AV) (V : UnitV),QS st s' sb ub lo τ sz bl f V∧stepL (sT σ) U line = some (sT τ,V)∧stOk τ V∧Small V n)
section
variable {X : Cx} {st : St}
theorem j_HasPrefixS (h : OnH X) (l : List UInt8) : J X.P X.F X.H (.call 83 [sA l,sA [32,32]] st (.ret (bA (decide (l.take 2 = [32,32])))) st):=by
  refine pure_intro (by rw [h.F]; rfl) rfl ?_
  simp only [v_strings_HasPrefix,kB,kZ,kD,kE,xn,xi,xm,xe,xf,xg,xh,xl,xk,xj,reduceIte,reduceCtorEq,ya,xz,xu]
  refine callO_same (j_HasPrefix2 (st:=st++[]) h l) ?_
  simp only [kB,kZ,kD,kE,xn,xi,xm,xe,xf,xg,xh,xl,xk,xj,reduceIte,reduceCtorEq,ya,xz,xu]
  first | exact ⟨_,rfl⟩ | exact ⟨rfl,_,rfl⟩ | exact ⟨trivial,_,rfl⟩ | exact ⟨[],(List.append_nil _).symm⟩
set_option maxHeartbeats 4000000 in
theorem w_u0_0 (h : OnH X) (hg : GB st) {s0 : St} {sb ub lo n : Nat} {sz bl : AV} {f : Nat→AV} {U : UnitV} (hP0 : QS st s0 sb ub lo 0 sz bl f U) (line : List UInt8) (hl : line.length≤2400000) (hS : Small U (n + 1)) (hU : U.blocks = []) :
    wpF X 48 [.ptr ub 0,.ptr sb 0,sA line] s0 (StepTo st sb ub lo 0 U n line):=by
  refine wpF_go (fn:=v_r07_u0) (by rw [h.F]; rfl) ?_
  rw [List.append_nil]
  have x0:=hP0.st0
  have eu : (#[117,110,105,116] : Array UInt8) = w_unit.toArray:=rfl
  simp only [v_r07_u0,x0,Int.reduceEq,kB,kZ,kD,kE,xn,xi,xm,xe,xf,xg,xh,xl,xk,xj,reduceIte,reduceCtorEq,ya,xz,xu]
  refine wpF.mono (w_r07_headed h (hP0.gb hg) line w_unit (by omega) 4 (by omega)) ?_
  rintro r s1 ⟨w,m,rfl,rfl,hw⟩
  refine ⟨kept_app _ _ _ _,?_⟩
  have hP1:=hP0.app m
  have hs0 : lo≤s0.length:=hP0.ord.2.2.2.2.2
  cases hH : headP line w_unit 4 with
  | none =>
    simp only [Option.isSome_none,kB,kZ,kD,kE,xn,xi,xm,xe,xf,xg,xh,xl,xk,xj,reduceIte,reduceCtorEq,ya,xz,xu]
    exact ⟨false,rfl,hP1.pre,fun _=>step0_none hH,fun e=>by cases e⟩
  | some nn =>
    have hw:=hw nn hH
    obtain ⟨hnl,hnI⟩:=headP_len hH
    obtain ⟨b0,o0,g0,p0,q0⟩:=ser_at hw 0 (by omega)
    obtain ⟨b1,o1,g1,p1,q1⟩:=ser_at hw 1 (by omega)
    obtain ⟨b2,o2,g2,p2,q2⟩:=ser_at hw 2 (by omega)
    obtain ⟨b3,o3,g3,p3,q3⟩:=ser_at hw 3 (by omega)
    have p0:=p0 []
    have p1:=p1 []
    have p2:=p2 []
    have p3:=p3 []
    simp only [List.append_nil] at p0 p1 p2 p3
    simp only [Int.natCast_zero,Int.cast_ofNat_Int] at g0 g1 g2 g3
    generalize s0++m = s1 at *
    obtain ⟨s2,e1,a1,u1⟩:=hP1.u.num 1 (by omega) (nn.getD 0 0)
    have hP2:=hP1.upd a1 (fun b _ hb=>.inl hb) u1
    obtain ⟨s3,e2,a2,u2⟩:=u1.num 2 (by omega) (nn.getD 1 0)
    have hP3:=hP2.upd a2 (fun b _ hb=>.inl hb) u2
    obtain ⟨s4,e3,a3,u3⟩:=u2.num 3 (by omega) (nn.getD 2 0)
    have hP4:=hP3.upd a3 (fun b _ hb=>.inl hb) u3
    obtain ⟨s5,e4,a4,u4⟩:=u3.num 4 (by omega) (nn.getD 3 0)
    have hP5:=hP4.upd a4 (fun b _ hb=>.inl hb) u4
    obtain ⟨s6,e5,hP6⟩:=hP5.to 1
    simp only [Option.isSome_some,g0,g1,g2,g3,p0,p1,p2,p3,e1,e2,e3,e4,e5,kB,kZ,kD,kE,xn,xi,xm,xe,xf,xg,xh,xl,xk,xj,reduceIte,reduceCtorEq,ya,xz,xu]
    refine ⟨true,rfl,hP6.pre,(fun e=>by cases e),fun _=>⟨1,sz,bl,f,_,hP6,step0_some hH,.inr (.inl ⟨rfl,hU⟩),?_⟩⟩
    exact ⟨by have:=hS.sizes; show U.sizes.length + n≤_; omega,by have:=hS.blocks; show U.blocks.length + n≤_; omega,fun b hb=>by have:=hS.ops b hb; omega⟩
set_option maxHeartbeats 4000000 in
theorem w_u0_12 (h : OnH X) (hg : GB st) {s0 : St} {sb ub lo n : Nat} {σ : Int} {sz bl : AV} {f : Nat→AV} {U : UnitV} (hP0 : QS st s0 sb ub lo σ sz bl f U) (line : List UInt8) (hl : line.length≤2400000) (hS : Small U (n + 1)) (hU : (σ = 1∧U.blocks = [])∨(σ = 2∧U.blocks≠[])) :
    wpF X 48 [.ptr ub 0,.ptr sb 0,sA line] s0 (StepTo st sb ub lo σ U n line):=by
  refine wpF_go (fn:=v_r07_u0) (by rw [h.F]; rfl) ?_
  rw [List.append_nil]
  have x0:=hP0.st0
  have eu : (#[97,114,114,97,121] : Array UInt8) = w_array.toArray:=rfl
  have eb : (#[98,108,111,99,107] : Array UInt8) = w_block.toArray:=rfl
  have d0 : decide (σ = 0) = false:=decide_eq_false (by omega)
  have d3 : decide (σ = 3) = false:=decide_eq_false (by omega)
  have hsT : sT σ = 1:=by rcases hU with ⟨rfl,_⟩ | ⟨rfl,_⟩<;>rfl
  have hd1 : decide (σ = 1) = decide (U.blocks.length = 0):=by
    rcases hU with ⟨rfl,hb⟩ | ⟨rfl,hb⟩
    · rw [hb]; rfl
    · rw [decide_eq_false (by decide),decide_eq_false]; intro e; exact hb (List.length_eq_zero_iff.1 e)
  simp only [v_r07_u0,x0,d0,d3,kB,kZ,kD,kE,xn,xi,xm,xe,xf,xg,xh,xl,xk,xj,reduceIte,reduceCtorEq,ya,xz,xu]
  refine wpF.mono (w_r07_headed h (hP0.gb hg) line w_array (by omega) 1 (by omega)) ?_
  rintro r s1 ⟨wa,m1,rfl,rfl,hwa⟩
  refine ⟨kept_app _ _ _ _,?_⟩
  have hP1:=hP0.app m1
  have hs1 : lo≤s0.length:=hP0.ord.2.2.2.2.2
  have x1:=hP1.st0
  have c0:=hP1.u.cells 0
  simp only [kB,kZ,kD,kE,xn,xi,xm,xe,xf,xg,xh,xl,xk,xj,reduceIte,reduceCtorEq,ya,xz,xu]
  refine anyG (T:=fun q=>q) m0 (fun e s'=>s' = s0++m1∧e 0 = .ptr ub 0∧e 1 = .ptr sb 0∧e 2 = sA line∧e 16 = wa∧e 129 = bA (if U.blocks.length = 0 then headP line w_array 1 else none).isSome) ?_ ?_
  · cases hA : headP line w_array 1 with
    | none =>
      have : (if U.blocks.length = 0 then (none : Option (List Int)) else none) = none:=by split<;>rfl
      simp only [this,Option.isSome_none,kB,kZ,kD,kE,xn,xi,xm,xe,xf,xg,xh,xl,xk,xj,reduceIte,reduceCtorEq,ya,xz,xu]
    | some na =>
      have : bA (if U.blocks.length = 0 then some na else none).isSome = bA (decide (U.blocks.length = 0)):=by
        by_cases h0 : U.blocks.length = 0
        · rw [if_pos h0,decide_eq_true h0]; rfl
        · rw [if_neg h0,decide_eq_false h0]; rfl
      rw [this]
      simp only [Option.isSome_some,x1,hd1,kB,kZ,kD,kE,xn,xi,xm,xe,xf,xg,xh,xl,xk,xj,reduceIte,reduceCtorEq,ya,xz,xu]
  rintro e s' ⟨rfl,k0,k1,k2,k16,k129⟩
  generalize hS3 : s0++m1 = S3 at *
  have hs3 : lo≤S3.length:=hP1.ord.2.2.2.2.2
  cases hArr : (if U.blocks.length = 0 then headP line w_array 1 else none) with
  | some na =>
    have h0 : U.blocks.length = 0:=by
      by_cases h0 : U.blocks.length = 0
      · exact h0
      · rw [if_neg h0] at hArr; cases hArr
    have hst : stepL 1 U line = some (1,{ U with sizes:=U.sizes++[na.getD 0 0] }):=by rw [if_pos h0] at hArr; exact step1_arr h0 hArr
    rw [if_pos h0] at hArr
    have hσ : σ = 1:=by rcases hU with ⟨e,_⟩ | ⟨_,hb⟩; exact e; exact absurd (List.length_eq_zero_iff.1 h0) hb
    have hw1:=hwa na hArr
    obtain ⟨hnl,_⟩:=headP_len hArr
    obtain ⟨b0,o0,g0,p0,_⟩:=ser_at hw1 0 (by omega)
    have p0:=p0 []
    simp only [List.append_nil] at p0
    simp only [Int.natCast_zero] at g0
    have c0' : St.at1 S3 ub 0 = some sz:=c0
    rw [hArr,if_pos h0] at k129
    simp only [Option.isSome_some] at k129
    simp only [k0,k1,k2,k16,k129,c0',g0,p0,kB,kZ,kD,kE,xn,xi,xm,xe,xf,xg,xh,xl,xk,xj,reduceIte,reduceCtorEq,ya,xz,xu]
    have hP4:=hP1.app [⟨[iA (na.getD 0 0)],0,0⟩]
    have hrow : ArrAt (S3++[⟨[iA (na.getD 0 0)],0,0⟩]) S3.length (S3.length + 1) (.sl S3.length 0 1 1 true) 1 [[iA (na.getD 0 0)]]:=ArrAt.ofBox (mode:=0) (ver:=0) (by simp) (by decide) (fun r hr=>by rw [List.mem_singleton.1 hr]; rfl) rfl
    have hsz:=hS.sizes
    refine opR_append (vx:=sz) (vy:=.sl S3.length 0 1 1 true) (rows:=U.sizes.map fun n=>[iA n]) (rows2:=[[iA (na.getD 0 0)]]) (lo:=lo) (by simp only [kB,kZ,kD,kE,xn,xi,xm,xe,xf,xg,xh,xl,xk,xj,reduceIte,reduceCtorEq,ya,xz,xu]) (by simp only [kB,kZ,kD,kE,xn,xi,xm,xe,xf,xg,xh,xl,xk,xj,reduceIte,reduceCtorEq,ya,xz,xu]) hP4.u.z.own hP4.ord.2.2.2.2.2 hrow (by simp; omega) rfl ?_
    intro w' s6 hag6 hown6 hcase
    have hw6 : boxOf w' = some (S3++[(⟨[iA (na.getD 0 0)],0,0⟩ : Box)]).length:=by
      rcases hcase with ⟨h1,_⟩ | ⟨_,h1,_⟩
      · cases h1
      · exact h1
    have hag6':=hag6.mono (Y:=fun b=>boxOf sz = some b) fun n _ h=>h.2
    generalize S3++[⟨[iA (na.getD 0 0)],0,0⟩] = S6 at *
    have hown7 : OwnS s6 lo w' 1 ((U.sizes++[na.getD 0 0]).map fun n=>[iA n]):=by rw [List.map_append]; exact hown6
    obtain ⟨s7,hput,hag7,hU7⟩:=hP4.u.addsize hag6' (fun n _ hx=>hx) hown7 hw6
    have hP7:=hP4.upd hag7 (fun b _ hx=>by
      rcases hx with hx | hx
      · exact .inr (hP4.u.ubox (.inl hx)).1
      · exact .inl hx) hU7
    have hcw:=cells_cell (isCell_len hown7.arr.len)
    simp only [k0,k1,k2,k16,hput,hcw,kB,kZ,kD,kE,xn,xi,xm,xe,xf,xg,xh,xl,xk,xj,reduceIte,reduceCtorEq,ya,xz,xu]
    refine ⟨true,rfl,hP7.pre,(fun e=>by cases e),fun _=>⟨σ,w',bl,f,_,hP7,by rw [hsT]; exact hst,.inr (.inl ⟨hσ,List.length_eq_zero_iff.1 h0⟩),?_⟩⟩
    exact ⟨by simp; omega,by have:=hS.blocks; simp only; omega,fun b hb=>by have:=hS.ops b hb; omega⟩
  | none =>
    rw [hArr] at k129
    simp only [Option.isSome_none] at k129
    simp only [k0,k1,k2,k16,k129,kB,kZ,kD,kE,xn,xi,xm,xe,xf,xg,xh,xl,xk,xj,reduceIte,reduceCtorEq,ya,xz,xu]
    refine wpF.mono (w_r07_headed h (hP1.gb hg) line w_block (by omega) 1 (by omega)) ?_
    rintro r s2 ⟨wb,m2,rfl,rfl,hwb⟩
    refine ⟨kept_app _ _ _ _,?_⟩
    have hP2:=hP1.app m2
    have c5:=hP2.u.cells 5
    cases hB : headP line w_block 1 with
    | none =>
      simp only [Option.isSome_none,k0,k1,k2,kB,kZ,kD,kE,xn,xi,xm,xe,xf,xg,xh,xl,xk,xj,reduceIte,reduceCtorEq,ya,xz,xu]
      exact ⟨false,rfl,hP2.pre,fun _=>by rw [hsT]; exact step1_none hArr hB,fun e=>by cases e⟩
    | some n1 =>
      have hw1:=hwb n1 hB
      obtain ⟨hnl,_⟩:=headP_len hB
      obtain ⟨b0,o0,g0,p0,_⟩:=ser_at hw1 0 (by omega)
      have p0:=p0 []
      simp only [List.append_nil] at p0
      simp only [Int.natCast_zero] at g0
      clear hS3
      generalize S3++m2 = S4 at *
      have c5' : St.at1 S4 ub 5 = some bl:=c5
      simp only [Option.isSome_some,k0,k1,k2,c5',g0,p0,kB,kZ,kD,kE,xn,xi,xm,xe,xf,xg,xh,xl,xk,xj,reduceIte,reduceCtorEq,ya,xz,xu]
      have hP4:=hP2.app [⟨[.sc (.slice none 0 0),iA 0,iA 0,iA 0,iA 0,iA (n1.getD 0 0)],0,0⟩]
      have hrow : ArrAt (S4++[⟨[.sc (.slice none 0 0),iA 0,iA 0,iA 0,iA 0,iA (n1.getD 0 0)],0,0⟩]) S4.length (S4.length + 1) (.sl S4.length 0 1 6 true) 6 [(⟨[],⟨0,0,0,0⟩,n1.getD 0 0⟩ : BlkV).row (.sc (.slice none 0 0))]:=ArrAt.ofBox (mode:=0) (ver:=0) (by simp [BlkV.row]) (by decide) (fun r hr=>by rw [List.mem_singleton.1 hr]; rfl) rfl
      have hsb:=hS.blocks
      refine opR_append (vx:=bl) (vy:=.sl S4.length 0 1 6 true) (rows:=blkRows U.blocks f) (rows2:=[(⟨[],⟨0,0,0,0⟩,n1.getD 0 0⟩ : BlkV).row (.sc (.slice none 0 0))]) (lo:=lo) (by simp only [kB,kZ,kD,kE,xn,xi,xm,xe,xf,xg,xh,xl,xk,xj,reduceIte,reduceCtorEq,ya,xz,xu]) (by simp only [kB,kZ,kD,kE,xn,xi,xm,xe,xf,xg,xh,xl,xk,xj,reduceIte,reduceCtorEq,ya,xz,xu]) hP4.u.b.own hP4.ord.2.2.2.2.2 hrow (by rw [blkRows_length]; simp; omega) rfl ?_
      intro w' s6 hag6 hown6 hcase
      have hw6 : boxOf w' = some (S4++[(⟨[.sc (.slice none 0 0),iA 0,iA 0,iA 0,iA 0,iA (n1.getD 0 0)],0,0⟩ : Box)]).length∧ExactBox s6 w' 6 (blkRows U.blocks f++[(⟨[],⟨0,0,0,0⟩,n1.getD 0 0⟩ : BlkV).row (.sc (.slice none 0 0))]):=by
        rcases hcase with ⟨h1,_⟩ | ⟨_,h1,h2⟩
        · cases h1
        · exact ⟨h1,h2⟩
      have hag6':=hag6.mono (Y:=fun b=>boxOf bl = some b) fun n _ h=>h.2
      generalize S4++[⟨[.sc (.slice none 0 0),iA 0,iA 0,iA 0,iA 0,iA (n1.getD 0 0)],0,0⟩] = S6 at *
      obtain ⟨s7,f7,hput,hag7,hU7⟩:=hP4.u.addblk hag6' (fun n _ hx=>hx) rfl hown6 hw6.2 hw6.1
      have hP7:=hP4.upd hag7 (fun b _ hx=>by
        rcases hx with hx | hx
        · exact .inr (hP4.u.ubox (.inr (.inl hx))).1
        · exact .inl hx) hU7
      obtain ⟨s8,e8,hP8⟩:=hP7.to 3
      have hcw:=cells_cell (isCell_len hown6.arr.len)
      simp only [k0,k1,k2,hput,hcw,e8,kB,kZ,kD,kE,xn,xi,xm,xe,xf,xg,xh,xl,xk,xj,reduceIte,reduceCtorEq,ya,xz,xu]
      refine ⟨true,rfl,hP8.pre,(fun e=>by cases e),fun _=>⟨3,sz,w',f7,_,hP8,by rw [hsT]; exact step1_blk hArr hB,.inr (.inr (.inr ⟨rfl,by simp⟩)),?_⟩⟩
      exact ⟨by have:=hS.sizes; simp only; omega,by simp; omega,fun b hb=>by
        rcases List.mem_append.1 hb with hb | hb
        · have:=hS.ops b hb; omega
        · rw [List.mem_singleton.1 hb]; simp; omega⟩
set_option maxHeartbeats 4000000 in
theorem w_u0_3 (h : OnH X) (hg : GB st) {s0 : St} {sb ub lo n : Nat} {sz bl : AV} {f : Nat→AV} {U : UnitV} (hP0 : QS st s0 sb ub lo 3 sz bl f U) (line : List UInt8) (hl : line.length≤2400000) (hS : Small U (n + 1)) (hU : U.blocks≠[]) :
    wpF X 48 [.ptr ub 0,.ptr sb 0,sA line] s0 (StepTo st sb ub lo 3 U n line):=by
  refine wpF_go (fn:=v_r07_u0) (by rw [h.F]; rfl) ?_
  rw [List.append_nil]
  have x0:=hP0.st0
  have hbl:=hS.blocks
  obtain ⟨nb,hnU⟩ : ∃ nb,U.blocks.length = nb + 1:=⟨U.blocks.length - 1,by have:=List.length_pos_iff.2 hU; omega⟩
  have hib : nb < U.blocks.length:=by omega
  simp only [v_r07_u0,x0,Int.reduceEq,kB,kZ,kD,kE,xn,xi,xm,xe,xf,xg,xh,xl,xk,xj,reduceIte,reduceCtorEq,ya,xz,xu]
  refine callO_same (j_HasPrefixS h line) ?_
  simp only [kB,kZ,kD,kE,xn,xi,xm,xe,xf,xg,xh,xl,xk,xj,reduceIte,reduceCtorEq,ya,xz,xu]
  by_cases hp : line.take 2 = [32,32]
  case neg =>
    have hd : decide (line.take 2 = [32,32]) = false:=decide_eq_false hp
    simp only [hd,kB,kZ,kD,kE,xn,xi,xm,xe,xf,xg,xh,xl,xk,xj,reduceIte,reduceCtorEq,ya,xz,xu]
    exact ⟨false,rfl,hP0.pre,fun _=>step3_none (by unfold lineB; rw [if_neg hp]),fun e=>by cases e⟩
  have hd : decide (line.take 2 = [32,32]) = true:=decide_eq_true hp
  have h2l : 2≤line.length:=by
    have:=congrArg List.length hp
    simp only [List.length_take,List.length_cons,List.length_nil] at this
    omega
  have hql : (line.drop 2).length≤2400000:=by simp only [List.length_drop]; omega
  have hlB : lineB U line = match endP (line.drop 2) with
      | some e=>some (true,setLast U fun b=>{ b with e:=e })
      | none=>match opP (line.drop 2) with
        | some o=>some (false,setLast U fun b=>{ b with ops:=b.ops++[o] })
        | none=>none:=by unfold lineB; exact if_pos hp
  have q1 : closed X.P (Instr.sliceAt 9 (.string ⟨line.toArray⟩) (some (.int .i64 2)) none none) = some (.string ⟨(line.drop 2).toArray⟩):=k_sl1 h.toOn line 2 h2l
  generalize line.drop 2 = q at *
  have c5:=hP0.u.cells 5
  have c5' : ∀ L,St.at1 (s0++L) ub 5 = some bl:=fun L=>(hP0.app L).u.cells 5
  have c50 : St.at1 s0 ub 5 = some bl:=c5
  have hbll : lenA bl = some U.blocks.length:=by
    have:=hP0.u.b.own.arr.len
    rwa [blkRows_length] at this
  obtain ⟨bb,hbb⟩ : ∃ bb,boxOf bl = some bb:=by
    obtain ⟨bb,_,hbb,_⟩:=hP0.u.setend nb hib ⟨0,0,0,0⟩
    exact ⟨bb,hbb⟩
  obtain ⟨hel,hbb1,hbb2,_⟩:=hP0.u.row nb hib hbb
  have hwn : IntKind.wrap .i64 (((nb + 1 : Nat) : Int) - 1) = (nb : Int):=by rw [wrap_small (by omega) (by omega)]; omega
  have hrowAt : ∀ {s : St} {sz bl : AV} {f : Nat→AV} {V : UnitV},UPtr s ub lo sz bl f V→∀ (hv : nb < V.blocks.length),boxOf bl = some bb→elemA bl 6 (nb : Int) = some (.ptr bb (nb * 6))→St.atN s bb (nb * 6) 6 = some (V.blocks[nb].row (f nb)):=fun {s sz bl f V} hu hv hb he=>by
    obtain ⟨b',o',h1,_,_,h4⟩:=hu.b.own.arr.row nb (by rw [blkRows_length]; exact hv)
    rw [he] at h1
    cases h1
    rw [h4]
    simp only [blkRows,List.getElem_mapIdx]
  have r6:=hrowAt hP0.u hib hbb hel
  simp only [BlkV.row] at r6
  have hfc:=isCell_len (hP0.u.b.ops nb hib).arr.len
  have hfcc:=cells_cell hfc
  simp only [hd,c50,hbll,hnU,hwn,hel,r6,hfc,hfcc,q1,Option.map_none,kB,kZ,kD,kE,xn,xi,xm,xe,xf,xg,xh,xl,xk,xj,reduceIte,reduceCtorEq,ya,xz,xu]
  obtain ⟨bk,hbk⟩ : ∃ bk,bk = U.blocks[nb]:=⟨_,rfl⟩
  obtain ⟨S1,hS1⟩ : ∃ S1 : St,S1 = s0++[⟨[f nb,iA bk.e.k,iA bk.e.a,iA bk.e.t,iA bk.e.e,iA bk.catch_],0,1⟩]:=⟨_,rfl⟩
  have hP1 : QS st S1 sb ub lo 3 sz bl f U:=by rw [hS1]; exact hP0.app _
  have hT1 : S1[s0.length]? = some ⟨[f nb,iA bk.e.k,iA bk.e.a,iA bk.e.t,iA bk.e.e,iA bk.catch_],0,1⟩:=by rw [hS1]; simp
  rw [←hbk]
  rw [←hbk] at r6
  rw [←hS1]
  obtain ⟨tb,htb⟩ : ∃ tb,tb = s0.length:=⟨_,rfl⟩
  rw [←htb] at hT1 ⊢
  have hub1:=hP0.u.lt
  have hord:=hP0.ord
  have hUB : ∀ b,UBox sz bl f U.blocks.length b→b < tb:=fun b hb=>by have:=(hP0.u.ubox hb).2; omega
  have hlt1 : tb < S1.length:=(List.getElem?_eq_some_iff.1 hT1).1
  clear c5' c5 c50 hS1 r6
  refine callO_same (j_r07_readEnd h (hP1.gb hg) q (by omega)) ?_
  cases hE : endP q with
  | some ev =>
    rw [hE] at hlB
    dsimp only at hlB
    have hP2:=hP1.app [⟨[iA ev.k,iA ev.a,iA ev.t,iA ev.e],0,1⟩]
    have hT2 : (S1++[(⟨[iA ev.k,iA ev.a,iA ev.t,iA ev.e],0,1⟩ : Box)] : St)[tb]? = some ⟨[f nb,iA bk.e.k,iA bk.e.a,iA bk.e.t,iA bk.e.e,iA bk.catch_],0,1⟩:=by rw [List.getElem?_append_left hlt1]; exact hT1
    have hput:=put_box (o:=1) (vs:=[iA ev.k,iA ev.a,iA ev.t,iA ev.e]) hT2 (by simp) rfl
    have hag : Agree (fun b=>b = tb) (S1++[(⟨[iA ev.k,iA ev.a,iA ev.t,iA ev.e],0,1⟩ : Box)] : St) ((S1++[(⟨[iA ev.k,iA ev.a,iA ev.t,iA ev.e],0,1⟩ : Box)] : St).set tb (⟨[f nb,iA ev.k,iA ev.a,iA ev.t,iA ev.e,iA bk.catch_],0,2⟩ : Box)):=Agree.set _ _ _
    have hT3 : ((S1++[(⟨[iA ev.k,iA ev.a,iA ev.t,iA ev.e],0,1⟩ : Box)] : St).set tb (⟨[f nb,iA ev.k,iA ev.a,iA ev.t,iA ev.e,iA bk.catch_],0,2⟩ : Box))[tb]? = some ⟨[f nb,iA ev.k,iA ev.a,iA ev.t,iA ev.e,iA bk.catch_],0,2⟩:=by rw [List.getElem?_set_self (by simp; omega)]
    have hput : (S1++[(⟨[iA ev.k,iA ev.a,iA ev.t,iA ev.e],0,1⟩ : Box)] : St).put tb 1 [iA ev.k,iA ev.a,iA ev.t,iA ev.e] = some ((S1++[(⟨[iA ev.k,iA ev.a,iA ev.t,iA ev.e],0,1⟩ : Box)] : St).set tb (⟨[f nb,iA ev.k,iA ev.a,iA ev.t,iA ev.e,iA bk.catch_],0,2⟩ : Box)):=hput
    generalize (S1++[(⟨[iA ev.k,iA ev.a,iA ev.t,iA ev.e],0,1⟩ : Box)] : St).set tb (⟨[f nb,iA ev.k,iA ev.a,iA ev.t,iA ev.e,iA bk.catch_],0,2⟩ : Box) = S3 at *
    have hP3:=hP2.upd hag (fun b _ hx=>.inr (by omega)) (hP2.u.agree hag (by omega) fun b hb _ hx=>by have:=hUB b hb; omega)
    have x6 : St.atN S3 tb 0 6 = some [f nb,iA ev.k,iA ev.a,iA ev.t,iA ev.e,iA bk.catch_]:=by rw [atN_box hT3 (by decide) 0 6 (by simp)]; rfl
    have c53 : St.at1 S3 ub 5 = some bl:=hP3.u.cells 5
    obtain ⟨bb',S4,hbb',_,hput4,hag4,hU4⟩:=hP3.u.setend nb hib ev
    rw [hbb] at hbb'
    cases hbb'
    have r3:=hrowAt hP3.u hib hbb hel
    rw [←hbk] at r3
    have hput5 : St.put S3 bb (nb * 6) [f nb,iA ev.k,iA ev.a,iA ev.t,iA ev.e,iA bk.catch_] = some S4:=put_mid (x:=[f nb]) (m:=[iA bk.e.k,iA bk.e.a,iA bk.e.t,iA bk.e.e]) (m':=[iA ev.k,iA ev.a,iA ev.t,iA ev.e]) (y:=[iA bk.catch_]) r3 rfl (by simp [hfc]) rfl hput4
    have hP4:=hP3.upd hag4 (fun b _ hb=>.inr (by omega)) hU4
    obtain ⟨S5,e5,hP5⟩:=hP4.to 2
    have hsl : setLast U (fun b=>{ b with e:=ev }) = { U with blocks:=U.blocks.set nb { U.blocks[nb] with e:=ev } }:=by
      rw [setLast_eq U (by omega)]
      simp only [hnU,Nat.add_sub_cancel]
    simp only [Option.getD_some,Option.isSome_some,EndV.row,hput,x6,c53,hel,hfcc,hput5,e5,kB,kZ,kD,kE,xn,xi,xm,xe,xf,xg,xh,xl,xk,xj,reduceIte,reduceCtorEq,ya,xz,xu]
    rw [hsl] at hlB
    refine ⟨true,rfl,hP5.pre,(fun e=>by cases e),fun _=>⟨2,sz,bl,f,_,hP5,step3_end hlB,.inr (.inr (.inl ⟨rfl,fun e=>by have:=congrArg List.length e; simp [hnU] at this⟩)),?_⟩⟩
    exact ⟨by have:=hS.sizes; simp only; omega,by simp only [List.length_set]; omega,fun b hb=>by
      rcases List.mem_or_eq_of_mem_set hb with hb | rfl
      · have:=hS.ops b hb; omega
      · have:=hS.ops U.blocks[nb] (List.getElem_mem hib); simp only; omega⟩
  | none =>
    rw [hE] at hlB
    dsimp only at hlB
    simp only [Option.getD_none,Option.isSome_none,zeroE,EndV.row,q1,Option.map_none,kB,kZ,kD,kE,xn,xi,xm,xe,xf,xg,xh,xl,xk,xj,reduceIte,reduceCtorEq,ya,xz,xu]
    have hP2:=hP1.app [⟨[iA 0,iA 0,iA 0,iA 0],0,1⟩]
    refine wpF.mono (w_r07_readOp h (hP2.gb hg) q (by omega)) ?_
    rintro r s1 ⟨o,rfl,ho,m,rfl⟩
    refine ⟨kept_app _ _ _ _,?_⟩
    rw [opQ_eq] at ho ⊢
    have hP3:=(hP2.app m).app [⟨[iA o.k,iA o.d,iA o.a,iA o.b,iA o.c,iA o.n,iA o.g],0,1⟩]
    simp only [List.append_assoc,List.cons_append,List.nil_append] at hP3
    have hT3 : (S1++⟨[iA 0,iA 0,iA 0,iA 0],0,1⟩ :: (m++[⟨[iA o.k,iA o.d,iA o.a,iA o.b,iA o.c,iA o.n,iA o.g],0,1⟩]))[tb]? = some ⟨[f nb,iA bk.e.k,iA bk.e.a,iA bk.e.t,iA bk.e.e,iA bk.catch_],0,1⟩:=by rw [List.getElem?_append_left hlt1]; exact hT1
    have hop5 : St.atN (S1++⟨[iA 0,iA 0,iA 0,iA 0],0,1⟩ :: (m++[⟨[iA o.k,iA o.d,iA o.a,iA o.b,iA o.c,iA o.n,iA o.g],0,1⟩])) (S1.length + (m.length + 1)) 0 7 = some [iA o.k,iA o.d,iA o.a,iA o.b,iA o.c,iA o.n,iA o.g]:=by
      have hx : (S1++(⟨[iA 0,iA 0,iA 0,iA 0],0,1⟩ : Box) :: (m++[(⟨[iA o.k,iA o.d,iA o.a,iA o.b,iA o.c,iA o.n,iA o.g],0,1⟩ : Box)]) : List Box)[S1.length + (m.length + 1)]? = some ⟨[iA o.k,iA o.d,iA o.a,iA o.b,iA o.c,iA o.n,iA o.g],0,1⟩:=by simp
      rw [atN_box hx (by decide) 0 7 (by simp)]
      rfl
    have hl5 : S1.length≤(S1++(⟨[iA 0,iA 0,iA 0,iA 0],0,1⟩ : Box) :: (m++[(⟨[iA o.k,iA o.d,iA o.a,iA o.b,iA o.c,iA o.n,iA o.g],0,1⟩ : Box)])).length:=by simp
    simp only [OpV.row,kB,kZ,kD,kE,xn,xi,xm,xe,xf,xg,xh,xl,xk,xj,reduceIte,reduceCtorEq,ya,xz,xu]
    generalize S1++(⟨[iA 0,iA 0,iA 0,iA 0],0,1⟩ : Box) :: (m++[⟨[iA o.k,iA o.d,iA o.a,iA o.b,iA o.c,iA o.n,iA o.g],0,1⟩]) = S5 at *
    have t0 : St.at1 S5 tb 0 = some (f nb):=at1_box hT3 (by decide) 0
    simp only [t0,hop5,kB,kZ,kD,kE,xn,xi,xm,xe,xf,xg,xh,xl,xk,xj,reduceIte,reduceCtorEq,ya,xz,xu]
    have hP4:=hP3.app [⟨[iA o.k,iA o.d,iA o.a,iA o.b,iA o.c,iA o.n,iA o.g],0,0⟩]
    have hrow : ArrAt (S5++[⟨[iA o.k,iA o.d,iA o.a,iA o.b,iA o.c,iA o.n,iA o.g],0,0⟩]) S5.length (S5.length + 1) (.sl S5.length 0 1 7 true) 7 [o.row]:=ArrAt.ofBox (mode:=0) (ver:=0) (by simp [OpV.row]) (by decide) (fun r hr=>by rw [List.mem_singleton.1 hr]; rfl) rfl
    have hopn:=hS.ops U.blocks[nb] (List.getElem_mem hib)
    have hT4 : (S5++[⟨[iA o.k,iA o.d,iA o.a,iA o.b,iA o.c,iA o.n,iA o.g],0,0⟩])[tb]? = some ⟨[f nb,iA bk.e.k,iA bk.e.a,iA bk.e.t,iA bk.e.e,iA bk.catch_],0,1⟩:=by rw [List.getElem?_append_left (by omega)]; exact hT3
    have hl6 : tb < (S5++[(⟨[iA o.k,iA o.d,iA o.a,iA o.b,iA o.c,iA o.n,iA o.g],0,0⟩ : Box)]).length:=by simp; omega
    refine opR_append (vx:=f nb) (vy:=.sl S5.length 0 1 7 true) (rows:=U.blocks[nb].ops.map OpV.row) (rows2:=[o.row]) (lo:=lo) (by simp only [kB,kZ,kD,kE,xn,xi,xm,xe,xf,xg,xh,xl,xk,xj,reduceIte,reduceCtorEq,ya,xz,xu]) (by simp only [kB,kZ,kD,kE,xn,xi,xm,xe,xf,xg,xh,xl,xk,xj,reduceIte,reduceCtorEq,ya,xz,xu]) (hP4.u.b.ops nb hib) (by have:=hP4.ord; omega) hrow (by simp; omega) rfl ?_
    intro w' s6 hag6 hown6 hcase
    have hw6 : boxOf w' = some (S5++[(⟨[iA o.k,iA o.d,iA o.a,iA o.b,iA o.c,iA o.n,iA o.g],0,0⟩ : Box)]).length:=by
      rcases hcase with ⟨h1,_⟩ | ⟨_,h1,_⟩
      · cases h1
      · exact h1
    have hag6':=hag6.mono (Y:=fun b=>boxOf (f nb) = some b) fun n _ h=>h.2
    generalize S5++[⟨[iA o.k,iA o.d,iA o.a,iA o.b,iA o.c,iA o.n,iA o.g],0,0⟩] = S6 at *
    have hown7 : OwnS s6 lo w' 7 ((U.blocks[nb].ops++[o]).map OpV.row):=by rw [List.map_append]; exact hown6
    obtain ⟨bb',s7,hbb',_,hput,hag7,hU7⟩:=hP4.u.addops nb hib [o] hag6' (fun n _ hx=>hx) hown7 (.inr hw6)
    rw [hbb] at hbb'
    cases hbb'
    have hwc:=isCell_len hown7.arr.len
    have hcw:=cells_cell hwc
    have hftb : ∀ b,boxOf (f nb) = some b→b < tb∧b≠ub∧b≠bb:=fun b hb=>⟨hUB b (.inr (.inr ⟨nb,hib,hb⟩)),fun e=>hP0.u.sep (.inr (.inr ⟨nb,hib,by rw [←e]; exact hb⟩)),fun e=>hP0.u.b.sep1 nb hib b (by rw [e]; exact hbb) hb⟩
    have hT6:=hag6'.box hT4 (fun hx=>by have:=(hftb _ hx).1; omega)
    obtain ⟨s6',e6,hT6',ag6⟩:=put_one hT6 0 (by simp) w' hwc
    obtain ⟨s8,e8,ag8⟩:=put_comm e6 hput (by omega)
    obtain ⟨uv,hub6⟩:=hP4.u.box
    have hub6':=ag6.box (hag6'.box hub6 (fun hx=>(hftb _ hx).2.1 rfl)) (by omega)
    have c56 : St.at1 s6' ub 5 = some bl:=at1_box hub6' (by decide) 5
    have y6 : St.atN s6' tb 0 6 = some [w',iA bk.e.k,iA bk.e.a,iA bk.e.t,iA bk.e.e,iA bk.catch_]:=by rw [atN_box hT6' (by decide) 0 6 (by simp)]; rfl
    have r6:=hrowAt hP4.u hib hbb hel
    rw [←hbk] at r6
    have r6':=atN_agree ag6 (atN_agree hag6' r6 (fun hx=>(hftb _ hx).2.2 rfl)) (by omega)
    have hput8 : s6'.put bb (nb * 6) [w',iA bk.e.k,iA bk.e.a,iA bk.e.t,iA bk.e.e,iA bk.catch_] = some s8:=put_mid (x:=[]) (m:=[f nb]) (m':=[w']) (y:=[iA bk.e.k,iA bk.e.a,iA bk.e.t,iA bk.e.e,iA bk.catch_]) r6' rfl rfl rfl e8
    have hU8:=hU7.agree ag8 (by omega) (fun b hb _ hx=>by
      rcases hb with hb | hb | ⟨j,hj,hb⟩
      · have:=hUB b (.inl hb); omega
      · have:=hUB b (.inr (.inl hb)); omega
      · dsimp only at hb
        by_cases hjn : j = nb
        · rw [if_pos hjn,hw6] at hb
          cases hb
          omega
        · rw [if_neg hjn] at hb
          simp only [List.length_set] at hj
          have:=hUB b (.inr (.inr ⟨j,hj,hb⟩)); omega)
    have hP8:=hP4.upd (hag7.trans ag8) (fun b _ hx=>.inr (by
      rcases hx with (hx | rfl) | rfl
      · exact (hP4.u.ubox (.inr (.inr ⟨nb,hib,hx⟩))).1
      · exact hbb1
      · omega)) hU8
    have hsl : setLast U (fun b=>{ b with ops:=b.ops++[o] }) = { U with blocks:=U.blocks.set nb { U.blocks[nb] with ops:=U.blocks[nb].ops++[o] } }:=by
      rw [setLast_eq U (by omega)]
      simp only [hnU,Nat.add_sub_cancel]
    simp only [hcw,e6,c56,y6,hel,hput8,kB,kZ,kD,kE,xn,xi,xm,xe,xf,xg,xh,xl,xk,xj,reduceIte,reduceCtorEq,ya,xz,xu]
    refine ⟨_,rfl,hP8.pre,fun e=>?_,fun e=>?_⟩
    · cases hO : opP q with
      | some ov=>rw [hO] at e; cases e
      | none=>exact step3_none (by rw [hlB,hO])
    · cases hO : opP q with
      | none=>rw [hO] at e; cases e
      | some ov =>
        obtain rfl:=ho ov hO
        rw [hO] at hlB
        dsimp only at hlB
        rw [hsl] at hlB
        refine ⟨3,sz,bl,_,_,hP8,step3_op hlB,.inr (.inr (.inr ⟨rfl,fun e=>by have:=congrArg List.length e; simp [hnU] at this⟩)),?_⟩
        exact ⟨by have:=hS.sizes; simp only; omega,by simp only [List.length_set]; omega,fun b hb=>by
          rcases List.mem_or_eq_of_mem_set hb with hb | rfl
          · have:=hS.ops b hb; omega
          · simp only [List.length_append,List.length_cons,List.length_nil]; omega⟩
theorem w_r07_u0 (h : OnH X) (hg : GB st) {s0 : St} {sb ub lo n : Nat} {σ : Int} {sz bl : AV} {f : Nat→AV} {U : UnitV} (hP0 : QS st s0 sb ub lo σ sz bl f U) (line : List UInt8) (hl : line.length≤2400000) (hS : Small U (n + 1)) (hU : stOk σ U) :
    wpF X 48 [.ptr ub 0,.ptr sb 0,sA line] s0 (StepTo st sb ub lo σ U n line):=by
  rcases hU with ⟨rfl,hU⟩ | hU | hU | ⟨rfl,hU⟩
  · exact w_u0_0 h hg hP0 line hl hS hU
  · exact w_u0_12 h hg hP0 line hl hS (.inl hU)
  · exact w_u0_12 h hg hP0 line hl hS (.inr hU)
  · exact w_u0_3 h hg hP0 line hl hS hU
end
end Go.VX.Seat
end
