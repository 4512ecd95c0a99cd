/- A part of the proofs of the statements of one layer: R1, R2. No condition is added here. -/
import Derived.ChangeOld
import Derived.ChangeArms
import Derived.ChangeShapes
import Derived.Test.YtcemloapifojkaaDoorXA15
set_option linter.unusedVariables false
set_option linter.unusedSimpArgs false
section
namespace Go.VX
theorem ArrAt.wide0 {st : St} {lo hi lo' hi' : Nat} {v : AV} {esz : Nat} {rows : List (List AV)} (h : ArrAt st lo hi v esz rows) (h1 : lo'≤lo) (h2 : hi≤hi') : ArrAt st lo' hi' v esz rows where
  len:=h.len
  size:=h.size
  row:=fun i hi=>by
    obtain ⟨b,o,a1,a2,a3,a4⟩:=h.row i hi
    exact ⟨b,o,a1,by omega,by omega,a4⟩
open Go.RowKit (Below)
section
variable {H : Type} {enc : TypeId × Value→H} {P : Program} {W : World} {gl : List Nat}
structure Ent (gl : List Nat) (W : World) (K : KM) (st : St) : Prop where
  rel : WRel W.heap.size W gl K st W
  ro : ∀ (b : Nat) (x : Box),st[b]? = some x→x.mode = 1
theorem Ent.add {K : KM} {st : St} (h : Ent gl W K st) {kb : KB} {cs : List AV} (hlt : kb.rb < W.heap.size) (hfit : kb.ro + cs.length≤kb.rsz) (hc : ∀ (o : Nat) (a : AV),cs[o]? = some a→∃ v,W.cell? ⟨kb.rb,kb.ro + o,none⟩ = some v∧VRel K a v) :
    Ent gl W (K.set st.length kb) (st++[⟨cs,1,0⟩])∧KM.le K (K.set st.length kb):=by
  have hle : KM.le K (K.set st.length kb):=KM.le_set h.rel.none
  have hin : ∀ {b : Nat} {x : Box} {kb' : KB},(st++[⟨cs,1,0⟩] : St)[b]? = some x→(K.set st.length kb) b = some kb'→(b < st.length∧st[b]? = some x∧K b = some kb')∨(b = st.length∧x = ⟨cs,1,0⟩∧kb' = kb):=fun {b x kb'} hx hk=>by
    unfold KM.set at hk
    split at hk
    · rename_i e
      subst e
      cases hk
      simp at hx
      exact .inr ⟨rfl,hx.symm,rfl⟩
    · have hb:=h.rel.dom b kb' hk
      rw [List.getElem?_append_left hb] at hx
      exact .inl ⟨hb,hx,hk⟩
  have hro : ∀ (b : Nat) (x : Box),(st++[⟨cs,1,0⟩] : St)[b]? = some x→x.mode = 1:=fun b x hx=>by
    by_cases hb : b < st.length
    · rw [List.getElem?_append_left hb] at hx
      exact h.ro b x hx
    · rw [List.getElem?_append_right (by omega)] at hx
      have:=(List.getElem?_eq_some_iff.1 hx).1
      simp at this
      have e : b - st.length = 0:=by omega
      rw [e] at hx
      simp at hx
      rw [←hx]
  refine ⟨⟨?_,hro⟩,hle⟩
  exact {
    below:=h.rel.below
    dom:=fun b kb' hk=>by
      unfold KM.set at hk
      split at hk
      · subst_vars; simp
      · have:=h.rel.dom b kb' hk; simp; omega
    lt:=fun b x kb' hx hm hk=>by
      rcases hin hx hk with ⟨_,h1,h2⟩ | ⟨_,_,rfl⟩
      · exact h.rel.lt b x kb' h1 hm h2
      · exact hlt
    cell:=fun b x kb' hx hm hk o a ho=>by
      rcases hin hx hk with ⟨_,h1,h2⟩ | ⟨_,rfl,rfl⟩
      · obtain ⟨v,hv,hr⟩:=h.rel.cell b x kb' h1 hm h2 o a ho
        exact ⟨v,hv,hr.mono hle⟩
      · obtain ⟨v,hv,hr⟩:=hc o a ho
        exact ⟨v,hv,hr.mono hle⟩
    live:=fun b x kb' hx hm hk=>absurd hm (by rw [hro b x hx]; decide)
    excl:=fun b x kb' b' x' kb2 hx hm=>absurd hm (by rw [hro b x hx]; decide)
    fit:=fun b x kb' hx hm hk=>by
      rcases hin hx hk with ⟨_,h1,h2⟩ | ⟨_,rfl,rfl⟩
      · exact h.rel.fit b x kb' h1 hm h2
      · exact hfit
    glob:=fun j g hg=>by
      obtain ⟨kb',h1,h2⟩:=h.rel.glob j g hg
      exact ⟨kb',hle _ _ h1,h2⟩
    fo:=Fo.none fun b x hx=>by rw [hro b x hx]; decide }
abbrev TR (enc : TypeId × Value→H) (P : Program) (W : World) (n : Nat) (t : TypeId) (cs : List Value) : Option (DataW H × List MemPlace):=DataW.trod enc P W 0 (fun _=>true) true n t cs
def Reads (enc : TypeId × Value→H) (P : Program) (W : World) (gl : List Nat) (t : TypeId) {α : Type} (R : St→List AV→α→Prop) : Prop :=
  ∀ K st n vs x,Ent gl W K st→TR enc P W n t vs = some x→∃ (K' : KM) (L : St) (ws : List AV) (u : α),Ent gl W K' (st++L)∧KM.le K K'∧VRels K' ws vs∧R (st++L) ws u
theorem reads_elems {α : Type} {R : St→List AV→α→Prop} (hR : ∀ st L ws u,R st ws u→R (st++L) ws u) {e : TypeId} (hel : Reads enc P W gl e R) {a : Addr} {n : Nat} {elems : List (DataW H × List MemPlace)} :
    ∀ (k : Nat) {K : KM} {st : St},(∀ i,i < k→(W.cells? 0 (a.add (i * P.cellsOf e)) (P.cellsOf e)).bind (TR enc P W n e) = elems[i]?)→k≤elems.length→Ent gl W K st →
      ∃ (K' : KM) (L : St) (rows : List (List AV)) (us : List α),Ent gl W K' (st++L)∧KM.le K K'∧rows.length = k∧us.length = k∧(∀ (i : Nat) (h1 : i < rows.length) (h2 : i < us.length),R (st++L) rows[i] us[i]) ∧
        ∀ (i : Nat) (h1 : i < rows.length),∃ vs,W.cells? 0 (a.add (i * P.cellsOf e)) (P.cellsOf e) = some vs∧VRels K' rows[i] vs
  | 0,K,st,_,_,hE=>⟨K,[],[],[],by simpa using hE,KM.le_refl K,rfl,rfl,fun i h1=>absurd h1 (by simp),fun i h1=>absurd h1 (by simp)⟩
  | k + 1,K,st,h,hk,hE=>by
    obtain ⟨K1,L1,rows,us,hE1,hle1,hl1,hl2,hr1,hc1⟩:=reads_elems hR hel k (fun i hi=>h i (by omega)) (by omega) hE
    have hk1:=h k (by omega)
    rw [List.getElem?_eq_getElem (by omega),Option.bind_eq_some_iff] at hk1
    obtain ⟨vs,hv1,hv2⟩:=hk1
    obtain ⟨K2,L2,ws,u,hE2,hle2,hrel,hR2⟩:=hel K1 (st++L1) n vs _ hE1 hv2
    refine ⟨K2,L1++L2,rows++[ws],us++[u],by simpa using hE2,KM.le_trans hle1 hle2,by simp [hl1],by simp [hl2],fun i h1 h2=>?_,fun i h1=>?_⟩
    · by_cases hi : i < k
      · rw [List.getElem_append_left (by omega),List.getElem_append_left (by omega),← List.append_assoc]
        exact hR _ _ _ _ (hr1 i (by omega) (by omega))
      · have hi : i = k:=by simp at h1; omega
        subst hi
        rw [List.getElem_append_right (by omega),List.getElem_append_right (by omega)]
        simp only [hl1,hl2,Nat.sub_self,List.getElem_cons_zero,← List.append_assoc]
        exact hR2
    · by_cases hi : i < k
      · rw [List.getElem_append_left (by omega)]
        obtain ⟨vs',h3,h4⟩:=hc1 i (by omega)
        exact ⟨vs',h3,h4.mono hle2⟩
      · have hi : i = k:=by simp at h1; omega
        subst hi
        rw [List.getElem_append_right (by omega)]
        simp only [hl1,Nat.sub_self,List.getElem_cons_zero]
        exact ⟨vs,hv1,hrel⟩
theorem nilArr (st : St) (lo hi esz : Nat) : ArrAt st lo hi (.sc (.slice none 0 0)) esz [] where
  len:=rfl
  size:=fun b o len e f h=>by cases h
  row:=fun i h=>absurd h (by simp)
theorem add_mul (r o k n : Nat) : (⟨r,o,none⟩ : Addr).add k = ⟨r,o + k,none⟩:=add_eq r o k
theorem reads_slice {α : Type} {R : St→List AV→α→Prop} (hR : ∀ st L ws u,R st ws u→R (st++L) ws u) {e t : TypeId} {esz : Nat} (ht : P.underlying t = some (.slice e)) (hc : P.cellsOf e = esz) (hpos : 0 < esz) (hg : ∃ g,gl[0]? = some g∧g < W.heap.size) (hel : Reads enc P W gl e R) :
    Reads enc P W gl t (fun st ws (us : List α)=>∃ (a : AV) (rows : List (List AV)),ws = [a]∧ArrAt st 0 st.length a esz rows∧rows.length = us.length∧∀ (i : Nat) (h1 : i < rows.length) (h2 : i < us.length),R st rows[i] us[i]):=by
  intro K st n vs x hE h
  rcases DataW.trod_slice ht h with ⟨rfl,_⟩ | ⟨a,len,cap,elems,rest,m,_,rfl,_,_,hl,hm,hlen,hel1,hsp,_⟩
  · exact ⟨K,[],[.sc (.slice none 0 0)],[],by simpa using hE,KM.le_refl K,.cons (.sc rfl) .nil,_,[],rfl,nilArr _ _ _ _,rfl,fun i h1=>absurd h1 (by simp)⟩
  obtain ⟨K1,L1,rows,us,hE1,hle1,hl1,hl2,hr1,hc1⟩:=reads_elems hR hel len hel1 (by omega) hE
  have hrl : ∀ r ∈ rows,r.length = esz:=fun r hr=>by
    obtain ⟨i,hi,rfl⟩:=List.getElem_of_mem hr
    obtain ⟨vs,h3,h4⟩:=hc1 i hi
    rw [h4.length,(World.cells?_some h3).2.1,hc]
  obtain ⟨g,hg1,hg2⟩:=hg
  -- where the slice lies
  obtain ⟨kb,hklt,hksz,hkok,hkc⟩ : ∃ kb : KB,kb.rb < W.heap.size∧kb.ro + rows.flatten.length≤kb.rsz∧slOk kb 0 len esz false a cap∧∀ (o : Nat) (c : AV),rows.flatten[o]? = some c→∃ v,W.cell? ⟨kb.rb,kb.ro + o,none⟩ = some v∧VRel K1 c v:=by
    have hfl : rows.flatten.length = len * esz:=by
      rw [←hl1]
      clear hc1 hr1
      revert hrl
      generalize rows = R0
      intro hrl
      induction R0 with
      | nil=>simp
      | cons r R0 ih =>
        rw [List.flatten_cons,List.length_append,ih (fun r hr=>hrl r (List.mem_cons_of_mem _ hr)),hrl r List.mem_cons_self,List.length_cons,Nat.succ_mul,Nat.add_comm]
    by_cases hcap : cap = 0
    · have hl0 : len = 0:=by omega
      have hr0 : rows = []:=List.length_eq_zero_iff.1 (by omega)
      refine ⟨⟨g,0,0⟩,hg2,by rw [hr0]; simp,⟨hl,fun h=>(by cases h),.inr ⟨hl0,hcap⟩⟩,fun o c ho=>by rw [hr0] at ho; simp at ho⟩
    · have hfirst : ∃ c0,W.cell? a = some c0:=by
        have hget : ∃ y,(W.cells? 0 (a.add (0 * P.cellsOf e)) (P.cellsOf e)).bind (TR enc P W m e) = some y:=by
          by_cases hl0 : 0 < len
          · have:=hel1 0 hl0
            rw [List.getElem?_eq_getElem (by omega)] at this
            exact ⟨_,this⟩
          · have h0 : len = 0:=by omega
            have:=hsp rfl
            have h2:=this.2 0 (by omega)
            rw [h0,List.getElem?_eq_getElem (by omega)] at h2
            exact ⟨_,by simpa using h2⟩
        obtain ⟨y,hy⟩:=hget
        rw [Option.bind_eq_some_iff] at hy
        obtain ⟨vs,h1,_⟩:=hy
        obtain ⟨_,hl3,hc3⟩:=World.cells?_some h1
        have:=hc3 0 (by omega)
        rw [Nat.zero_mul] at this
        rw [List.getElem?_eq_getElem (by omega)] at this
        exact ⟨_,by simpa [Addr.add] using this⟩
      obtain ⟨c0,hc0⟩:=hfirst
      obtain ⟨b,off,spot⟩:=a
      have hspot : spot = none:=by simpa using World.cell?_spot hc0
      subst hspot
      refine ⟨⟨b,off,off + cap * esz⟩,World.block_lt_of_cell? W _ hc0,by rw [hfl]; have:=Nat.mul_le_mul_right esz hl; simp only; omega,⟨hl,fun h=>(by cases h),.inl ⟨rfl,by simp⟩⟩,fun o c ho=>?_⟩
      have ho2 : o < rows.flatten.length:=(List.getElem?_eq_some_iff.1 ho).1
      have hi : o / esz < rows.length:=by rw [hl1]; exact Nat.div_lt_of_lt_mul (by rw [Nat.mul_comm]; omega)
      obtain ⟨vs,h3,h4⟩:=hc1 (o / esz) hi
      have hf:=flatten_row hrl (o / esz) hi
      have hmod : o % esz < esz:=Nat.mod_lt _ hpos
      have hdm : o / esz * esz + o % esz = o:=by rw [Nat.mul_comm]; exact Nat.div_add_mod o esz
      have hrow : rows[o / esz][o % esz]? = some c:=by
        rw [←hf.1,List.getElem?_take,if_pos hmod,List.getElem?_drop,hdm]
        exact ho
      obtain ⟨v,hv,hvr⟩:=h4.get _ hrow
      refine ⟨v,?_,hvr⟩
      obtain ⟨_,hl3,hc3⟩:=World.cells?_some h3
      have:=hc3 (o % esz) (by omega)
      rw [hc,add_eq,add_eq,hv] at this
      rw [←this,show off + o / esz * esz + o % esz = off + o by omega]
  obtain ⟨hE2,hle2⟩:=hE1.add hklt hksz hkc
  have hb : ((st++L1)++[⟨rows.flatten,1,0⟩] : St)[(st++L1).length]? = some ⟨rows.flatten,1,0⟩:=by simp
  refine ⟨_,L1++[⟨rows.flatten,1,0⟩],[.sl (st++L1).length 0 len esz false],us,by simpa using hE2,KM.le_trans hle1 hle2,.cons (.sl (kb:=kb) (by simp [KM.set]) hkok) .nil,_,rows,rfl,?_,by omega,fun i h1 h2=>?_⟩
  · have hlen2 : (st++L1).length + 1≤(st++(L1++[⟨rows.flatten,1,0⟩]) : St).length:=by simp only [List.length_append,List.length_cons,List.length_nil]; omega
    have:=(ArrAt.ofBox (full:=false) hb (by decide) hrl hl1.symm).wide0 (lo':=0) (hi':=(st++(L1++[⟨rows.flatten,1,0⟩]) : St).length) (by omega) hlen2
    simpa using this
  · have:=hR _ [⟨rows.flatten,1,0⟩] _ _ (hr1 i h1 h2)
    simpa using this
end
end Go.VX
end
section
set_option maxRecDepth 4000
namespace Go.VX.Seat
open Go.Proofs
theorem c_i64 : Go.Proofs.Tryd.prog.cellsOf 2 = 1:=by kernel_rfl
theorem c_int : Go.Proofs.Tryd.prog.cellsOf 3 = 1:=by kernel_rfl
theorem c_ints : Go.Proofs.Tryd.prog.cellsOf 22 = 1:=by kernel_rfl
theorem c_blks : Go.Proofs.Tryd.prog.cellsOf 23 = 1:=by kernel_rfl
theorem c_unit : Go.Proofs.Tryd.prog.cellsOf 25 = 6:=by kernel_rfl
theorem c_ops : Go.Proofs.Tryd.prog.cellsOf 39 = 1:=by kernel_rfl
theorem c_end : Go.Proofs.Tryd.prog.cellsOf 41 = 4:=by kernel_rfl
theorem c_blk : Go.Proofs.Tryd.prog.cellsOf 43 = 6:=by kernel_rfl
theorem c_op : Go.Proofs.Tryd.prog.cellsOf 52 = 7:=by kernel_rfl
section
variable {H : Type} {enc : TypeId × Value→H} {W : World} {gl : List Nat}
theorem VRels.int1 {K : KM} {n : Int} {cs : List AV} {vs : List Value} (h : VRels K cs vs) : VRels K (iA n :: cs) (.int .i64 n :: vs):=.cons (.sc rfl) h
theorem rows_map {α : Type} {f : α→List AV} {rows : List (List AV)} {us : List α} (h : rows.length = us.length) (h2 : ∀ (i : Nat) (h1 : i < rows.length) (h2 : i < us.length),rows[i] = f us[i]) : rows = us.map f :=
  List.ext_getElem (by simpa using h) fun i h1 h3=>by rw [h2 i h1 (by omega)]; simp
end
end Go.VX.Seat
end
