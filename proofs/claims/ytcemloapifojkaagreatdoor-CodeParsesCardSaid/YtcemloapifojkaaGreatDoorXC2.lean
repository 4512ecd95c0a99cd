/- A part of the proofs of the statements of one layer: V2. No condition is added here. -/
import Derived.Lib.FrozenHead
import Derived.Test.YtcemloapifojkaaGreatDoorXC1
set_option linter.unusedVariables false
set_option linter.unusedSimpArgs false
section
namespace Go.VX
open Go.RowKit (Below)

structure KB where
  rb : Nat
  ro : Nat
  rsz : Nat
abbrev KM:=Nat→Option KB
def KM.le (K K' : KM) : Prop:=∀ b kb,K b = some kb→K' b = some kb
theorem KM.le_refl (K : KM) : KM.le K K:=fun _ _ h=>h
theorem KM.le_trans {K K' K'' : KM} (h : KM.le K K') (h' : KM.le K' K'') : KM.le K K'':=fun b kb e=>h' b kb (h b kb e)

def slOk (kb : KB) (o len esz : Nat) (full : Bool) (a : Addr) (cap : Nat) : Prop :=
  len≤cap∧(full = true→cap = len)∧((a = ⟨kb.rb,kb.ro + o,none⟩∧kb.ro + o + cap * esz≤kb.rsz)∨(len = 0∧cap = 0))

mutual
inductive VRel (K : KM) : AV→Value→Prop
  | sc {v} : cellVal v = true→VRel K (.sc v) v
  | ptr {b o kb} : K b = some kb→VRel K (.ptr b o) (.pointer (some ⟨kb.rb,kb.ro + o,none⟩))
  | sl {b o len esz full kb a cap} : K b = some kb→slOk kb o len esz full a cap→VRel K (.sl b o len esz full) (.slice (some a) len cap)
  | agg {cs : List AV} {vs : List Value} : VRels K cs vs→VRel K (.agg cs) (.agg vs.toArray)
  | tup {cs : List AV} {vs : List Value} : VRels K cs vs→VRel K (.tup cs) (.tuple vs.toArray)
  | iface {t x v} : VRel K x v→VRel K (.iface t x) (.iface t v)
  | fn {f fs cs} {fs' cs' : List Value} : VRels K fs fs'→VRels K cs cs'→VRel K (.fn f fs cs) (.func (.func f) fs'.toArray cs'.toArray)
  | err {t v} : VRel K .err (.iface t v)
inductive VRels (K : KM) : List AV→List Value→Prop
  | nil : VRels K [] []
  | cons {a v as vs} : VRel K a v→VRels K as vs→VRels K (a :: as) (v :: vs)
end

mutual
theorem VRel.mono {K K' : KM} (hk : KM.le K K') : ∀ {a v},VRel K a v→VRel K' a v
  | _,_,.sc h=>.sc h
  | _,_,.ptr h=>.ptr (hk _ _ h)
  | _,_,.sl h h2=>.sl (hk _ _ h) h2
  | _,_,.agg h=>.agg (VRels.mono hk h)
  | _,_,.tup h=>.tup (VRels.mono hk h)
  | _,_,.iface h=>.iface (VRel.mono hk h)
  | _,_,.fn h h2=>.fn (VRels.mono hk h) (VRels.mono hk h2)
  | _,_,.err=>.err
theorem VRels.mono {K K' : KM} (hk : KM.le K K') : ∀ {a v},VRels K a v→VRels K' a v
  | _,_,.nil=>.nil
  | _,_,.cons h h2=>.cons (VRel.mono hk h) (VRels.mono hk h2)
end

theorem VRels.length {K : KM} : ∀ {as vs},VRels K as vs→as.length = vs.length
  | _,_,.nil=>rfl
  | _,_,.cons _ h=>by simp [VRels.length h]
theorem VRels.append {K : KM} : ∀ {as vs bs us},VRels K as vs→VRels K bs us→VRels K (as++bs) (vs++us)
  | _,_,_,_,.nil,h=>h
  | _,_,_,_,.cons h h2,h3=>.cons h (VRels.append h2 h3)
theorem VRels.take {K : KM} : ∀ {as : List AV} {vs : List Value} (n : Nat),VRels K as vs→VRels K (as.take n) (vs.take n)
  | _,_,0,_=>by simp; exact .nil
  | _,_,n + 1,.nil=>by simp; exact .nil
  | _,_,n + 1,.cons h h2=>by simp; exact .cons h (VRels.take n h2)
theorem VRels.drop {K : KM} : ∀ {as : List AV} {vs : List Value} (n : Nat),VRels K as vs→VRels K (as.drop n) (vs.drop n)
  | _,_,0,h=>by simpa using h
  | _,_,n + 1,.nil=>by simp; exact .nil
  | _,_,n + 1,.cons h h2=>by simpa using VRels.drop n h2
theorem VRels.get {K : KM} : ∀ {as : List AV} {vs : List Value} (n : Nat) {a : AV},VRels K as vs→as[n]? = some a→∃ v,vs[n]? = some v∧VRel K a v
  | _,_,n,a,.nil,h=>by simp at h
  | _,_,0,a,.cons h h2,e=>by simp at e; subst e; exact ⟨_,by simp,h⟩
  | _,_,n + 1,a,.cons h h2,e=>by
    simp at e
    obtain ⟨v,hv,hr⟩:=VRels.get n h2 e
    exact ⟨v,by simpa using hv,hr⟩
theorem VRels.of_get {K : KM} : ∀ {as : List AV} {vs : List Value},as.length = vs.length→(∀ (n : Nat) (a : AV),as[n]? = some a→∃ v,vs[n]? = some v∧VRel K a v)→VRels K as vs
  | [],[],_,_=>.nil
  | a :: as,v :: vs,hl,h=>by
    obtain ⟨v',hv,hr⟩:=h 0 a (by simp)
    simp at hv; subst hv
    refine .cons hr (VRels.of_get (by simpa using hl) fun n x hx=>?_)
    obtain ⟨u,hu,hr⟩:=h (n + 1) x (by simpa using hx)
    exact ⟨u,by simpa using hu,hr⟩
theorem VRels.map_sc (K : KM) : ∀ vs : List Value,vs.all cellVal = true→VRels K (vs.map AV.sc) vs
  | [],_=>.nil
  | v :: r,h=>by
    simp only [List.all_cons,Bool.and_eq_true] at h
    exact .cons (.sc h.1) (VRels.map_sc K r h.2)

theorem VRel.sc_eq {K : KM} {u v : Value} (h : VRel K (.sc u) v) : v = u:=by cases h; rfl
theorem VRel.ofV (K : KM) (v : Value) (h : v.cells.toList.all cellVal = true) : VRel K (ofV v) v:=by
  cases v with
  | agg cs=>exact .agg (VRels.map_sc K cs.toList h)
  | _=>exact .sc (by simpa [Value.cells] using h)

theorem VRels.cellsV {K : KM} : ∀ {as vs us},VRels K as vs→cellsV as = some us→vs = us
  | _,_,_,.nil,h=>by simp [VX.cellsV] at h; exact h.symm ▸ rfl
  | _,_,_,.cons (a:=a) (as:=as) h h2,e=>by
    unfold VX.cellsV at e
    split at e
    · rename_i v vs' h3 h4
      simp at e; subst e
      cases a<;>simp [AV.cell?] at h3
      subst h3
      rw [VRel.sc_eq h,VRels.cellsV h2 h4]
    · simp at e
theorem VRel.toV {K : KM} {a : AV} {v u : Value} (h : VRel K a v) (e : a.toV = some u) : v = u:=by
  cases h with
  | sc=>simpa [AV.toV] using e
  | agg h =>
    simp only [AV.toV,Option.map_eq_some_iff] at e
    obtain ⟨us,h2,rfl⟩:=e
    rw [VRels.cellsV h h2]
  | _=>simp [AV.toV] at e

theorem VRel.cells {K : KM} {a : AV} {v : Value} (h : VRel K a v) : VRels K (cellsOf a) v.cells.toList:=by
  cases h with
  | agg h=>simpa [cellsOf,Value.cells] using h
  | sc h2 =>
    cases v<;>first | (simp [cellVal] at h2; done) | exact .cons (.sc h2) .nil
  | ptr h=>exact .cons (.ptr h) .nil
  | sl h h2=>exact .cons (.sl h h2) .nil
  | tup h=>exact .cons (.tup h) .nil
  | iface h=>exact .cons (.iface h) .nil
  | fn h h2=>exact .cons (.fn h h2) .nil
  | err=>exact .cons .err .nil

def Phi (c : List AV) (r : Nat) (S : List Nat) (w : World) : Prop :=
  ∃ (tb tu : Nat) (l : List UInt8) (p v : Value),c = [.sc (.int .i64 1),.sc (.int .i64 tb),.sc (.int .i64 tu),.sc (.string ⟨l.toArray⟩)]∧tb≠tu∧(p = .pointer none∨p = .pointer (some ⟨r,0,none⟩)) ∧
    w.heap[r]? = some (.cells #[p,v] tb (0,0))∧w.ownsRowF 0 tu 1 v l.length (Lib.byteCells l)∧S = r :: v.ownBlock.toList∧v.ownBlock≠some r∧(v = .slice none 0 0↔l = [])
theorem ownsRowF_frame {w w' : World} {base : Nat} {e : TypeId} {size n : Nat} {v : Value} {xs : List Value} (h : w.ownsRowF base e size v n xs) (hw : ∀ i,v.ownBlock = some i→w'.heap[i]? = w.heap[i]?) : w'.ownsRowF base e size v n xs:=by
  refine ⟨h.1,?_⟩
  rcases h.2 with hn | ⟨g,cap,cur,fz,rfl,hb,hg,rest⟩
  · exact .inl hn
  · exact .inr ⟨g,cap,cur,fz,rfl,hb,by rw [hw g rfl]; exact hg,rest⟩
theorem Phi.frame {c : List AV} {r : Nat} {S : List Nat} {w w' : World} (h : Phi c r S w) (hw : ∀ i ∈ S,w'.heap[i]? = w.heap[i]?) : Phi c r S w':=by
  obtain ⟨tb,tu,l,p,v,h1,h0,h2,h3,h4,h5,h6,h7⟩:=h
  subst h5
  exact ⟨tb,tu,l,p,v,h1,h0,h2,by rw [hw r (by simp)]; exact h3,ownsRowF_frame h4 (fun i hi=>hw i (by simp [hi])),rfl,h6,h7⟩
def FoAt (fp : Nat→List Nat) (n0 : Nat) (K : KM) (st : St) (w : World) : Prop :=
  ∀ b x kb,st[b]? = some x→x.mode = 3→K b = some kb →
    (kb.ro = 0∧Phi x.cells kb.rb (fp b) w)∧(∀ i ∈ fp b,n0≤i∧i < w.heap.size) ∧
    (∀ b' x' kb',st[b']? = some x'→x'.mode≠2→x'.mode≠3→K b' = some kb'→kb'.rb ∉ fp b) ∧
    (∀ b' x' kb',b'≠b→st[b']? = some x'→x'.mode = 3→K b' = some kb'→∀ i ∈ fp b',i ∉ fp b)
def Fo (n0 : Nat) (K : KM) (st : St) (w : World) : Prop:=∃ fp : Nat→List Nat,FoAt fp n0 K st w
theorem Fo.step {n0 : Nat} {K K' : KM} {st st' : St} {w w' : World} (h : Fo n0 K st w)
    (h1 : ∀ b x kb,st'[b]? = some x→x.mode = 3→K' b = some kb→st[b]? = some x∧K b = some kb)
    (h2 : ∀ b x kb,st'[b]? = some x→x.mode≠2→x.mode≠3→K' b = some kb→(∃ b0 y kb0,st[b0]? = some y∧y.mode≠2∧y.mode≠3∧K b0 = some kb0∧kb0.rb = kb.rb)∨w.heap.size≤kb.rb)
    (hs : w.heap.size≤w'.heap.size)
    (hw : ∀ i,i < w.heap.size→w'.heap[i]? = w.heap[i]?∨∃ b y kb,st[b]? = some y∧y.mode≠2∧y.mode≠3∧K b = some kb∧kb.rb = i) : Fo n0 K' st' w':=by
  obtain ⟨fp,hfp⟩:=h
  refine ⟨fp,fun b x kb hx hm hk=>?_⟩
  obtain ⟨hx0,hk0⟩:=h1 b x kb hx hm hk
  obtain ⟨g1,g2,g3,g4⟩:=hfp b x kb hx0 hm hk0
  refine ⟨⟨g1.1,g1.2.frame fun i hi=>?_⟩,fun i hi=>⟨(g2 i hi).1,Nat.lt_of_lt_of_le (g2 i hi).2 hs⟩,fun b' x' kb' hx' hm2 hm3 hk' hi=>?_,fun b' x' kb' hb' hx' hm' hk'=>?_⟩
  · rcases hw i (g2 i hi).2 with e | ⟨b1,y,kb1,a1,a2,a3,a4,rfl⟩
    · exact e
    · exact absurd hi (g3 b1 y kb1 a1 a2 a3 a4)
  · rcases h2 b' x' kb' hx' hm2 hm3 hk' with ⟨b0,y,kb0,a1,a2,a3,a4,a5⟩ | hge
    · exact g3 b0 y kb0 a1 a2 a3 a4 (by rw [a5]; exact hi)
    · have:=(g2 _ hi).2; omega
  · obtain ⟨hx0',hk0'⟩:=h1 b' x' kb' hx' hm' hk'
    exact g4 b' x' kb' hb' hx0' hm' hk0'
theorem Fo.none {n0 : Nat} {K : KM} {st : St} {w : World} (h : ∀ (b : Nat) (x : Box),st[b]? = some x→x.mode≠3) : Fo n0 K st w:=⟨fun _=>[],fun b x kb hx hm=>absurd hm (h b x hx)⟩

def GSz (n0 : Nat) (wi : World) (g n : Nat) : Prop:=n = 0∨(g < n0∧∃ c el lv,wi.heap[g]? = some (.cells c el lv)∧(c[0]? = some (.int .u64 1)→c.size = 20))
theorem GSz.step {n0 : Nat} {wi w : World} {g n : Nat} (h : GSz n0 wi g n) (hb : Below n0 wi w) (hn : n0≤wi.heap.size) : GSz w.heap.size w g n:=by
  rcases h with h | ⟨h1,c,el,lv,h2,h3⟩
  · exact .inl h
  · exact .inr ⟨by have:=hb.size; omega,c,el,lv,by rw [hb.block g h1]; exact h2,h3⟩
structure WRel (n0 : Nat) (wi : World) (gl : List Nat) (K : KM) (st : St) (w : World) : Prop where
  below : Below n0 wi w
  dom : ∀ b kb,K b = some kb→b < st.length
  lt : ∀ b x kb,st[b]? = some x→x.mode≠2→K b = some kb→kb.rb < w.heap.size
  cell : ∀ b x kb,st[b]? = some x→¬ 2≤x.mode→K b = some kb→∀ o a,x.cells[o]? = some a→∃ v,w.cell? ⟨kb.rb,kb.ro + o,none⟩ = some v∧VRel K a v
  live : ∀ b x kb,st[b]? = some x→x.mode = 0→K b = some kb→n0≤kb.rb∧∃ c el,w.heap[kb.rb]? = some (.cells c el (0,0))∧c.size = kb.rsz
  excl : ∀ b x kb b' x' kb',st[b]? = some x→x.mode = 0→K b = some kb→st[b']? = some x'→x'.mode≠2→K b' = some kb'→b≠b'→kb.rb≠kb'.rb
  fit : ∀ b x kb,st[b]? = some x→¬ 2≤x.mode→K b = some kb→kb.ro + x.cells.length≤kb.rsz
  glob : ∀ j g,gl[j]? = some g→∃ kb,K j = some kb∧kb.rb = g∧kb.ro = 0∧GSz n0 wi g kb.rsz
  fo : Fo n0 K st w

def EnvRel (K : KM) (env : Env) (tmps : Array Value) : Prop:=∀ t,VRel K (env t) (tmps.getD t undef)
def EnvBut (K : KM) (D : List Nat) (env : Env) (tmps : Array Value) : Prop:=∀ t,t ∉ D→VRel K (env t) (tmps.getD t undef)

theorem undefA_rel (K : KM) : VRel K undefA undef:=.tup (vs:=[]) .nil

section
variable {n0 : Nat} {wi : World} {gl : List Nat} {K : KM} {st : St} {w : World}

theorem WRel.drawn (h : WRel n0 wi gl K st w) (n : Nat) : WRel n0 wi gl K st { w with drawn:=n } where
  below:=⟨h.below.os,h.below.tape,h.below.output,h.below.size,h.below.block⟩
  dom:=h.dom
  lt:=h.lt
  cell:=h.cell
  live:=h.live
  excl:=h.excl
  fit:=h.fit
  glob:=h.glob
  fo:=h.fo.step (fun _ _ _ h1 _ h3=>⟨h1,h3⟩) (fun b x kb h1 h2 h3 h4=>.inl ⟨b,x,kb,h1,h2,h3,h4,rfl⟩) (Nat.le_refl _) (fun _ _=>.inl rfl)

theorem WRel.more (h : WRel n0 wi gl K st w) (x : Box) : WRel n0 wi gl K (st++[x]) w where
  below:=h.below
  dom:=fun b kb hb=>by have:=h.dom b kb hb; simp; omega
  lt:=fun b y kb hy hm hb=>by
    have hlt:=h.dom b kb hb
    rw [List.getElem?_append_left hlt] at hy
    exact h.lt b y kb hy hm hb
  cell:=fun b y kb hy hm hb=>by
    have hlt:=h.dom b kb hb
    rw [List.getElem?_append_left hlt] at hy
    exact h.cell b y kb hy hm hb
  live:=fun b y kb hy hm hb=>by
    have hlt:=h.dom b kb hb
    rw [List.getElem?_append_left hlt] at hy
    exact h.live b y kb hy hm hb
  excl:=fun b y kb b' y' kb' hy hm hb hy' hm' hb'=>by
    have hlt:=h.dom b kb hb
    have hlt':=h.dom b' kb' hb'
    rw [List.getElem?_append_left hlt] at hy
    rw [List.getElem?_append_left hlt'] at hy'
    exact h.excl b y kb b' y' kb' hy hm hb hy' hm' hb'
  fit:=fun b y kb hy hm hb=>by
    have hlt:=h.dom b kb hb
    rw [List.getElem?_append_left hlt] at hy
    exact h.fit b y kb hy hm hb
  glob:=h.glob
  fo:=h.fo.step (fun b y kb h1 _ h3=>⟨by rw [List.getElem?_append_left (h.dom b kb h3)] at h1; exact h1,h3⟩) (fun b y kb h1 h2 h3 h4=>.inl ⟨b,y,kb,by rw [List.getElem?_append_left (h.dom b kb h4)] at h1; exact h1,h2,h3,h4,rfl⟩) (Nat.le_refl _) (fun _ _=>.inl rfl)

def KM.set (K : KM) (b : Nat) (kb : KB) : KM:=fun c=>if c = b then some kb else K c
theorem KM.le_set {K : KM} {b : Nat} {kb : KB} (h : K b = none) : KM.le K (K.set b kb):=fun c kc hc=>by
  unfold KM.set
  split
  · subst_vars; rw [h] at hc; cases hc
  · exact hc

def World.push (w : World) (o : Obj) : World:={ w with heap:=w.heap.push o }
theorem cell?_push_old (w : World) (o : Obj) (a : Addr) (h : a.block < w.heap.size) : (World.push w o).cell? a = w.cell? a:=by
  unfold World.cell? World.push
  simp only [Array.getElem?_push]
  rw [if_neg (by omega)]
theorem cell?_push_new (w : World) (c : Array Value) (el : TypeId) (o : Nat) : (World.push w (.cells c el)).cell? ⟨w.heap.size,o,none⟩ = c[o]?:=by
  unfold World.cell? World.push
  simp
theorem heap_push_old (w : World) (o : Obj) (i : Nat) (h : i < w.heap.size) : (World.push w o).heap[i]? = w.heap[i]?:=by
  unfold World.push
  simp only [Array.getElem?_push]
  rw [if_neg (by omega)]
theorem heap_push_new (w : World) (o : Obj) : (World.push w o).heap[w.heap.size]? = some o:=by
  unfold World.push
  simp

theorem WRel.new (h : WRel n0 wi gl K st w) (hn : n0≤w.heap.size) {b : Nat} {x : Box} (hb : K b = none) (hx : st[b]? = some x) (hm : x.mode = 0) {c : Array Value} {el : TypeId} {rsz : Nat}
    (hr : c.size = rsz) (hc : ∀ (o : Nat) (a : AV),x.cells[o]? = some a→∃ v,c[o]? = some v∧VRel K a v) :
    WRel n0 wi gl (K.set b ⟨w.heap.size,0,rsz⟩) st (World.push w (.cells c el)) where
  below:=h.below.alloc hn _
  dom:=fun b' kb hb'=>by
    unfold KM.set at hb'
    split at hb'
    · subst_vars; exact (List.getElem?_eq_some_iff.1 hx).1
    · exact h.dom b' kb hb'
  lt:=fun b' y kb hy hm' hb'=>by
    have hs : (World.push w (.cells c el)).heap.size = w.heap.size + 1:=by simp [World.push]
    unfold KM.set at hb'
    split at hb'
    · simp at hb'; subst hb'; rw [hs]; show w.heap.size < _; omega
    · have:=h.lt b' y kb hy hm' hb'; omega
  cell:=fun b' y kb hy hm' hb' o a ho=>by
    unfold KM.set at hb'
    split at hb'
    · rename_i e
      simp at hb'; subst hb'; subst e
      rw [hx] at hy; simp at hy; subst hy
      obtain ⟨v,hv,hr⟩:=hc o a ho
      refine ⟨v,?_,hr.mono (KM.le_set hb)⟩
      show (World.push w (.cells c el)).cell? ⟨w.heap.size,0 + o,none⟩ = some v
      rw [Nat.zero_add,cell?_push_new]; exact hv
    · obtain ⟨v,hv,hr⟩:=h.cell b' y kb hy hm' hb' o a ho
      refine ⟨v,?_,hr.mono (KM.le_set hb)⟩
      rw [cell?_push_old _ _ _ (h.lt b' y kb hy (fun e=>hm' (by rw [e]; exact Nat.le_refl _)) hb')]; exact hv
  live:=fun b' y kb hy hm' hb'=>by
    unfold KM.set at hb'
    split at hb'
    · rename_i e
      simp at hb'; subst hb'; subst e
      rw [hx] at hy; simp at hy; subst hy
      exact ⟨hn,c,el,heap_push_new _ _,hr⟩
    · obtain ⟨h1,c',el',h3,h4⟩:=h.live b' y kb hy hm' hb'
      refine ⟨h1,c',el',?_,h4⟩
      rw [heap_push_old _ _ _ (h.lt b' y kb hy (by rw [hm']; decide) hb')]; exact h3
  excl:=fun b1 y1 kb1 b2 y2 kb2 hy1 hm1 hb1 hy2 hm2 hb2 hne=>by
    unfold KM.set at hb1 hb2
    split at hb1<;>split at hb2
    · subst_vars; exact absurd rfl hne
    · simp at hb1; subst hb1
      have:=h.lt b2 y2 kb2 hy2 hm2 hb2
      show w.heap.size≠_; omega
    · simp at hb2; subst hb2
      have:=h.lt b1 y1 kb1 hy1 (by rw [hm1]; decide) hb1
      show _≠w.heap.size; omega
    · exact h.excl b1 y1 kb1 b2 y2 kb2 hy1 hm1 hb1 hy2 hm2 hb2 hne
  fit:=fun b' y kb hy hm' hb'=>by
    unfold KM.set at hb'
    split at hb'
    · rename_i e
      simp at hb'; subst hb'; subst e
      rw [hx] at hy; simp at hy; subst hy
      show 0 + x.cells.length≤rsz
      rw [Nat.zero_add,← hr]
      rcases Nat.eq_zero_or_pos x.cells.length with h0 | h0
      · omega
      · obtain ⟨v,hv,_⟩:=hc (x.cells.length - 1) _ (List.getElem?_eq_getElem (by omega))
        have:=(Array.getElem?_eq_some_iff.1 hv).1
        omega
    · exact h.fit b' y kb hy hm' hb'
  glob:=fun j g hg=>by
    obtain ⟨kb,h1,h2⟩:=h.glob j g hg
    exact ⟨kb,KM.le_set hb _ _ h1,h2⟩
  fo:=h.fo.step (fun b' y kb hy hm3 hk=>by
      unfold KM.set at hk
      split at hk
      · rename_i e
        subst e
        rw [hx] at hy; cases hy
        rw [hm] at hm3; cases hm3
      · exact ⟨hy,hk⟩)
    (fun b' y kb hy hm2 hm3 hk=>by
      unfold KM.set at hk
      split at hk
      · cases hk
        exact .inr (Nat.le_refl _)
      · exact .inl ⟨b',y,kb,hy,hm2,hm3,hk,rfl⟩)
    (by simp [World.push]) (fun i hi=>.inl (heap_push_old w _ i hi))

theorem WRel.newR (h : WRel n0 wi gl K st w) (hn : n0≤w.heap.size) {b : Nat} {x : Box} (hb : K b = none) (hx : st[b]? = some x) (hm : x.mode = 1) {c : Array Value} {el : TypeId} {fz : Nat × Nat} {rsz : Nat}
    (hr : c.size = rsz) (hc : ∀ (o : Nat) (a : AV),x.cells[o]? = some a→∃ v,c[o]? = some v∧VRel K a v) :
    WRel n0 wi gl (K.set b ⟨w.heap.size,0,rsz⟩) st (World.push w (.cells c el fz)) where
  below:=h.below.alloc hn _
  dom:=fun b' kb hb'=>by
    unfold KM.set at hb'
    split at hb'
    · subst_vars; exact (List.getElem?_eq_some_iff.1 hx).1
    · exact h.dom b' kb hb'
  lt:=fun b' y kb hy hm' hb'=>by
    have hs : (World.push w (.cells c el fz)).heap.size = w.heap.size + 1:=by simp [World.push]
    unfold KM.set at hb'
    split at hb'
    · simp at hb'; subst hb'; rw [hs]; show w.heap.size < _; omega
    · have:=h.lt b' y kb hy hm' hb'; omega
  cell:=fun b' y kb hy hm' hb' o a ho=>by
    unfold KM.set at hb'
    split at hb'
    · rename_i e
      simp at hb'; subst hb'; subst e
      rw [hx] at hy; simp at hy; subst hy
      obtain ⟨v,hv,hr⟩:=hc o a ho
      refine ⟨v,?_,hr.mono (KM.le_set hb)⟩
      show (World.push w (.cells c el fz)).cell? ⟨w.heap.size,0 + o,none⟩ = some v
      rw [Nat.zero_add]
      unfold World.cell? World.push
      simpa using hv
    · obtain ⟨v,hv,hr⟩:=h.cell b' y kb hy hm' hb' o a ho
      refine ⟨v,?_,hr.mono (KM.le_set hb)⟩
      rw [cell?_push_old _ _ _ (h.lt b' y kb hy (fun e=>hm' (by rw [e]; exact Nat.le_refl _)) hb')]; exact hv
  live:=fun b' y kb hy hm' hb'=>by
    unfold KM.set at hb'
    split at hb'
    · rename_i e
      subst e
      rw [hx] at hy; cases hy
      rw [hm] at hm'; cases hm'
    · obtain ⟨h1,c',el',h3,h4⟩:=h.live b' y kb hy hm' hb'
      refine ⟨h1,c',el',?_,h4⟩
      rw [heap_push_old _ _ _ (h.lt b' y kb hy (by rw [hm']; decide) hb')]; exact h3
  excl:=fun b1 y1 kb1 b2 y2 kb2 hy1 hm1 hb1 hy2 hm2 hb2 hne=>by
    unfold KM.set at hb1 hb2
    split at hb1<;>split at hb2
    · subst_vars; exact absurd rfl hne
    · rename_i e _
      subst e
      rw [hx] at hy1; cases hy1
      rw [hm] at hm1; cases hm1
    · simp at hb2; subst hb2
      have:=h.lt b1 y1 kb1 hy1 (by rw [hm1]; decide) hb1
      show _≠w.heap.size; omega
    · exact h.excl b1 y1 kb1 b2 y2 kb2 hy1 hm1 hb1 hy2 hm2 hb2 hne
  fit:=fun b' y kb hy hm' hb'=>by
    unfold KM.set at hb'
    split at hb'
    · rename_i e
      simp at hb'; subst hb'; subst e
      rw [hx] at hy; simp at hy; subst hy
      show 0 + x.cells.length≤rsz
      rw [Nat.zero_add,← hr]
      rcases Nat.eq_zero_or_pos x.cells.length with h0 | h0
      · omega
      · obtain ⟨v,hv,_⟩:=hc (x.cells.length - 1) _ (List.getElem?_eq_getElem (by omega))
        have:=(Array.getElem?_eq_some_iff.1 hv).1
        omega
    · exact h.fit b' y kb hy hm' hb'
  glob:=fun j g hg=>by
    obtain ⟨kb,h1,h2⟩:=h.glob j g hg
    exact ⟨kb,KM.le_set hb _ _ h1,h2⟩
  fo:=h.fo.step (fun b' y kb hy hm3 hk=>by
      unfold KM.set at hk
      split at hk
      · rename_i e
        subst e
        rw [hx] at hy; cases hy
        rw [hm] at hm3; cases hm3
      · exact ⟨hy,hk⟩)
    (fun b' y kb hy hm2 hm3 hk=>by
      unfold KM.set at hk
      split at hk
      · cases hk
        exact .inr (Nat.le_refl _)
      · exact .inl ⟨b',y,kb,hy,hm2,hm3,hk,rfl⟩)
    (by simp [World.push]) (fun i hi=>.inl (heap_push_old w _ i hi))

theorem WRel.newF (h : WRel n0 wi gl K st w) (hn : n0≤w.heap.size) {b : Nat} {x : Box} (hb : K b = none) (hx : st[b]? = some x) (hm : x.mode = 3) {c : Array Value} {el : TypeId} {rsz : Nat}
    (hp : Phi x.cells w.heap.size [w.heap.size] (World.push w (.cells c el))) : WRel n0 wi gl (K.set b ⟨w.heap.size,0,rsz⟩) st (World.push w (.cells c el)) where
  below:=h.below.alloc hn _
  dom:=fun b' kb hb'=>by
    unfold KM.set at hb'
    split at hb'
    · subst_vars; exact (List.getElem?_eq_some_iff.1 hx).1
    · exact h.dom b' kb hb'
  lt:=fun b' y kb hy hm' hb'=>by
    have hs : (World.push w (.cells c el)).heap.size = w.heap.size + 1:=by simp [World.push]
    unfold KM.set at hb'
    split at hb'
    · simp at hb'; subst hb'; rw [hs]; show w.heap.size < _; omega
    · have:=h.lt b' y kb hy hm' hb'; omega
  cell:=fun b' y kb hy hm' hb' o a ho=>by
    unfold KM.set at hb'
    split at hb'
    · rename_i e
      subst e
      rw [hx] at hy; cases hy
      exact absurd hm' (by rw [hm]; decide)
    · obtain ⟨v,hv,hr⟩:=h.cell b' y kb hy hm' hb' o a ho
      refine ⟨v,?_,hr.mono (KM.le_set hb)⟩
      rw [cell?_push_old _ _ _ (h.lt b' y kb hy (fun e=>hm' (by rw [e]; exact Nat.le_refl _)) hb')]; exact hv
  live:=fun b' y kb hy hm' hb'=>by
    unfold KM.set at hb'
    split at hb'
    · rename_i e
      subst e
      rw [hx] at hy; cases hy
      rw [hm] at hm'; cases hm'
    · obtain ⟨h1,c',el',h3,h4⟩:=h.live b' y kb hy hm' hb'
      refine ⟨h1,c',el',?_,h4⟩
      rw [heap_push_old _ _ _ (h.lt b' y kb hy (by rw [hm']; decide) hb')]; exact h3
  excl:=fun b1 y1 kb1 b2 y2 kb2 hy1 hm1 hb1 hy2 hm2 hb2 hne=>by
    unfold KM.set at hb1 hb2
    split at hb1<;>split at hb2
    · subst_vars; exact absurd rfl hne
    · rename_i e _
      subst e
      rw [hx] at hy1; cases hy1
      rw [hm] at hm1; cases hm1
    · simp at hb2; subst hb2
      have:=h.lt b1 y1 kb1 hy1 (by rw [hm1]; decide) hb1
      show _≠w.heap.size; omega
    · exact h.excl b1 y1 kb1 b2 y2 kb2 hy1 hm1 hb1 hy2 hm2 hb2 hne
  fit:=fun b' y kb hy hm' hb'=>by
    unfold KM.set at hb'
    split at hb'
    · rename_i e
      subst e
      rw [hx] at hy; cases hy
      exact absurd hm' (by rw [hm]; decide)
    · exact h.fit b' y kb hy hm' hb'
  glob:=fun j g hg=>by
    obtain ⟨kb,h1,h2⟩:=h.glob j g hg
    exact ⟨kb,KM.le_set hb _ _ h1,h2⟩
  fo:=by
    have hs : (World.push w (.cells c el)).heap.size = w.heap.size + 1:=by simp [World.push]
    obtain ⟨fp,hfp⟩:=h.fo
    have hset : ∀ {i k},(K.set b ⟨w.heap.size,0,rsz⟩) i = some k→(i = b∧k = ⟨w.heap.size,0,rsz⟩)∨(i≠b∧K i = some k):=fun {i k} hk=>by
      unfold KM.set at hk
      split at hk
      · cases hk; exact .inl ⟨by assumption,rfl⟩
      · exact .inr ⟨by assumption,hk⟩
    refine ⟨fun i=>if i = b then [w.heap.size] else fp i,fun b1 y kb hy hmy hk=>?_⟩
    rcases hset hk with ⟨rfl,rfl⟩ | ⟨hne,hk⟩
    · rw [hx] at hy; cases hy
      simp only [if_true]
      refine ⟨⟨trivial,hp⟩,fun i hi=>?_,fun b' x' kb' hx' h2 h3 hk' hi=>?_,fun b' x' kb' hb' hx' hm' hk' i hi=>?_⟩
      · simp at hi; subst hi; exact ⟨hn,by omega⟩
      · rcases hset hk' with ⟨rfl,rfl⟩ | ⟨_,hk'⟩
        · rw [hx] at hx'; cases hx'; exact h3 hm
        · have:=h.lt b' x' kb' hx' h2 hk'
          simp at hi; omega
      · rw [if_neg hb'] at hi
        rcases hset hk' with ⟨e,_⟩ | ⟨_,hk'⟩
        · exact absurd e hb'
        · have:=((hfp b' x' kb' hx' hm' hk').2.1 i hi).2
          simp; omega
    · obtain ⟨g1,g2,g3,g4⟩:=hfp b1 y kb hy hmy hk
      simp only [if_neg hne]
      refine ⟨⟨g1.1,g1.2.frame fun i hi=>heap_push_old w _ i (g2 i hi).2⟩,fun i hi=>⟨(g2 i hi).1,by have:=(g2 i hi).2; omega⟩,fun b' x' kb' hx' h2 h3 hk'=>?_,fun b' x' kb' hb' hx' hm' hk' i hi hi2=>?_⟩
      · rcases hset hk' with ⟨rfl,rfl⟩ | ⟨_,hk'⟩
        · rw [hx] at hx'; cases hx'; exact absurd hm h3
        · exact g3 b' x' kb' hx' h2 h3 hk'
      · rcases hset hk' with ⟨rfl,rfl⟩ | ⟨hne',hk'⟩
        · simp at hi
          have:=(g2 i hi2).2; omega
        · rw [if_neg hne'] at hi
          exact g4 b' x' kb' hb' hx' hm' hk' i hi hi2

theorem WRel.size (h : WRel n0 wi gl K st w) (hn : n0≤wi.heap.size) : n0≤w.heap.size:=Nat.le_trans hn h.below.size

theorem cell?_setCell_ne (w : World) (a p : Addr) (v : Value) (h : a.block≠p.block) : (w.setCell a v).cell? p = w.cell? p:=by
  unfold World.cell? World.setCell
  simp only [Array.getElem?_modify]
  rw [if_neg h]
theorem heap_setCell_ne (w : World) (a : Addr) (v : Value) (i : Nat) (h : a.block≠i) : (w.setCell a v).heap[i]? = w.heap[i]?:=by
  unfold World.setCell
  simp only [Array.getElem?_modify]
  rw [if_neg h]
theorem heap_setCell_size (w : World) (a : Addr) (v : Value) : (w.setCell a v).heap.size = w.heap.size:=by
  unfold World.setCell; simp
theorem heap_setCell_eq (w : World) (b o : Nat) (v : Value) {c : Array Value} {el : TypeId} {fz : Nat × Nat} (h : w.heap[b]? = some (.cells c el fz)) : (w.setCell ⟨b,o,none⟩ v).heap[b]? = some (.cells (c.setIfInBounds o v) el fz):=by
  unfold World.setCell
  simp only [Array.getElem?_modify]
  simp [h]
theorem WRel.setF (h : WRel n0 wi gl K st w) (hn : n0≤wi.heap.size) {b : Nat} {x x' : Box} {kb : KB} {w' : World} {S : List Nat} {fp : Nat→List Nat} (hfp : FoAt fp n0 K st w) (hx : st[b]? = some x) (hm : x.mode = 3) (hm' : x'.mode = 3) (hk : K b = some kb)
    (hos : w'.os = w.os) (htp : w'.tape = w.tape) (hou : w'.output = w.output) (hs : w.heap.size≤w'.heap.size) (hw : ∀ k,k < w.heap.size→k ∉ fp b→w'.heap[k]? = w.heap[k]?)
    (hp : Phi x'.cells kb.rb S w') (hS : ∀ k ∈ S,(k ∈ fp b∨w.heap.size≤k)∧k < w'.heap.size) : WRel n0 wi gl K (st.set b x') w':=by
  have hbl : b < st.length:=(List.getElem?_eq_some_iff.1 hx).1
  have hn':=h.size hn
  obtain ⟨f1,f2,f3,f4⟩:=hfp b x kb hx hm hk
  have hget : ∀ i y,(st.set b x')[i]? = some y→(i = b∧y = x')∨(i≠b∧st[i]? = some y):=fun i y hy=>by
    rw [List.getElem?_set] at hy
    split at hy
    · rename_i e; subst e
      simp [hbl] at hy; exact .inl ⟨rfl,hy.symm⟩
    · rename_i e; exact .inr ⟨fun e'=>e e'.symm,hy⟩
  have hcell : ∀ {i y k},st[i]? = some y→¬ 2≤y.mode→K i = some k→w'.heap[k.rb]? = w.heap[k.rb]?:=fun {i y k} hy hmy hki =>
    hw _ (h.lt i y k hy (fun e=>hmy (by rw [e]; exact Nat.le_refl _)) hki) (f3 i y k hy (fun e=>hmy (by rw [e]; exact Nat.le_refl _)) (fun e=>hmy (by rw [e]; exact Nat.le_succ _)) hki)
  refine ⟨h.below.trans ⟨hos,htp,hou,hs,fun k hk'=>hw k (by omega) (fun hin=>by have:=(f2 k hin).1; omega)⟩,fun i k hki=>by simpa using h.dom i k hki,?_,?_,?_,?_,?_,h.glob,?_⟩
  · intro i y k hy hmy hki
    rcases hget i y hy with ⟨rfl,rfl⟩ | ⟨_,hz⟩
    · exact Nat.lt_of_lt_of_le (h.lt i x k hx (by rw [hm]; decide) hki) hs
    · exact Nat.lt_of_lt_of_le (h.lt i y k hz hmy hki) hs
  · intro i y k hy hmy hki o a ho
    rcases hget i y hy with ⟨rfl,rfl⟩ | ⟨_,hz⟩
    · exact absurd hmy (by rw [hm']; decide)
    · obtain ⟨v,hv,hr⟩:=h.cell i y k hz hmy hki o a ho
      refine ⟨v,?_,hr⟩
      unfold World.cell? at hv ⊢
      simp only at hv ⊢
      rw [hcell hz hmy hki]; exact hv
  · intro i y k hy hmy hki
    rcases hget i y hy with ⟨rfl,rfl⟩ | ⟨_,hz⟩
    · rw [hm'] at hmy; cases hmy
    · obtain ⟨h1,c,el,h3,h4⟩:=h.live i y k hz hmy hki
      exact ⟨h1,c,el,by rw [hcell hz (by rw [hmy]; decide) hki]; exact h3,h4⟩
  · intro i y k i' y' k' hy hmy hki hy' hmy' hki' hne
    rcases hget i y hy with ⟨rfl,rfl⟩ | ⟨_,hz⟩
    · rw [hm'] at hmy; cases hmy
    · rcases hget i' y' hy' with ⟨rfl,rfl⟩ | ⟨_,hz'⟩
      · exact h.excl i y k i' x k' hz hmy hki hx (by rw [hm]; decide) hki' hne
      · exact h.excl i y k i' y' k' hz hmy hki hz' hmy' hki' hne
  · intro i y k hy hmy hki
    rcases hget i y hy with ⟨rfl,rfl⟩ | ⟨_,hz⟩
    · exact absurd hmy (by rw [hm']; decide)
    · exact h.fit i y k hz hmy hki
  · refine ⟨fun i=>if i = b then S else fp i,fun i y k hy hmy hki=>?_⟩
    rcases hget i y hy with ⟨rfl,rfl⟩ | ⟨hne,hz⟩
    · simp only [if_true]
      rw [hk] at hki; cases hki
      refine ⟨⟨f1.1,hp⟩,fun j hj=>⟨?_,(hS j hj).2⟩,fun b' y' k' hy' h2 h3 hk' hj=>?_,fun b' y' k' hb' hy' hm3 hk' j hj hj2=>?_⟩
      · rcases (hS j hj).1 with h1 | h1
        · exact (f2 j h1).1
        · omega
      · rcases hget b' y' hy' with ⟨rfl,rfl⟩ | ⟨_,hz'⟩
        · exact h3 hm'
        · rcases (hS _ hj).1 with h1 | h1
          · exact f3 b' y' k' hz' h2 h3 hk' h1
          · have:=h.lt b' y' k' hz' h2 hk'; omega
      · rw [if_neg hb'] at hj
        rcases hget b' y' hy' with ⟨e,_⟩ | ⟨_,hz'⟩
        · exact hb' e
        · rcases (hS _ hj2).1 with h1 | h1
          · exact f4 b' y' k' hb' hz' hm3 hk' j hj h1
          · have:=((hfp b' y' k' hz' hm3 hk').2.1 j hj).2; omega
    · obtain ⟨g1,g2,g3,g4⟩:=hfp i y k hz hmy hki
      simp only [if_neg hne]
      refine ⟨⟨g1.1,g1.2.frame fun j hj=>hw j (g2 j hj).2 (fun hin=>g4 b x kb (Ne.symm hne) hx hm hk j hin hj)⟩,fun j hj=>⟨(g2 j hj).1,Nat.lt_of_lt_of_le (g2 j hj).2 hs⟩,fun b' y' k' hy' h2 h3 hk'=>?_,fun b' y' k' hb' hy' hm3 hk' j hj hj2=>?_⟩
      · rcases hget b' y' hy' with ⟨rfl,rfl⟩ | ⟨_,hz'⟩
        · exact absurd hm' h3
        · exact g3 b' y' k' hz' h2 h3 hk'
      · rcases hget b' y' hy' with ⟨rfl,rfl⟩ | ⟨hne',hz'⟩
        · rw [if_pos rfl] at hj
          rcases (hS _ hj).1 with h1 | h1
          · exact g4 b' x kb hb' hx hm hk j h1 hj2
          · have:=(g2 j hj2).2; omega
        · rw [if_neg hne'] at hj
          exact g4 b' y' k' hb' hz' hm3 hk' j hj hj2
end
end Go.VX
end
