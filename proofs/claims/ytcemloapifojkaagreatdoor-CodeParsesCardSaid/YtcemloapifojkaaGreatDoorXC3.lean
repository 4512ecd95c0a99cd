/- A part of the proofs of the statements of one layer: V3, V4, V5, V6, V7. No condition is added here. -/
import Derived.Laws.Sem
import Derived.Test.YtcemloapifojkaaGreatDoorXC2
set_option linter.unusedVariables false
set_option linter.unusedSimpArgs false
section
namespace Go.VX
open Go.RowKit (Below)

theorem add_eq (r o n : Nat) : (⟨r,o,none⟩ : Addr).add n = ⟨r,o + n,none⟩:=by
  unfold Addr.add
  split
  · subst_vars; rfl
  · rfl

section
variable {P : Program} {n0 : Nat} {wi : World} {gl : List Nat} {K : KM} {st : St} {w : World}

theorem run_bind {α β : Type} (s : Sem α) (f : α→Sem β) (w : World) {a : α} {w' : World} (h : s.run P w = .ok a w') : (s >>= f).run P w = (f a).run P w':=by
  rw [Sem.run_bind,h]; rfl

theorem run_pure {α : Type} (a : α) (w : World) : (pure a : Sem α).run P w = .ok a w:=rfl
theorem run_closed {α : Type} : ∀ (s : Sem α) {a : α},closed P s = some a→∀ w,s.run P w = .ok a w
  | .pure x,a,h,w=>by simp [closed] at h; subst h; rfl
  | .program k,a,h,w=>run_closed (k P) (by simpa [closed] using h) w
  | .load _ _ _,_,h,_=>by simp [closed] at h
  | .store _ _ _ _,_,h,_=>by simp [closed] at h
  | .new _ _,_,h,_=>by simp [closed] at h
  | .shape _ _,_,h,_=>by simp [closed] at h
  | .freeze _ _ _,_,h,_=>by simp [closed] at h
  | .frozen _ _,_,h,_=>by simp [closed] at h
  | .getObj _ _,_,h,_=>by simp [closed] at h
  | .setObj _ _ _,_,h,_=>by simp [closed] at h
  | .choose _ _,_,h,_=>by simp [closed] at h
  | .sys _ _,_,h,_=>by simp [closed] at h
  | .mark _ _,_,h,_=>by simp [closed] at h
  | .halt _,_,h,_=>by simp [closed] at h

theorem run_load {a : Addr} {v : Value} (h : w.cell? a = some v) : (load a).run P w = .ok v w:=by
  unfold load
  simp [Sem.run,h]

theorem run_loadCellsFrom (a : Addr) : ∀ (vs : List Value) (i : Nat) (acc : Array Value),(∀ j v,vs[j]? = some v→w.cell? (a.add (i + j)) = some v) →
    (loadCellsFrom a i vs.length acc).run P w = .ok (acc++vs.toArray) w
  | [],i,acc,_=>by simp [loadCellsFrom,run_pure]
  | v :: vs,i,acc,h=>by
    have h0:=h 0 v (by simp)
    simp only [List.length_cons,loadCellsFrom]
    rw [run_bind _ _ _ (run_load (by simpa using h0)),run_loadCellsFrom a vs (i + 1) (acc.push v) (fun j u hu=>by
      have:=h (j + 1) u (by simpa using hu)
      rw [show i + 1 + j = i + (j + 1) from by omega]; exact this)]
    simp

theorem run_loadCells {r o : Nat} {vs : List Value} (h : ∀ j v,vs[j]? = some v→w.cell? ⟨r,o + j,none⟩ = some v) {n : Nat} (hn : vs.length = n) :
    (loadCells ⟨r,o,none⟩ n).run P w = .ok vs.toArray w:=by
  subst hn
  unfold loadCells
  rw [run_loadCellsFrom _ vs 0 #[] (fun j v hv=>by rw [add_eq,Nat.zero_add]; exact h j v hv)]
  simp

theorem WRel.cells (h : WRel n0 wi gl K st w) {b o n : Nat} {kb : KB} {as : List AV} (hb : K b = some kb) (hs : st.atN b o n = some as) :
    as.length = n∧∃ vs : List Value,VRels K as vs∧∀ j v,vs[j]? = some v→w.cell? ⟨kb.rb,kb.ro + o + j,none⟩ = some v:=by
  unfold St.atN at hs
  split at hs
  · rename_i x hx
    split at hs
    · cases hs
    · rename_i hm
      split at hs
      · rename_i hl
        simp only [Option.some.injEq] at hs
        have hlen : as.length = n:=by rw [←hs]; simp; omega
        have hget : ∀ j a,as[j]? = some a→∃ v,w.cell? ⟨kb.rb,kb.ro + (o + j),none⟩ = some v∧VRel K a v:=fun j a ha=>by
          refine h.cell b x kb hx hm hb (o + j) a ?_
          have hj : j < n:=by rw [←hlen]; exact (List.getElem?_eq_some_iff.1 ha).1
          rw [←hs] at ha
          simpa [List.getElem?_take,hj] using ha
        refine ⟨hlen,?_⟩
        -- the values,one by one
        have key : ∀ (as : List AV) (o : Nat),(∀ j a,as[j]? = some a→∃ v,w.cell? ⟨kb.rb,kb.ro + (o + j),none⟩ = some v∧VRel K a v) →
            ∃ vs : List Value,VRels K as vs∧∀ j v,vs[j]? = some v→w.cell? ⟨kb.rb,kb.ro + o + j,none⟩ = some v:=by
          intro as
          induction as with
          | nil=>exact fun o _=>⟨[],.nil,fun j v hv=>by simp at hv⟩
          | cons a as ih =>
            intro o hg
            obtain ⟨v,hv,hr⟩:=hg 0 a (by simp)
            obtain ⟨vs,hvs,hc⟩:=ih (o + 1) (fun j a ha=>by
              have:=hg (j + 1) a (by simpa using ha)
              rw [show o + 1 + j = o + (j + 1) from by omega]; exact this)
            refine ⟨v :: vs,.cons hr hvs,fun j u hu=>?_⟩
            cases j with
            | zero=>simp at hu; subst hu; simpa using hv
            | succ j =>
              have:=hc j u (by simpa using hu)
              rw [show kb.ro + o + (j + 1) = kb.ro + (o + 1) + j from by omega]; exact this
        exact key as o hget
      · cases hs
  · cases hs

theorem WRel.at1 (h : WRel n0 wi gl K st w) {b o : Nat} {kb : KB} {a : AV} (hb : K b = some kb) (hs : st.at1 b o = some a) :
    ∃ v,w.cell? ⟨kb.rb,kb.ro + o,none⟩ = some v∧VRel K a v:=by
  unfold St.at1 at hs
  split at hs
  · rename_i x hx
    split at hs
    · cases hs
    · rename_i hm
      exact h.cell b x kb hx hm hb o a hs
  · cases hs

theorem VRel.cellVal {a : AV} {v : Value} (h : VRel K a v) (hc : a.isCell = true) : cellVal v = true:=by
  cases h with
  | sc h=>exact h
  | agg=>simp [AV.isCell] at hc
  | tup=>simp [AV.isCell] at hc
  | _=>rfl

theorem run_store {r o : Nat} {v : Value} {c : Array Value} {el : TypeId} (hh : w.heap[r]? = some (.cells c el (0,0))) (ho : o < c.size) (hv : cellVal v = true) :
    (store ⟨r,o,none⟩ v).run P w = .ok () (w.setCell ⟨r,o,none⟩ v):=by
  have hc : w.cell? ⟨r,o,none⟩ = some c[o]:=by simp [World.cell?,hh,ho]
  have hf : w.frozen? ⟨r,o,none⟩ = false:=by simp [World.frozen?,hh]
  unfold store
  cases v<;>first | (simp [cellVal] at hv; done) | (simp [Sem.run,hc,hf])

structure OneBlock (r : Nat) (w w' : World) (c c' : Array Value) (el : TypeId) : Prop where
  os : w'.os = w.os
  tape : w'.tape = w.tape
  output : w'.output = w.output
  size : w'.heap.size = w.heap.size
  other : ∀ i,i≠r→w'.heap[i]? = w.heap[i]?
  this : w'.heap[r]? = some (.cells c' el (0,0))
  len : c'.size = c.size

theorem run_storeCells (r : Nat) {el : TypeId} : ∀ (vs : List Value) (i o : Nat) (w : World) (c : Array Value),w.heap[r]? = some (.cells c el (0,0))→o + i + vs.length≤c.size→(∀ v ∈ vs,cellVal v = true) →
    ∃ w' c',(storeCells ⟨r,o,none⟩ vs i).run P w = .ok () w'∧OneBlock r w w' c c' el∧∀ j,c'[j]? = if o + i≤j∧j < o + i + vs.length then vs[j - (o + i)]? else c[j]?
  | [],i,o,w,c,hh,_,_=>⟨w,c,by simp [storeCells,run_pure],⟨rfl,rfl,rfl,rfl,fun _ _=>rfl,hh,rfl⟩,fun j=>by
      rw [if_neg]; intro h; simp at h; omega⟩
  | v :: vs,i,o,w,c,hh,hl,hv=>by
    simp only [List.length_cons] at hl
    have h1:=run_store (P:=P) (w:=w) (r:=r) (o:=o + i) (v:=v) hh (by omega) (hv v (by simp))
    have hh2 : (w.setCell ⟨r,o + i,none⟩ v).heap[r]? = some (.cells (c.setIfInBounds (o + i) v) el (0,0)):=heap_setCell_eq w r (o + i) v hh
    obtain ⟨w',c',hr,hob,hc⟩:=run_storeCells r vs (i + 1) o (w.setCell ⟨r,o + i,none⟩ v) (c.setIfInBounds (o + i) v) hh2 (by simp; omega) (fun u hu=>hv u (by simp [hu]))
    refine ⟨w',c',?_,?_,?_⟩
    · unfold storeCells
      rw [add_eq,run_bind _ _ _ h1]
      exact hr
    · exact ⟨hob.os,hob.tape,hob.output,by rw [hob.size,heap_setCell_size],fun k hk=>by rw [hob.other k hk,heap_setCell_ne _ _ _ _ (fun e=>hk e.symm)],hob.this,by rw [hob.len]; simp⟩
    · intro j
      rw [hc j]
      simp only [List.length_cons]
      by_cases h1 : j = o + i
      · subst h1
        rw [if_neg (by omega),if_pos (by omega)]
        simp [Array.getElem?_setIfInBounds]
        omega
      · by_cases h2 : o + (i + 1)≤j∧j < o + (i + 1) + vs.length
        · rw [if_pos h2,if_pos (by omega)]
          rw [show j - (o + i) = (j - (o + (i + 1))) + 1 from by omega]
          simp
        · rw [if_neg h2,if_neg (by omega)]
          rw [Array.getElem?_setIfInBounds]
          rw [if_neg (by omega)]

theorem Below.oneBlock {r : Nat} {w' : World} {c c' : Array Value} {el : TypeId} (h : Below n0 wi w) (ho : OneBlock r w w' c c' el) (hr : n0≤r) : Below n0 wi w' :=
  h.trans ⟨ho.os,ho.tape,ho.output,by rw [ho.size]; exact Nat.le_refl _,fun k hk=>ho.other k (by omega)⟩

theorem cell?_other {r : Nat} {w' : World} {c c' : Array Value} {el : TypeId} (ho : OneBlock r w w' c c' el) (a : Addr) (ha : a.block≠r) : w'.cell? a = w.cell? a:=by
  unfold World.cell?
  rw [ho.other _ ha]
theorem cell?_this {r : Nat} {w' : World} {c c' : Array Value} {el : TypeId} (ho : OneBlock r w w' c c' el) (o : Nat) : w'.cell? ⟨r,o,none⟩ = c'[o]?:=by
  unfold World.cell?
  rw [ho.this]
  simp

theorem WRel.write (h : WRel n0 wi gl K st w) {b : Nat} {kb : KB} {x x' : Box} {w' : World} {c c' : Array Value} {el : TypeId} (hb : K b = some kb) (hx : st[b]? = some x) (hm : x.mode = 0)
    (ho : OneBlock kb.rb w w' c c' el) (hsz : c.size = kb.rsz) (he : x'.cells.length = x.cells.length) (hm' : x'.mode = 0) (hc : ∀ (o : Nat) (a : AV),x'.cells[o]? = some a→∃ v,c'[kb.ro + o]? = some v∧VRel K a v) :
    WRel n0 wi gl K (st.set b x') w':=by
  obtain ⟨hn,c0,el0,hh0,hs0⟩:=h.live b x kb hx hm hb
  have hbl : b < st.length:=(List.getElem?_eq_some_iff.1 hx).1
  have hget : ∀ i y,(st.set b x')[i]? = some y→(i = b∧y = x')∨(i≠b∧st[i]? = some y):=fun i y hy=>by
    rw [List.getElem?_set] at hy
    split at hy
    · rename_i e; subst e
      simp [hbl] at hy; exact .inl ⟨rfl,hy.symm⟩
    · rename_i e; exact .inr ⟨fun e'=>e e'.symm,hy⟩
  refine ⟨Below.oneBlock h.below ho hn,fun i k hk=>by simpa using h.dom i k hk,?_,?_,?_,?_,?_,h.glob,?_⟩
  rotate_right
  · refine h.fo.step (fun i y k hy hm3 hk=>?_) (fun i y k hy h2 h3 hk=>.inl ?_) (by rw [ho.size]; exact Nat.le_refl _) (fun i _=>?_)
    · rcases hget i y hy with ⟨_,rfl⟩ | ⟨_,hy⟩
      · rw [hm'] at hm3; cases hm3
      · exact ⟨hy,hk⟩
    · rcases hget i y hy with ⟨rfl,rfl⟩ | ⟨_,hy⟩
      · exact ⟨i,x,k,hx,by rw [hm]; decide,by rw [hm]; decide,hk,rfl⟩
      · exact ⟨i,y,k,hy,h2,h3,hk,rfl⟩
    · by_cases e : i = kb.rb
      · exact .inr ⟨b,x,kb,hx,by rw [hm]; decide,by rw [hm]; decide,hb,e.symm⟩
      · exact .inl (ho.other i e)
  · intro i y k hy hmy hk
    rw [ho.size]
    rcases hget i y hy with ⟨rfl,rfl⟩ | ⟨hne,hy⟩
    · exact h.lt i x k hx (by rw [hm]; decide) hk
    · exact h.lt i y k hy hmy hk
  · intro i y k hy hmy hk o a ha
    rcases hget i y hy with ⟨rfl,rfl⟩ | ⟨hne,hy⟩
    · rw [hb] at hk; simp at hk; subst hk
      obtain ⟨v,hv,hr⟩:=hc o a ha
      exact ⟨v,by rw [cell?_this ho]; exact hv,hr⟩
    · obtain ⟨v,hv,hr⟩:=h.cell i y k hy hmy hk o a ha
      have hdiff:=h.excl b x kb i y k hx hm hb hy (fun e=>hmy (by rw [e]; exact Nat.le_refl _)) hk (Ne.symm hne)
      exact ⟨v,by rw [cell?_other ho _ (fun e=>hdiff e.symm)]; exact hv,hr⟩
  · intro i y k hy hmy hk
    rcases hget i y hy with ⟨rfl,rfl⟩ | ⟨hne,hy⟩
    · rw [hb] at hk; simp at hk; subst hk
      exact ⟨hn,c',el,ho.this,ho.len.trans hsz⟩
    · obtain ⟨h1,c1,el1,h3,h4⟩:=h.live i y k hy hmy hk
      have hdiff:=h.excl b x kb i y k hx hm hb hy (by rw [hmy]; decide) hk (Ne.symm hne)
      exact ⟨h1,c1,el1,by rw [ho.other _ (fun e=>hdiff e.symm)]; exact h3,h4⟩
  · intro i y k i' y' k' hy hmy hk hy' hmy' hk' hne
    rcases hget i y hy with ⟨e1,e2⟩ | ⟨hn1,hz⟩<;>rcases hget i' y' hy' with ⟨e3,e4⟩ | ⟨hn2,hz'⟩
    · exact absurd (e1.trans e3.symm) hne
    · rw [e1] at hk hne; exact h.excl b x k i' y' k' hx hm hk hz' hmy' hk' hne
    · rw [e3] at hk' hne; exact h.excl i y k b x k' hz hmy hk hx (by rw [hm]; decide) hk' hne
    · exact h.excl i y k i' y' k' hz hmy hk hz' hmy' hk' hne
  · intro i y k hy hmy hk
    rcases hget i y hy with ⟨e1,e2⟩ | ⟨hne,hy⟩
    · rw [e1] at hk; rw [e2,he]; exact h.fit b x k hx (by rw [hm]; decide) hk
    · exact h.fit i y k hy hmy hk

theorem WRel.killed (h : WRel n0 wi gl K st w) (b : Nat) : WRel n0 wi gl K (st.kill b) w:=by
  unfold St.kill
  cases hx : st[b]? with
  | none=>exact h
  | some x =>
    have hbl : b < st.length:=(List.getElem?_eq_some_iff.1 hx).1
    have hget : ∀ i y,(st.set b { x with mode:=2 })[i]? = some y→(i = b∧y.mode = 2)∨(i≠b∧st[i]? = some y):=fun i y hy=>by
      rw [List.getElem?_set] at hy
      split at hy
      · rename_i e; subst e
        simp [hbl] at hy; exact .inl ⟨rfl,by rw [←hy]⟩
      · rename_i e; exact .inr ⟨fun e'=>e e'.symm,hy⟩
    refine ⟨h.below,fun i k hk=>by simpa using h.dom i k hk,?_,?_,?_,?_,?_,h.glob,?_⟩
    rotate_right
    · refine h.fo.step (fun i y k hy hm3 hk=>?_) (fun i y k hy h2 h3 hk=>.inl ?_) (Nat.le_refl _) (fun i _=>.inl rfl)
      · rcases hget i y hy with ⟨_,e⟩ | ⟨_,hy⟩
        · rw [hm3] at e; cases e
        · exact ⟨hy,hk⟩
      · rcases hget i y hy with ⟨_,e⟩ | ⟨_,hy⟩
        · exact absurd e h2
        · exact ⟨i,y,k,hy,h2,h3,hk,rfl⟩
    · intro i y k hy hmy hk
      rcases hget i y hy with ⟨_,h2⟩ | ⟨_,hy⟩
      · exact absurd h2 hmy
      · exact h.lt i y k hy hmy hk
    · intro i y k hy hmy hk
      rcases hget i y hy with ⟨_,h2⟩ | ⟨_,hy⟩
      · exact absurd (by rw [h2]; exact Nat.le_refl _) hmy
      · exact h.cell i y k hy hmy hk
    · intro i y k hy hmy hk
      rcases hget i y hy with ⟨_,h2⟩ | ⟨_,hy⟩
      · rw [hmy] at h2; cases h2
      · exact h.live i y k hy hmy hk
    · intro i y k i' y' k' hy hmy hk hy' hmy' hk' hne
      rcases hget i y hy with ⟨_,h2⟩ | ⟨_,hy⟩
      · rw [hmy] at h2; cases h2
      · rcases hget i' y' hy' with ⟨_,h2⟩ | ⟨_,hy'⟩
        · exact absurd h2 hmy'
        · exact h.excl i y k i' y' k' hy hmy hk hy' hmy' hk' hne
    · intro i y k hy hmy hk
      rcases hget i y hy with ⟨_,h2⟩ | ⟨_,hy⟩
      · exact absurd (by rw [h2]; exact Nat.le_refl _) hmy
      · exact h.fit i y k hy hmy hk

theorem WRel.regrow (h : WRel n0 wi gl K st w) {b : Nat} {kb : KB} {x x' : Box} {w' : World} {c c' : Array Value} {el : TypeId} {o : Nat} (hb : K b = some kb) (hx : st[b]? = some x) (hm : x.mode = 0)
    (hnew : K st.length = none)
    (ho : OneBlock kb.rb w w' c c' el) (hsz : c.size = kb.rsz) (he : kb.ro + o + x'.cells.length≤kb.rsz) (hm' : x'.mode = 0) (hc : ∀ (i : Nat) (a : AV),x'.cells[i]? = some a→∃ v,c'[kb.ro + o + i]? = some v∧VRel K a v) :
    WRel n0 wi gl (K.set st.length ⟨kb.rb,kb.ro + o,kb.rsz⟩) (st.kill b++[x']) w':=by
  obtain ⟨hn,c0,el0,hh0,hs0⟩:=h.live b x kb hx hm hb
  have hbl : b < st.length:=(List.getElem?_eq_some_iff.1 hx).1
  have hkl : (st.kill b).length = st.length:=by unfold St.kill; rw [hx]; simp
  have hget : ∀ i y,(st.kill b++[x'])[i]? = some y→(i = st.length∧y = x')∨(i = b∧y.mode = 2)∨(i≠b∧i < st.length∧st[i]? = some y):=fun i y hy=>by
    by_cases hi : i < st.length
    · rw [List.getElem?_append_left (by omega)] at hy
      unfold St.kill at hy
      rw [hx] at hy
      simp only [List.getElem?_set] at hy
      split at hy
      · rename_i e; subst e
        simp [hbl] at hy; exact .inr (.inl ⟨rfl,by rw [←hy]⟩)
      · rename_i e; exact .inr (.inr ⟨fun e'=>e e'.symm,hi,hy⟩)
    · rw [List.getElem?_append_right (by omega),hkl] at hy
      by_cases hi2 : i = st.length
      · subst hi2; simp at hy; exact .inl ⟨rfl,hy.symm⟩
      · rw [List.getElem?_eq_none (by simp; omega)] at hy; cases hy
  have hset : ∀ i k,(K.set st.length ⟨kb.rb,kb.ro + o,kb.rsz⟩) i = some k→(i = st.length∧k = ⟨kb.rb,kb.ro + o,kb.rsz⟩)∨(i≠st.length∧K i = some k):=fun i k hk=>by
    unfold KM.set at hk
    split at hk
    · simp at hk; exact .inl ⟨by assumption,hk.symm⟩
    · exact .inr ⟨by assumption,hk⟩
  have hle:=KM.le_set (K:=K) (b:=st.length) (kb:=⟨kb.rb,kb.ro + o,kb.rsz⟩) hnew
  refine ⟨Below.oneBlock h.below ho hn,fun i k hk=>?_,?_,?_,?_,?_,?_,fun j g hg=>?_,?_⟩
  rotate_right
  · refine h.fo.step (fun i y k hy hm3 hk=>?_) (fun i y k hy h2 h3 hk=>.inl ?_) (by rw [ho.size]; exact Nat.le_refl _) (fun i _=>?_)
    · rcases hset i k hk with ⟨rfl,rfl⟩ | ⟨hni,hk⟩
      · rcases hget _ y hy with ⟨_,rfl⟩ | ⟨e,_⟩ | ⟨_,e,_⟩
        · rw [hm'] at hm3; cases hm3
        · omega
        · omega
      · rcases hget i y hy with ⟨e,_⟩ | ⟨_,e⟩ | ⟨_,_,hy⟩
        · exact absurd e hni
        · rw [hm3] at e; cases e
        · exact ⟨hy,hk⟩
    · rcases hset i k hk with ⟨rfl,rfl⟩ | ⟨hni,hk⟩
      · exact ⟨b,x,kb,hx,by rw [hm]; decide,by rw [hm]; decide,hb,rfl⟩
      · rcases hget i y hy with ⟨e,_⟩ | ⟨_,e⟩ | ⟨_,_,hy⟩
        · exact absurd e hni
        · exact absurd e h2
        · exact ⟨i,y,k,hy,h2,h3,hk,rfl⟩
    · by_cases e : i = kb.rb
      · exact .inr ⟨b,x,kb,hx,by rw [hm]; decide,by rw [hm]; decide,hb,e.symm⟩
      · exact .inl (ho.other i e)
  · rw [List.length_append,hkl]
    rcases hset i k hk with ⟨rfl,_⟩ | ⟨_,hk⟩
    · simp
    · have:=h.dom i k hk; simp; omega
  · intro i y k hy hmy hk
    rw [ho.size]
    rcases hset i k hk with ⟨rfl,rfl⟩ | ⟨hni,hk⟩
    · exact h.lt b x kb hx (by rw [hm]; decide) hb
    · rcases hget i y hy with ⟨e,_⟩ | ⟨_,h2⟩ | ⟨_,_,hy⟩
      · exact absurd e hni
      · exact absurd h2 hmy
      · exact h.lt i y k hy hmy hk
  · intro i y k hy hmy hk p a ha
    rcases hset i k hk with ⟨rfl,rfl⟩ | ⟨hni,hk⟩
    · rcases hget _ y hy with ⟨_,rfl⟩ | ⟨e,_⟩ | ⟨_,e,_⟩
      · obtain ⟨v,hv,hr⟩:=hc p a ha
        exact ⟨v,by rw [cell?_this ho]; exact hv,hr.mono hle⟩
      · omega
      · omega
    · rcases hget i y hy with ⟨e,_⟩ | ⟨_,h2⟩ | ⟨hnb,_,hy⟩
      · exact absurd e hni
      · exact absurd (by rw [h2]; exact Nat.le_refl _) hmy
      · obtain ⟨v,hv,hr⟩:=h.cell i y k hy hmy hk p a ha
        have hdiff:=h.excl b x kb i y k hx hm hb hy (fun e=>hmy (by rw [e]; exact Nat.le_refl _)) hk (Ne.symm hnb)
        exact ⟨v,by rw [cell?_other ho _ (fun e=>hdiff e.symm)]; exact hv,hr.mono hle⟩
  · intro i y k hy hmy hk
    rcases hset i k hk with ⟨rfl,rfl⟩ | ⟨hni,hk⟩
    · rcases hget _ y hy with ⟨_,rfl⟩ | ⟨e,_⟩ | ⟨_,e,_⟩
      · exact ⟨hn,c',el,ho.this,ho.len.trans hsz⟩
      · omega
      · omega
    · rcases hget i y hy with ⟨e,_⟩ | ⟨_,h2⟩ | ⟨hnb,_,hy⟩
      · exact absurd e hni
      · rw [hmy] at h2; cases h2
      · obtain ⟨h1,c1,el1,h3,h4⟩:=h.live i y k hy hmy hk
        have hdiff:=h.excl b x kb i y k hx hm hb hy (by rw [hmy]; decide) hk (Ne.symm hnb)
        exact ⟨h1,c1,el1,by rw [ho.other _ (fun e=>hdiff e.symm)]; exact h3,h4⟩
  · intro i y k i' y' k' hy hmy hk hy' hmy' hk' hne
    rcases hset i k hk with ⟨rfl,rfl⟩ | ⟨hni,hk⟩<;>rcases hset i' k' hk' with ⟨rfl,rfl⟩ | ⟨hni',hk'⟩
    · exact absurd rfl hne
    · rcases hget i' y' hy' with ⟨e,_⟩ | ⟨_,h2⟩ | ⟨hnb,_,hy'⟩
      · exact absurd e hni'
      · exact absurd h2 hmy'
      · exact h.excl b x kb i' y' k' hx hm hb hy' hmy' hk' (Ne.symm hnb)
    · rcases hget i y hy with ⟨e,_⟩ | ⟨_,h2⟩ | ⟨hnb,_,hy⟩
      · exact absurd e hni
      · rw [hmy] at h2; cases h2
      · exact h.excl i y k b x kb hy hmy hk hx (by rw [hm]; decide) hb hnb
    · rcases hget i y hy with ⟨e,_⟩ | ⟨_,h2⟩ | ⟨hnb,_,hy⟩
      · exact absurd e hni
      · rw [hmy] at h2; cases h2
      · rcases hget i' y' hy' with ⟨e,_⟩ | ⟨_,h2⟩ | ⟨hnb',_,hy'⟩
        · exact absurd e hni'
        · exact absurd h2 hmy'
        · exact h.excl i y k i' y' k' hy hmy hk hy' hmy' hk' hne
  · intro i y k hy hmy hk
    rcases hset i k hk with ⟨rfl,rfl⟩ | ⟨hni,hk⟩
    · rcases hget _ y hy with ⟨_,rfl⟩ | ⟨e,_⟩ | ⟨_,e,_⟩
      · exact he
      · omega
      · omega
    · rcases hget i y hy with ⟨e,_⟩ | ⟨_,h2⟩ | ⟨hnb,_,hy⟩
      · exact absurd e hni
      · exact absurd (by rw [h2]; exact Nat.le_refl _) hmy
      · exact h.fit i y k hy hmy hk
  · obtain ⟨kb',h1,h2⟩:=h.glob j g hg
    exact ⟨kb',hle _ _ h1,h2⟩
end
end Go.VX
end
section
namespace Go.VX

structure TI where
  desc : TypeDesc
  size : Nat
  bytes : Nat
  zero : Value
  deriving Inhabited
def tiOf (P : Program) (t : TypeId) : Option TI :=
  match P.info? t,P.underlying t with
  | some i,some d=>match i.zero with
    | some z=>some ⟨d,i.size,i.bytes,z⟩
    | none=>none
  | _,_=>none
def TI.agg? (i : TI) : Option Nat :=
  match i.desc with
  | .struct _=>some i.size
  | .array _ _=>some i.size
  | _=>none
def TI.zok (i : TI) : Bool:=i.zero.cells.toList.all cellVal && i.zero.cells.size == i.size
def TI.zs (i : TI) : List Value:=i.zero.cells.toList

def po (gl : List Nat) : Operand→Option VOpd
  | .tmp t=>some (.tmp t)
  | .const v=>if cellVal v then some (.con v) else none
  | .global g=>match gl.findIdx? (· == g) with
    | some j=>some (.glo j)
    | none=>none
  | .func f=>some (.fn f)
def pos (gl : List Nat) : List Operand→Option (List VOpd)
  | []=>some []
  | x :: r=>match po gl x,pos gl r with
    | some y,some ys=>some (y :: ys)
    | _,_=>none
def poO (gl : List Nat) : Option Operand→Option (Option VOpd)
  | none=>some none
  | some x=>match po gl x with
    | some y=>some (some y)
    | none=>none
def nilKind : TypeDesc→Operand→Option Nat
  | .pointer _,.const (.pointer none)=>some 0
  | .slice _,.const (.slice none 0 0)=>some 1
  | .func _ _ _,.const .nilFunc=>some 2
  | .interface _,.const .nilIface=>some 3
  | _,_=>none
def isC : Operand→Bool
  | .const _=>true
  | _=>false
def nilable : TypeDesc→Bool
  | .pointer _=>true
  | .slice _=>true
  | .func _ _ _=>true
  | .interface _=>true
  | _=>false

def isIface : TypeDesc→Bool
  | .interface _=>true
  | _=>false
def isPtr (P : Program) : TypeDesc→Bool
  | .pointer e=>match tiOf P e with
    | some ei=>!(Nat.beq ei.size 0)
    | none=>false
  | _=>false
def structParts (P : Program) (gl : List Nat) (fs : Array Field) : List (Nat × Operand)→Option (List (Nat × Nat × VOpd))
  | []=>some []
  | (i,x) :: r=>match fs[i]?,po gl x,structParts P gl fs r with
    | some f,some y,some ps=>match tiOf P f.type with
      | some ti=>some ((f.offset,ti.size,y) :: ps)
      | none=>none
    | _,_,_=>none
def elemParts (gl : List Nat) (size : Nat) : List (Nat × Operand)→Option (List (Nat × Nat × VOpd))
  | []=>some []
  | (i,x) :: r=>match po gl x,elemParts gl size r with
    | some y,some ps=>some ((i * size,size,y) :: ps)
    | _,_=>none
def isInt : TypeDesc→Bool
  | .int _=>true
  | _=>false

def prepCall (P : Program) (gl : List Nat) (ty : TypeId) (c : Call) : Option VOp :=
  match c.callee with
  | .value (.func f)=>match pos gl c.args.toList with
    | some xs=>some (.call f xs)
    | none=>none
  | .value x=>match po gl x,pos gl c.args.toList with
    | some x,some xs=>some (.callv x xs)
    | _,_=>none
  | .builtin .len=>match (c.argTypes[0]?).bind (tiOf P),c.args.toList with
    | some ti,[x]=>match ti.desc,po gl x with
      | .slice _,some x=>some (.len x)
      | .string,some x=>some (.bi .len c.argTypes.toList ty [x])
      | _,_=>none
    | _,_=>none
  | .builtin .append=>match (c.argTypes[0]?).bind (tiOf P),(c.argTypes[1]?).bind (tiOf P),c.args.toList with
    | some ti,some tj,[x,y]=>match ti.desc,po gl x,po gl y with
      | .slice e,some x,some y=>match tiOf P e with
        | some ei=>if isInt tj.desc = false∧ei.zok = true then some (.append ei.size ei.bytes x y) else none
        | none=>none
      | _,_,_=>none
    | _,_,_=>none
  | .builtin .copy=>match (c.argTypes[0]?).bind (tiOf P),c.args.toList with
    | some ti,[x,y]=>match ti.desc,po gl x,po gl y with
      | .slice e,some x,some y=>match tiOf P e with
        | some ei=>some (.copy ei.size x y)
        | none=>none
      | _,_,_=>none
    | _,_=>none
  | .builtin .min=>match pos gl c.args.toList with
    | some xs=>some (.bi .min c.argTypes.toList ty xs)
    | none=>none
  | .builtin .max=>match pos gl c.args.toList with
    | some xs=>some (.bi .max c.argTypes.toList ty xs)
    | none=>none
  | .builtin .clear=>some (.ext (.con (.int .i64 0)) 0)
  | _=>none

def bldOf (P : Program) (t : TypeId) : Option Nat :=
  match P.info? t with
  | some i=>match i.desc with
    | .named n _ => if n == "strings.Builder" then match tiOf P t with
      | some ti=>match ti.desc,ti.zero with
        | .struct fs,.agg cs=>match cs.toList,fs[1]? with
          | [.pointer none,.slice none 0 0],some f=>match tiOf P f.type with
            | some fi=>match fi.desc with
              | .slice e=>if t = e then none else some e
              | _=>none
            | none=>none
          | _,_=>none
        | _,_=>none
      | none=>none else none
    | _=>none
  | none=>none
def convKind (P : Program) (s d : TypeId) : Nat :=
  match tiOf P s,tiOf P d with
  | some a,some b=>match a.desc,b.desc with
    | .string,.slice e=>match tiOf P e with
      | some ei=>match ei.desc with
        | .int .u8=>1
        | _=>0
      | none=>0
    | .slice e,.string=>match tiOf P e with
      | some ei=>match ei.desc with
        | .int .u8=>2
        | _=>0
      | none=>0
    | .slice _,.slice e=>match tiOf P e with
      | some ei=>match ei.desc with
        | .int .u8=>if s = d then 3 else 0
        | _=>0
      | none=>0
    | _,_=>0
  | _,_=>0
def prepOp (P : Program) (gl : List Nat) (ty : TypeId) : Op→Option VOp
  | .move x=>match po gl x with
    | some x=>some (.mv x)
    | none=>none
  | .assign x=>match po gl x with
    | some x=>some (.mv x)
    | none=>none
  | .pick c a b=>match po gl c,po gl a,po gl b with
    | some c,some a,some b=>some (.pick c a b)
    | _,_,_=>none
  | .alloc t=>match bldOf P t with
    | some e=>some (.allocF [.int .i64 1,.int .i64 t,.int .i64 e,.string ⟨#[]⟩])
    | none=>match tiOf P t with
      | some ti=>if ti.zok then some (.alloc ti.zs) else none
      | none=>none
  | .box t x=>match po gl x with
    | some x=>some (.box x)
    | none=>none
  | .build t ps=>match tiOf P t with
    | some ti=>if ti.zok then match ti.desc with
      | .struct fs=>if fs.all (fun f=>(tiOf P f.type).isSome) then match structParts P gl fs ps.toList with
        | some ps=>some (.build ti.zs ps)
        | none=>none else none
      | .array _ e=>match tiOf P e with
        | some ei=>match elemParts gl ei.size ps.toList with
          | some ps=>some (.build ti.zs ps)
          | none=>none
        | none=>none
      | _=>none else none
    | none=>none
  | .buildSlice t len ps=>match tiOf P t with
    | some ti=>match ti.desc with
      | .slice e=>match tiOf P e with
        | some ei=>if ei.zok∧len * ei.size≤2 ^ 24 then match elemParts gl ei.size ps.toList with
          | some ps=>some (.bslice ei.size len ei.zs ps)
          | none=>none else none
        | none=>none
      | _=>none
    | none=>none
  | .load t a=>match tiOf P t,po gl a with
    | some ti,some a=>some (.load ti.agg? a)
    | _,_=>none
  | .store t a x=>match tiOf P t,po gl a,po gl x with
    | some ti,some a,some x=>some (.store ti.size a x)
    | _,_,_=>none
  | .nilCheck x=>match po gl x with
    | some x=>some (.nilck x)
    | none=>none
  | .binOp op t x y _=>match po gl x,po gl y,tiOf P t with
    | some x',some y',some ti =>
      if nilable ti.desc then match nilKind ti.desc y with
        | some k=>if op = .eql then some (.isnil k false x') else if op = .neq then some (.isnil k true x') else none
        | none=>if isPtr P ti.desc then (if op = .eql then some (.peq false x' y') else if op = .neq then some (.peq true x' y') else none) else if isIface ti.desc then some (.bin op t (isC x || isC y) x' y') else none
      else some (.bin op t (isC x || isC y) x' y')
    | _,_,_=>none
  | .unOp op _ x=>match po gl x with
    | some x=>some (.un op x)
    | none=>none
  | .convert s d x=>match po gl x with
    | some x=>some (if convKind P s d = 1 then .s2b x else if convKind P s d = 2 then .b2s x else if convKind P s d = 3 then .frz x else .conv s d x)
    | none=>none
  | .makeInterface t x=>match po gl x,tiOf P t with
    | some x,some ti=>if isIface ti.desc then none else some (.mkif t x)
    | _,_=>none
  | .makeFunc (.func f) first cap=>match pos gl first.toList,pos gl cap.toList with
    | some xs,some ys=>some (.mkfn f xs ys)
    | _,_=>none
  | .makeSlice t l c=>match tiOf P t,po gl l,po gl c with
    | some ti,some l,some c=>match ti.desc with
      | .slice e=>match tiOf P e with
        | some ei=>if ei.zok∧0 < ei.size then some (.mksl ei.size ei.bytes ei.zs l c) else none
        | none=>none
      | _=>none
    | _,_,_=>none
  | .slice t x lo hi mx=>match tiOf P t,po gl x,poO gl lo,poO gl hi,poO gl mx with
    | some ti,some x,some lo,some hi,some mx=>match ti.desc with
      | .string=>match mx with
        | none=>some (.slS t x lo hi)
        | some _=>none
      | .slice e=>match tiOf P e with
        | some ei=>some (.slice none ei.size x lo hi mx)
        | none=>none
      | .array n e=>match tiOf P e with
        | some ei=>some (.slice (some n) ei.size x lo hi mx)
        | none=>none
      | _=>none
    | _,_,_,_,_=>none
  | .fieldAddr s x f=>match tiOf P s,po gl x with
    | some ti,some x=>match ti.desc with
      | .struct fs=>match fs[f]? with
        | some fd=>match tiOf P fd.type with
          | some fi=>if 0 < fi.size then some (.fieldA fd.offset x) else none
          | none=>none
        | none=>none
      | _=>none
    | _,_=>none
  | .field s x f=>match tiOf P s,po gl x with
    | some ti,some x=>match ti.desc with
      | .struct fs=>match fs[f]? with
        | some fd=>match tiOf P fd.type with
          | some fi=>some (.field fd.offset fi.agg? x)
          | none=>none
        | none=>none
      | _=>none
    | _,_=>none
  | .indexAddr t x i=>match tiOf P t,po gl x,po gl i with
    | some ti,some x,some i=>match ti.desc with
      | .array n e=>match tiOf P e with
        | some ei=>some (.idxA (some n) ei.size x i)
        | none=>none
      | .slice e=>match tiOf P e with
        | some ei=>some (.idxA none ei.size x i)
        | none=>none
      | _=>none
    | _,_,_=>none
  | .index t x i=>match tiOf P t,po gl x,po gl i with
    | some ti,some x,some i=>match ti.desc with
      | .string=>some (.idxS t x i)
      | .array n e=>match tiOf P e with
        | some ei=>some (.idx n ei.agg? ei.size x i)
        | none=>none
      | _=>none
    | _,_,_=>none
  | .extract x i=>match po gl x with
    | some x=>some (.ext x i)
    | none=>none
  | .typeAssert x _ t ok=>match po gl x,tiOf P t with
    | some x,some ti=>if isIface ti.desc∨ti.zok = false then none else some (.assert t ok ti.zero x)
    | _,_=>none
  | .panic x=>match po gl x with
    | some x=>some (.panic x)
    | none=>none
  | .call c=>prepCall P gl ty c
  | _=>none

def VOp.kind : VOp→Nat
  | .load _ _=>1
  | .alloc _=>2
  | .box _=>2
  | .bslice _ _ _ _=>2
  | .mksl _ _ _ _ _=>2
  | .store _ _ _=>3
  | .allocF _=>3
  | .s2b _=>3
  | .frz _=>3
  | .b2s _=>1
  | .append _ _ _ _=>3
  | .copy _ _ _=>3
  | .call _ _=>3
  | .callv _ _=>3
  | .panic _=>3
  | _=>0
def opHeavy (o : Op) (v : VOp) : Bool :=
  match o with
  | .assign _=>true
  | _=>v.kind == 3

def pDst (nt : Nat) : Option Nat→Bool
  | none=>true
  | some d=>d < nt
def pGuard (ops : Array Oper) : Option (Nat × Bool)→Option (Option (Nat × Bool))
  | none=>some none
  | some (j,b)=>match (ops[j]?).bind (·.dst) with
    | some t=>some (some (t,b))
    | none=>none

def prepOper (P : Program) (gl : List Nat) (nt : Nat) (ops : Array Oper) (i : Nat) : Option VOper :=
  match ops[i]? with
  | some o=>if pDst nt o.dst then match prepOp P gl o.type o.op,pGuard ops o.guard with
    | some v,some g=>some ⟨i,o.dst,v,g,[]⟩
    | _,_=>none else none
  | none=>none
def prepList (P : Program) (gl : List Nat) (nt : Nat) (ops : Array Oper) : List Nat→Option (List VOper)
  | []=>some []
  | i :: r=>match prepOper P gl nt ops i,prepList P gl nt ops r with
    | some o,some os=>some (o :: os)
    | _,_=>none

def heavyAt (P : Program) (gl : List Nat) (ops : Array Oper) (i : Nat) : Bool :=
  match ops[i]? with
  | some o=>match prepOp P gl o.type o.op with
    | some v=>opHeavy o.op v
    | none=>true
  | none=>true
def canon (heavy : Nat→Bool) (needs : Nat→List Nat) (n : Nat) : Nat→List Nat→List Nat
  | 0,acc=>acc
  | fuel + 1,acc =>
    let ready:=(List.range n).filter fun i=>!acc.contains i && (needs i).all acc.contains
    match ready.filter fun i=>!heavy i with
    | i :: _=>canon heavy needs n fuel (acc++[i])
    | []=>match ready with
      | i :: _=>canon heavy needs n fuel (acc++[i])
      | []=>acc
def needsOf (ops : Array Oper) (i : Nat) : List Nat :=
  match ops[i]? with
  | some o=>(o.after.toList.filter fun e=>Region.binds .any e).map (·.on)
  | none=>[]

end Go.VX
end
section
namespace Go.VX
open Go.RowKit (Below)

section
variable {P : Program} {n0 : Nat} {wi : World} {gl : List Nat} {K : KM} {st : St} {w : World}

theorem ti_parts {t : TypeId} {ti : TI} (h : tiOf P t = some ti) : ∃ i,P.info? t = some i∧P.underlying t = some ti.desc∧i.size = ti.size∧i.bytes = ti.bytes∧i.zero = some ti.zero:=by
  unfold tiOf at h
  split at h
  · rename_i i d h1 h2
    split at h
    · rename_i z hz
      simp at h; subst h
      exact ⟨i,h1,h2,rfl,rfl,hz⟩
    · cases h
  · cases h
theorem run_typeInfo {t : TypeId} {i : TypeInfo} (h : P.info? t = some i) : (typeInfo t).run P w = .ok i w:=by
  unfold typeInfo program
  rw [Sem.run_bind]
  simp [Sem.run,h]
theorem run_underlying' {t : TypeId} {d : TypeDesc} (h : P.underlying t = some d) : (underlying t).run P w = .ok d w:=by
  unfold underlying program
  rw [Sem.run_bind]
  simp [Sem.run,h]
theorem run_und {t : TypeId} {ti : TI} (h : tiOf P t = some ti) : (underlying t).run P w = .ok ti.desc w:=by
  obtain ⟨i,h1,h2,h3⟩:=ti_parts h
  exact run_underlying' h2
theorem run_size {t : TypeId} {ti : TI} (h : tiOf P t = some ti) : (sizeOf t).run P w = .ok ti.size w:=by
  obtain ⟨i,h1,h2,h3,h4⟩:=ti_parts h
  unfold Go.sizeOf
  rw [run_bind _ _ _ (run_typeInfo h1),h3]
  rfl
theorem run_zero {t : TypeId} {ti : TI} (h : tiOf P t = some ti) : (zeroValue t).run P w = .ok ti.zero w:=by
  obtain ⟨i,h1,h2,h3,h4,h5⟩:=ti_parts h
  unfold zeroValue
  rw [run_bind _ _ _ (run_typeInfo h1),h5]
  rfl
theorem run_isAgg {t : TypeId} {ti : TI} (h : tiOf P t = some ti) : (isAgg t).run P w = .ok ti.agg?.isSome w:=by
  unfold Go.isAgg
  rw [run_bind _ _ _ (run_und h)]
  unfold TI.agg?
  cases ti.desc<;>rfl
theorem agg_size {ti : TI} {n : Nat} (h : ti.agg? = some n) : n = ti.size:=by
  unfold TI.agg? at h
  split at h<;>simp_all

theorem ptr_inv {b o : Nat} {v : Value} (h : VRel K (.ptr b o) v) : ∃ kb,K b = some kb∧v = .pointer (some ⟨kb.rb,kb.ro + o,none⟩):=by
  cases h with
  | ptr h=>exact ⟨_,h,rfl⟩
theorem sl_inv {b o len esz : Nat} {full : Bool} {v : Value} (h : VRel K (.sl b o len esz full) v) : ∃ kb a cap,K b = some kb∧slOk kb o len esz full a cap∧v = .slice (some a) len cap:=by
  cases h with
  | sl h h2=>exact ⟨_,_,_,h,h2,rfl⟩
theorem agg_inv {cs : List AV} {v : Value} (h : VRel K (.agg cs) v) : ∃ vs : List Value,VRels K cs vs∧v = .agg vs.toArray:=by
  cases h with
  | agg h=>exact ⟨_,h,rfl⟩
theorem tup_inv {cs : List AV} {v : Value} (h : VRel K (.tup cs) v) : ∃ vs : List Value,VRels K cs vs∧v = .tuple vs.toArray:=by
  cases h with
  | tup h=>exact ⟨_,h,rfl⟩

theorem asInt_inv {a : AV} {v : Value} {i : Int} (h : VRel K a v) (e : asInt? a = some i) : ∃ k,v = .int k i:=by
  unfold asInt? at e
  split at e
  · rename_i k n
    simp at e; subst e
    exact ⟨k,VRel.sc_eq h⟩
  · cases e
theorem asNat_inv {a : AV} {v : Value} {i : Nat} (h : VRel K a v) (e : asNat? a = some i) : ∃ k,v = .int k (i : Int):=by
  unfold asNat? at e
  split at e
  · rename_i k n
    split at e
    · rename_i hn
      simp at e; subst e
      exact ⟨k,by rw [VRel.sc_eq h,Int.toNat_of_nonneg hn]⟩
    · cases e
  · cases e

theorem sureAddr_ptr (a : Addr) : (Instr.sureAddr (.pointer (some a))).run P w = .ok a w:=rfl

theorem run_loadVar (hW : WRel n0 wi gl K st w) {t : TypeId} {ti : TI} (ht : tiOf P t = some ti) {b o : Nat} {kb : KB} (hb : K b = some kb) {v : AV}
    (hv : (match ti.agg? with | none=>st.at1 b o | some n=>(st.atN b o n).map AV.agg) = some v) :
    ∃ v',(loadVar t ⟨kb.rb,kb.ro + o,none⟩).run P w = .ok v' w∧VRel K v v':=by
  unfold loadVar
  rw [run_bind _ _ _ (run_isAgg ht)]
  cases hag : ti.agg? with
  | none =>
    rw [hag] at hv
    obtain ⟨v',h1,h2⟩:=hW.at1 hb hv
    refine ⟨v',?_,h2⟩
    simp only [Option.isSome_none,Bool.false_eq_true,if_false]
    exact run_load h1
  | some n =>
    rw [hag] at hv
    simp only [Option.map_eq_some_iff] at hv
    obtain ⟨as,h1,rfl⟩:=hv
    obtain ⟨hl,vs,hr,hc⟩:=hW.cells hb h1
    refine ⟨.agg vs.toArray,?_,.agg hr⟩
    simp only [Option.isSome_some,if_true]
    rw [run_bind _ _ _ (run_size ht)]
    have hn:=agg_size hag
    have hlen : vs.length = ti.size:=by rw [←hr.length,hl,hn]
    rw [run_bind _ _ _ (run_loadCells (fun j v hv=>by have:=hc j v hv; exact this) hlen)]
    rfl

theorem VRels.extract {cs : List AV} {vs : List Value} (h : VRels K cs vs) (o n : Nat) : VRels K ((cs.drop o).take n) ((vs.toArray.extract o (o + n)).toList):=by
  have : (vs.toArray.extract o (o + n)).toList = (vs.drop o).take n:=by
    simp [List.extract_eq_take_drop]
  rw [this]
  exact (h.drop o).take n

theorem run_part {t : TypeId} {ti : TI} (ht : tiOf P t = some ti) {cs : List AV} {vs : List Value} (h : VRels K cs vs) (o : Nat) {v : AV}
    (hv : (match ti.agg? with | none=>cs[o]? | some n=>if o + n≤cs.length then some (.agg ((cs.drop o).take n)) else none) = some v) :
    ∃ v',(part t vs.toArray o).run P w = .ok v' w∧VRel K v v':=by
  unfold part
  rw [run_bind _ _ _ (run_isAgg ht)]
  cases hag : ti.agg? with
  | none =>
    rw [hag] at hv
    obtain ⟨v',h1,h2⟩:=h.get o hv
    refine ⟨v',?_,h2⟩
    simp only [Option.isSome_none,Bool.false_eq_true,if_false]
    have : vs.toArray[o]? = some v':=by simpa using h1
    rw [this]
    rfl
  | some n =>
    rw [hag] at hv
    simp only at hv
    split at hv
    · rename_i hl
      simp at hv; subst hv
      have hn:=agg_size hag
      refine ⟨.agg (vs.toArray.extract o (o + n)),?_,?_⟩
      · simp only [Option.isSome_some,if_true]
        rw [run_bind _ _ _ (run_size ht),hn]
        rfl
      · have:=h.extract o n
        have h2:=VRel.agg this
        simpa using h2
    · cases hv

theorem fill_splice (off : Nat) : ∀ (cs : List Value) (l : Array Value),off + cs.length≤l.size →
    ∀ k,((cs.zipIdx k).foldl (fun (acc : Array Value) (p : Value × Nat)=>acc.setIfInBounds (off + p.2 - 0) p.1) l).size = l.size:=by
  intro cs
  induction cs with
  | nil=>intro l _ k; rfl
  | cons c cs ih =>
    intro l hl k
    simp only [List.zipIdx_cons,List.foldl_cons]
    rw [ih _ (by simp; simp at hl; omega)]
    simp

theorem foldl_set (off : Nat) : ∀ (cs : List Value) (k : Nat) (l : Array Value) (j : Nat),
    ((cs.zipIdx k).foldl (fun (acc : Array Value) (p : Value × Nat)=>acc.setIfInBounds (off + p.2) p.1) l)[j]? =
      if off + k≤j∧j < off + k + cs.length∧j < l.size then cs[j - (off + k)]? else l[j]?:=by
  intro cs
  induction cs with
  | nil => intro k l j; rw [if_neg]; · rfl
           · intro h; simp at h; omega
  | cons c cs ih =>
    intro k l j
    simp only [List.zipIdx_cons,List.foldl_cons]
    rw [ih]
    simp only [Array.size_setIfInBounds,List.length_cons]
    by_cases h1 : j = off + k
    · subst h1
      rw [if_neg (by omega)]
      by_cases h2 : off + k < l.size
      · rw [if_pos (by omega)]; simp [h2]
      · rw [if_neg (by omega)]; rw [Array.getElem?_setIfInBounds]; simp [h2]
    · by_cases h2 : off + (k + 1)≤j∧j < off + (k + 1) + cs.length∧j < l.size
      · rw [if_pos h2,if_pos (by omega)]
        rw [show j - (off + k) = (j - (off + (k + 1))) + 1 from by omega]
        simp
      · rw [if_neg h2,if_neg (by omega)]
        rw [Array.getElem?_setIfInBounds,if_neg (by omega)]

theorem splice_get (l : List AV) (o : Nat) (vs : List AV) (h : o + vs.length≤l.length) (j : Nat) :
    (splice l o vs)[j]? = if o≤j∧j < o + vs.length then vs[j - o]? else l[j]?:=by
  unfold splice
  by_cases h1 : j < o
  · rw [if_neg (by omega),List.append_assoc,List.getElem?_append_left (by simp; omega)]
    simp [List.getElem?_take,h1]
  · by_cases h2 : j < o + vs.length
    · rw [if_pos (by omega),List.append_assoc,List.getElem?_append_right (by simp; omega),List.getElem?_append_left (by simp; omega)]
      congr 1
      simp; omega
    · rw [if_neg (by omega),List.getElem?_append_right (by simp; omega),List.getElem?_drop]
      congr 1
      simp; omega
theorem splice_length (l : List AV) (o : Nat) (vs : List AV) (h : o + vs.length≤l.length) : (splice l o vs).length = l.length:=by
  unfold splice
  simp; omega

theorem VRels.splice {cs : List AV} {vs : List Value} (h : VRels K cs vs) {o : Nat} {as : List AV} {us : List Value} (h2 : VRels K as us) (hl : o + as.length≤cs.length) {l' : Array Value}
    (hs : l'.size = vs.length) (hg : ∀ j,l'[j]? = if o≤j∧j < o + us.length then us[j - o]? else vs[j]?) : VRels K (splice cs o as) l'.toList:=by
  refine VRels.of_get (by rw [splice_length _ _ _ hl,h.length]; simpa using hs.symm) fun n a ha=>?_
  rw [splice_get _ _ _ hl] at ha
  have hll:=h2.length
  have e : l'.toList[n]? = l'[n]?:=by simp
  rw [e,hg]
  by_cases h3 : o≤n∧n < o + as.length
  · rw [if_pos h3] at ha
    rw [if_pos (by omega)]
    exact h2.get _ ha
  · rw [if_neg h3] at ha
    rw [if_neg (by omega)]
    exact h.get _ ha

theorem fill_rel {place : Nat→Option (Nat × Nat)} : ∀ (ps : List (Nat × Nat × AV)) (qs : List (Nat × Value)) (cs : List AV) (vs : Array Value) (out : List AV),
    VRels K cs vs.toList→ps.length = qs.length→(∀ (n : Nat) (p : Nat × Nat × AV) (q : Nat × Value),ps[n]? = some p→qs[n]? = some q→place q.1 = some (p.1,p.2.1)∧VRel K p.2.2 q.2) →
    fillA cs ps = some out→∃ out',Instr.fill place vs qs = some out'∧VRels K out out'.toList
  | [],[],cs,vs,out,h,_,_,hf=>by
    simp [fillA] at hf; subst hf
    exact ⟨vs,rfl,h⟩
  | (off,size,v) :: ps,(i,u) :: qs,cs,vs,out,h,hl,hp,hf=>by
    obtain ⟨h1,h2⟩:=hp 0 _ _ rfl rfl
    simp only at h1 h2
    simp only [fillA] at hf
    split at hf
    · rename_i hc
      have hcs:=h2.cells
      have hlen:=hcs.length
      have hvl:=h.length
      simp only [Array.length_toList] at hlen hvl
      unfold Instr.fill
      simp only [h1]
      rw [if_neg (by simp; omega)]
      refine fill_rel ps qs _ _ out ?_ (by simpa using hl) (fun n p q a b=>hp (n + 1) p q (by simpa using a) (by simpa using b)) hf
      have hfold : ∀ l : Array Value,u.cells.zipIdx.foldl (fun cs x=>cs.setIfInBounds (off + x.2) x.1) l = (u.cells.toList.zipIdx 0).foldl (fun (acc : Array Value) (p : Value × Nat)=>acc.setIfInBounds (off + p.2) p.1) l:=fun l=>by
        rw [←Array.foldl_toList]
        simp
      have hsz : (u.cells.zipIdx.foldl (fun cs x=>cs.setIfInBounds (off + x.2) x.1) vs).size = vs.size:=by
        rw [hfold]
        have:=fill_splice off u.cells.toList vs (by simp; omega) 0
        simpa using this
      refine VRels.splice h hcs (by omega) (by simpa using hsz) fun j=>?_
      show (Array.foldl _ vs u.cells.zipIdx)[j]? = _
      rw [hfold,foldl_set]
      simp only [Nat.add_zero,Array.length_toList,Array.getElem?_toList]
      by_cases h3 : off≤j∧j < off + u.cells.size
      · rw [if_pos ⟨h3.1,h3.2,by omega⟩,if_pos h3]
      · rw [if_neg (fun e=>h3 ⟨e.1,e.2.1⟩),if_neg h3]
    · cases hf
  | [],_ :: _,_,_,_,_,hl,_,_=>by simp at hl
  | _ :: _,[],_,_,_,_,hl,_,_=>by simp at hl

theorem run_mapM_struct {fs : Array Field} (h : ∀ f ∈ fs,(tiOf P f.type).isSome = true) :
    ∃ places : Array (Nat × Nat),(fs.mapM fun f=>do pure (f.offset,← sizeOf f.type) : Sem (Array (Nat × Nat))).run P w = .ok places w ∧
      ∀ (i : Nat) (f : Field) (ti : TI),fs[i]? = some f→tiOf P f.type = some ti→places[i]? = some (f.offset,ti.size):=by
  have key : ∀ (l : List Field),(∀ f ∈ l,(tiOf P f.type).isSome = true)→∃ ps : List (Nat × Nat),(l.mapM fun f=>do pure (f.offset,← sizeOf f.type) : Sem (List (Nat × Nat))).run P w = .ok ps w ∧
      ∀ (i : Nat) (f : Field) (ti : TI),l[i]? = some f→tiOf P f.type = some ti→ps[i]? = some (f.offset,ti.size):=by
    intro l
    induction l with
    | nil=>exact fun _=>⟨[],rfl,fun i f ti hf=>by simp at hf⟩
    | cons f l ih =>
      intro hl
      obtain ⟨ti,hti⟩:=Option.isSome_iff_exists.1 (hl f (by simp))
      obtain ⟨ps,hr,hp⟩:=ih (fun g hg=>hl g (by simp [hg]))
      refine ⟨(f.offset,ti.size) :: ps,?_,fun i g tj hg htj=>?_⟩
      · rw [List.mapM_cons,run_bind _ _ w (a:=(f.offset,ti.size)) (w':=w) (by rw [run_bind _ _ _ (run_size hti)]; rfl),run_bind _ _ _ hr]
        rfl
      · cases i with
        | zero=>simp at hg; subst hg; rw [hti] at htj; simp at htj; subst htj; simp
        | succ i=>simpa using hp i g tj (by simpa using hg) htj
  obtain ⟨ps,hr,hp⟩:=key fs.toList (fun f hf=>h f (by simpa using hf))
  refine ⟨ps.toArray,?_,fun i f ti hf hti=>by simpa using hp i f ti (by simpa using hf) hti⟩
  rw [Array.mapM_eq_mapM_toList,Sem.run_map,hr]
  rfl
end
end Go.VX
end
section
namespace Go.VX
open Go.RowKit (Below)

section
variable {P : Program} {n0 : Nat} {wi : World} {gl : List Nat} {K : KM} {st st1 : St} {w : World} {env : Env} {ρ : Operand→Value} {n : VN} {vo : VOp}

def OpdOk (gl : List Nat) (K : KM) (env : Env) (ρ : Operand→Value) (l : List Operand) : Prop:=∀ y ∈ l,∀ x,po gl y = some x→VRel K (x.ev env) (ρ y)
def ReadOk (P : Program) (K : KM) (ρ : Operand→Value) (o : Oper) (w : World) (st st1 : St) (n : VN) : Prop :=
  st1 = st∧∃ v v',n = .val v∧(execOp ρ o).run P w = .ok (.value v') w∧VRel K v v'

theorem run_val {s : Sem Value} {v : Value} {w' : World} (h : s.run P w = .ok v w') : (do pure (Next.value (← s)) : Sem Next).run P w = .ok (.value v) w':=by
  rw [run_bind _ _ _ h]; rfl

theorem pos_rel {l : List Operand} (hρ : OpdOk gl K env ρ l) : ∀ {xs},pos gl l = some xs→VRels K (xs.map (·.ev env)) (l.map ρ):=by
  induction l with
  | nil=>intro xs h; simp [pos] at h; subst h; exact .nil
  | cons y r ih =>
    intro xs h
    unfold pos at h
    split at h
    · rename_i x ys h1 h2
      simp at h; subst h
      exact .cons (hρ y (by simp) x h1) (ih (fun z hz=>hρ z (by simp [hz])) h2)
    · cases h

theorem read_move {x : Operand} {dst ty pos_ af g} (h : prepOp P gl ty (.move x) = some vo) (hρ : OpdOk gl K env ρ [x]) (hv : vop P vo env st = some (n,st1)) : ReadOk P K ρ ⟨dst,.move x,ty,pos_,af,g⟩ w st st1 n:=by
  simp only [prepOp] at h
  split at h
  · rename_i x' hx
    simp at h; subst h
    simp [vop] at hv
    obtain ⟨rfl,rfl⟩:=hv
    exact ⟨rfl,_,_,rfl,rfl,hρ x (by simp) x' hx⟩
  · cases h
theorem read_assign {x : Operand} {dst ty pos_ af g} (h : prepOp P gl ty (.assign x) = some vo) (hρ : OpdOk gl K env ρ [x]) (hv : vop P vo env st = some (n,st1)) : ReadOk P K ρ ⟨dst,.assign x,ty,pos_,af,g⟩ w st st1 n:=by
  simp only [prepOp] at h
  split at h
  · rename_i x' hx
    simp at h; subst h
    simp [vop] at hv
    obtain ⟨rfl,rfl⟩:=hv
    exact ⟨rfl,_,_,rfl,rfl,hρ x (by simp) x' hx⟩
  · cases h
theorem read_pick {c a b : Operand} {dst ty pos_ af g} (h : prepOp P gl ty (.pick c a b) = some vo) (hρ : OpdOk gl K env ρ [c,a,b]) (hv : vop P vo env st = some (n,st1)) : ReadOk P K ρ ⟨dst,.pick c a b,ty,pos_,af,g⟩ w st st1 n:=by
  simp only [prepOp] at h
  split at h
  · rename_i c' a' b' hc ha hb
    simp at h; subst h
    simp only [vop] at hv
    split at hv
    · rename_i t ht
      simp at hv
      obtain ⟨rfl,rfl⟩:=hv
      have h1:=hρ c (by simp) c' hc
      rw [ht] at h1
      have h2:=VRel.sc_eq h1
      refine ⟨rfl,_,if t then ρ a else ρ b,rfl,?_,?_⟩
      · cases t<;>simp [execOp,h2,asBool]
      · cases t
        · exact hρ b (by simp) b' hb
        · exact hρ a (by simp) a' ha
    · cases hv
  · cases h

theorem parts_struct {fs : Array Field} : ∀ {ps : List (Nat × Operand)} {qs : List (Nat × Nat × VOpd)},structParts P gl fs ps = some qs→OpdOk gl K env ρ (ps.map (·.2)) →
    (partsEv env qs).length = (ps.map fun p=>(p.1,ρ p.2)).length∧∀ (k : Nat) (p : Nat × Nat × AV) (q : Nat × Value),(partsEv env qs)[k]? = some p→(ps.map fun p=>(p.1,ρ p.2))[k]? = some q →
      (∃ f ti,fs[q.1]? = some f∧tiOf P f.type = some ti∧p.1 = f.offset∧p.2.1 = ti.size)∧VRel K p.2.2 q.2
  | [],qs,h,_=>by simp [structParts] at h; subst h; exact ⟨rfl,fun k p q hp=>by simp [partsEv] at hp⟩
  | (i,x) :: ps,qs,h,hρ=>by
    unfold structParts at h
    split at h
    · rename_i f y ps' hf hy hps
      split at h
      · rename_i ti hti
        simp at h; subst h
        obtain ⟨hl,hr⟩:=parts_struct hps (fun z hz=>hρ z (by simp at hz ⊢; exact .inr hz))
        refine ⟨by simpa [partsEv] using hl,fun k p q hp hq=>?_⟩
        cases k with
        | zero =>
          simp [partsEv] at hp hq
          subst hp; subst hq
          exact ⟨⟨f,ti,hf,hti,rfl,rfl⟩,hρ x (by simp) y hy⟩
        | succ k=>exact hr k p q (by simpa [partsEv] using hp) (by simpa using hq)
      · cases h
    · cases h
theorem parts_elem {size : Nat} : ∀ {ps : List (Nat × Operand)} {qs : List (Nat × Nat × VOpd)},elemParts gl size ps = some qs→OpdOk gl K env ρ (ps.map (·.2)) →
    (partsEv env qs).length = (ps.map fun p=>(p.1,ρ p.2)).length∧∀ (k : Nat) (p : Nat × Nat × AV) (q : Nat × Value),(partsEv env qs)[k]? = some p→(ps.map fun p=>(p.1,ρ p.2))[k]? = some q →
      (p.1 = q.1 * size∧p.2.1 = size)∧VRel K p.2.2 q.2
  | [],qs,h,_=>by simp [elemParts] at h; subst h; exact ⟨rfl,fun k p q hp=>by simp [partsEv] at hp⟩
  | (i,x) :: ps,qs,h,hρ=>by
    unfold elemParts at h
    split at h
    · rename_i y ps' hy hps
      simp at h; subst h
      obtain ⟨hl,hr⟩:=parts_elem hps (fun z hz=>hρ z (by simp at hz ⊢; exact .inr hz))
      refine ⟨by simpa [partsEv] using hl,fun k p q hp hq=>?_⟩
      cases k with
      | zero =>
        simp [partsEv] at hp hq
        subst hp; subst hq
        exact ⟨⟨rfl,rfl⟩,hρ x (by simp) y hy⟩
      | succ k=>exact hr k p q (by simpa [partsEv] using hp) (by simpa using hq)
    · cases h

theorem zok_parts {ti : TI} (h : ti.zok = true) : ti.zero.cells.toList.all cellVal = true∧ti.zero.cells.size = ti.size:=by
  simpa [TI.zok] using h
theorem zs_rel (K : KM) {ti : TI} (h : ti.zok = true) : VRels K (ti.zs.map AV.sc) ti.zero.cells.toList:=VRels.map_sc K _ (zok_parts h).1

theorem read_build {t : TypeId} {ps : Array (Nat × Operand)} {dst ty pos_ af g} (h : prepOp P gl ty (.build t ps) = some vo) (hρ : OpdOk gl K env ρ (ps.toList.map (·.2))) (hv : vop P vo env st = some (n,st1)) :
    ReadOk P K ρ ⟨dst,.build t ps,ty,pos_,af,g⟩ w st st1 n:=by
  simp only [prepOp] at h
  split at h
  · rename_i ti hti
    split at h
    · rename_i hz
      have hzr:=zs_rel K hz
      split at h
      · rename_i fs hfs
        split at h
        · rename_i hall
          split at h
          · rename_i qs hqs
            simp at h; subst h
            simp only [vop,Option.map_eq_some_iff] at hv
            obtain ⟨cs,hcs,hv⟩:=hv
            simp at hv; obtain ⟨rfl,rfl⟩:=hv
            obtain ⟨places,hr,hp⟩:=run_mapM_struct (P:=P) (w:=w) (fs:=fs) (fun f hf=>by simpa using (Array.all_eq_true_iff_forall_mem.1 hall) f hf)
            obtain ⟨hl,hrel⟩:=parts_struct (K:=K) (env:=env) (ρ:=ρ) hqs hρ
            obtain ⟨out,ho,hor⟩:=fill_rel (K:=K) (place:=(places[·]?)) (partsEv env qs) (ps.toList.map fun p=>(p.1,ρ p.2)) _ ti.zero.cells cs hzr hl (fun k p q a b=>by
              obtain ⟨⟨f,tj,h1,h2,h3,h4⟩,h5⟩:=hrel k p q a b
              exact ⟨by rw [hp q.1 f tj h1 h2,h3,h4],h5⟩) hcs
            refine ⟨rfl,_,.agg out,rfl,?_,?_⟩
            · simp only [execOp]
              refine run_val ?_
              unfold Instr.build
              rw [run_bind _ _ _ (run_zero hti),run_bind _ _ _ (run_und hti),hfs]
              simp only
              rw [run_bind _ _ _ hr]
              have : (Array.map (fun x=>(x.1,ρ x.2)) ps).toList = ps.toList.map fun p=>(p.1,ρ p.2):=by simp
              rw [this,ho]
              rfl
            · have:=VRel.agg hor
              simpa using this
          · cases h
        · cases h
      · rename_i e hdesc
        split at h
        · rename_i ei hei
          split at h
          · rename_i qs hqs
            simp at h; subst h
            simp only [vop,Option.map_eq_some_iff] at hv
            obtain ⟨cs,hcs,hv⟩:=hv
            simp at hv; obtain ⟨rfl,rfl⟩:=hv
            obtain ⟨hl,hrel⟩:=parts_elem (K:=K) (env:=env) (ρ:=ρ) hqs hρ
            obtain ⟨out,ho,hor⟩:=fill_rel (K:=K) (place:=fun i=>some (i * ei.size,ei.size)) (partsEv env qs) (ps.toList.map fun p=>(p.1,ρ p.2)) _ ti.zero.cells cs hzr hl (fun k p q a b=>by
              obtain ⟨⟨h3,h4⟩,h5⟩:=hrel k p q a b
              exact ⟨by rw [h3,h4],h5⟩) hcs
            refine ⟨rfl,_,.agg out,rfl,?_,?_⟩
            · simp only [execOp]
              refine run_val ?_
              unfold Instr.build
              rw [run_bind _ _ _ (run_zero hti),run_bind _ _ _ (run_und hti),hdesc]
              simp only
              rw [run_bind _ _ _ (run_size hei)]
              have : (Array.map (fun x=>(x.1,ρ x.2)) ps).toList = ps.toList.map fun p=>(p.1,ρ p.2):=by simp
              rw [this,ho]
              rfl
            · have:=VRel.agg hor
              simpa using this
          · cases h
        · cases h
      · cases h
    · cases h
  · cases h

theorem read_load (hW : WRel n0 wi gl K st w) {t : TypeId} {a : Operand} {dst ty pos_ af g} (h : prepOp P gl ty (.load t a) = some vo) (hρ : OpdOk gl K env ρ [a]) (hv : vop P vo env st = some (n,st1)) :
    ReadOk P K ρ ⟨dst,.load t a,ty,pos_,af,g⟩ w st st1 n:=by
  simp only [prepOp] at h
  split at h
  · rename_i ti a' hti ha
    simp at h; subst h
    have h1:=hρ a (by simp) a' ha
    simp only [vop] at hv
    split at hv
    · rename_i b o he hag
      rw [he] at h1
      obtain ⟨kb,hkb,hra⟩:=ptr_inv h1
      simp only [Option.map_eq_some_iff] at hv
      obtain ⟨v,hv,e⟩:=hv
      simp at e; obtain ⟨rfl,rfl⟩:=e
      obtain ⟨v',hr,hrel⟩:=run_loadVar hW hti hkb (v:=v) (by rw [hag]; exact hv)
      refine ⟨rfl,_,_,rfl,?_,hrel⟩
      simp only [execOp]
      refine run_val ?_
      unfold Instr.loadAt
      rw [hra,run_bind _ _ _ (sureAddr_ptr _)]
      exact hr
    · rename_i b o m he hag
      rw [he] at h1
      obtain ⟨kb,hkb,hra⟩:=ptr_inv h1
      simp only [Option.map_eq_some_iff] at hv
      obtain ⟨v,hv,e⟩:=hv
      simp at e; obtain ⟨rfl,rfl⟩:=e
      obtain ⟨v',hr,hrel⟩:=run_loadVar hW hti hkb (o:=o) (v:=.agg v) (by rw [hag]; simp [hv])
      refine ⟨rfl,_,_,rfl,?_,hrel⟩
      simp only [execOp]
      refine run_val ?_
      unfold Instr.loadAt
      rw [hra,run_bind _ _ _ (sureAddr_ptr _)]
      exact hr
    · cases hv
  · cases h

theorem read_nilck {x : Operand} {dst ty pos_ af g} (h : prepOp P gl ty (.nilCheck x) = some vo) (hρ : OpdOk gl K env ρ [x]) (hv : vop P vo env st = some (n,st1)) : ReadOk P K ρ ⟨dst,.nilCheck x,ty,pos_,af,g⟩ w st st1 n:=by
  simp only [prepOp] at h
  split at h
  · rename_i x' hx
    simp at h; subst h
    have h1:=hρ x (by simp) x' hx
    simp only [vop] at hv
    split at hv
    · rename_i b o he
      simp at hv; obtain ⟨rfl,rfl⟩:=hv
      rw [he] at h1
      obtain ⟨kb,hkb,hra⟩:=ptr_inv h1
      exact ⟨rfl,_,ρ x,rfl,by simp only [execOp,hra]; rfl,h1⟩
    · rename_i f a b he
      simp at hv; obtain ⟨rfl,rfl⟩:=hv
      rw [he] at h1
      refine ⟨rfl,_,ρ x,rfl,?_,h1⟩
      cases h1' : ρ x<;>rw [h1'] at h1<;>cases h1
      simp only [execOp,h1']; rfl
    · rename_i t v he
      simp at hv; obtain ⟨rfl,rfl⟩:=hv
      rw [he] at h1
      refine ⟨rfl,_,ρ x,rfl,?_,h1⟩
      cases h1' : ρ x<;>rw [h1'] at h1<;>cases h1
      simp only [execOp,h1']; rfl
    · cases hv
  · cases h

theorem closed_cell {α : Type} {s : Sem Value} {st : St} {n : VN} {st1 : St} (hv : ((closed P s).bind fun v=>if cellVal v then some (VN.val (AV.sc v),st) else none) = some (n,st1)) :
    st1 = st∧∃ v,n = .val (.sc v)∧cellVal v = true∧∀ w,s.run P w = .ok v w:=by
  simp only [Option.bind_eq_some_iff] at hv
  obtain ⟨v,h1,h2⟩:=hv
  split at h2
  · rename_i hc
    simp at h2
    obtain ⟨rfl,rfl⟩:=h2
    exact ⟨rfl,v,rfl,hc,run_closed _ h1⟩
  · cases h2

theorem eqGuard_c (op : BinOp) (t : TypeId) (x y : Operand) (a b : Value) : eqGuard op t x y a b = eqGuard op t (if isC x || isC y then .const a else .tmp 0) (.tmp 0) a b:=by
  unfold eqGuard
  cases x<;>cases y<;>simp [isC]

theorem eqGuard_none {op : BinOp} {t : TypeId} {x y : Operand} {v u : Value} (h1 : v≠.nilIface) (h2 : ∀ cs,v≠.agg cs) : (eqGuard op t x y v u).run P w = .ok () w:=by
  unfold eqGuard
  cases op<;>first | rfl | (cases v<;>first | (exact absurd rfl h1) | (exact absurd rfl (h2 _)) | rfl)
theorem eqGuard_lit {op : BinOp} {t : TypeId} {x : Operand} {c v : Value} : (eqGuard op t x (.const c) .nilIface v).run P w = .ok () w:=by
  unfold eqGuard
  cases op<;>first | rfl | (cases v<;>first | rfl | (cases x<;>rfl))

theorem nil_eq {t : TypeId} {d : TypeDesc} {k : Nat} {y : Operand} {v vy : Value} {x' y' : VOpd} {b : Bool} (hu : P.underlying t = some d) (hk : nilKind d y = some k) (hy : po gl y = some y') (hry : VRel K (y'.ev env) vy) (hrx : VRel K (x'.ev env) v)
    (hv : vop P (.isnil k b x') env st = some (n,st1)) : st1 = st∧∃ r : Bool,n = .val (.sc (.bool (if b then !r else r)))∧(Op.equal t v vy).run P w = .ok r w∧(∀ op xo,(eqGuard op t xo y v vy).run P w = .ok () w)∧(∀ k i,v≠.int k i)∧(∀ k i,v≠.float k i)∧(∀ k i j,v≠.complex k i j)∧∀ s,v≠.string s:=by
  unfold nilKind at hk
  split at hk
  · simp at hk; subst hk
    simp [po,cellVal] at hy; subst hy
    have:=VRel.sc_eq hry; subst this
    simp only [vop] at hv
    split at hv<;>simp at hv
    · rename_i b0 o0 he
      rw [he] at hrx
      obtain ⟨kb,_,rfl⟩:=ptr_inv hrx
      obtain ⟨rfl,rfl⟩:=hv
      refine ⟨rfl,false,by cases b<;>rfl,?_,fun _ _=>eqGuard_none (by simp) (by simp),by simp,by simp,by simp,by simp⟩
      unfold Op.equal Op.maxDepth Op.equalIn
      rw [run_bind _ _ _ (run_underlying' hu)]
      rfl
    · rename_i he
      rw [he] at hrx
      have:=VRel.sc_eq hrx; subst this
      obtain ⟨rfl,rfl⟩:=hv
      refine ⟨rfl,true,by cases b<;>rfl,?_,fun _ _=>eqGuard_none (by simp) (by simp),by simp,by simp,by simp,by simp⟩
      unfold Op.equal Op.maxDepth Op.equalIn
      rw [run_bind _ _ _ (run_underlying' hu)]
      rfl
  · simp at hk; subst hk
    simp [po,cellVal] at hy; subst hy
    have:=VRel.sc_eq hry; subst this
    simp only [vop] at hv
    split at hv<;>simp at hv
    · rename_i b0 o0 l0 e0 f0 he
      rw [he] at hrx
      obtain ⟨kb,a0,cap,_,_,rfl⟩:=sl_inv hrx
      obtain ⟨rfl,rfl⟩:=hv
      refine ⟨rfl,false,by cases b<;>rfl,?_,fun _ _=>eqGuard_none (by simp) (by simp),by simp,by simp,by simp,by simp⟩
      unfold Op.equal Op.maxDepth Op.equalIn
      rw [run_bind _ _ _ (run_underlying' hu)]
      rfl
    · rename_i he
      rw [he] at hrx
      have:=VRel.sc_eq hrx; subst this
      obtain ⟨rfl,rfl⟩:=hv
      refine ⟨rfl,true,by cases b<;>rfl,?_,fun _ _=>eqGuard_none (by simp) (by simp),by simp,by simp,by simp,by simp⟩
      unfold Op.equal Op.maxDepth Op.equalIn
      rw [run_bind _ _ _ (run_underlying' hu)]
      rfl
  · simp at hk; subst hk
    simp [po,cellVal] at hy; subst hy
    have:=VRel.sc_eq hry; subst this
    simp only [vop] at hv
    split at hv<;>simp at hv
    · rename_i f0 a0 b0 he
      rw [he] at hrx
      cases v<;>cases hrx
      obtain ⟨rfl,rfl⟩:=hv
      refine ⟨rfl,false,by cases b<;>rfl,?_,fun _ _=>eqGuard_none (by simp) (by simp),by simp,by simp,by simp,by simp⟩
      unfold Op.equal Op.maxDepth Op.equalIn
      rw [run_bind _ _ _ (run_underlying' hu)]
      rfl
    · rename_i he
      rw [he] at hrx
      have:=VRel.sc_eq hrx; subst this
      obtain ⟨rfl,rfl⟩:=hv
      refine ⟨rfl,true,by cases b<;>rfl,?_,fun _ _=>eqGuard_none (by simp) (by simp),by simp,by simp,by simp,by simp⟩
      unfold Op.equal Op.maxDepth Op.equalIn
      rw [run_bind _ _ _ (run_underlying' hu)]
      rfl
  · simp at hk; subst hk
    simp [po,cellVal] at hy; subst hy
    have:=VRel.sc_eq hry; subst this
    simp only [vop] at hv
    split at hv<;>simp at hv
    · rename_i he
      rw [he] at hrx
      cases hrx
      obtain ⟨rfl,rfl⟩:=hv
      refine ⟨rfl,false,by cases b<;>rfl,?_,fun _ _=>eqGuard_none (by simp) (by simp),by simp,by simp,by simp,by simp⟩
      unfold Op.equal Op.maxDepth Op.equalIn
      rw [run_bind _ _ _ (run_underlying' hu)]
      rfl
    · rename_i he
      rw [he] at hrx
      have:=VRel.sc_eq hrx; subst this
      obtain ⟨rfl,rfl⟩:=hv
      refine ⟨rfl,true,by cases b<;>rfl,?_,fun _ _=>eqGuard_lit,by simp,by simp,by simp,by simp⟩
      unfold Op.equal Op.maxDepth Op.equalIn
      rw [run_bind _ _ _ (run_underlying' hu)]
      rfl
  · cases hk

theorem peq_eq {t : TypeId} {d : TypeDesc} {v vy : Value} {x' y' : VOpd} {b : Bool} (hu : P.underlying t = some d) (hd : isPtr P d = true) (hry : VRel K (y'.ev env) vy) (hrx : VRel K (x'.ev env) v)
    (hv : vop P (.peq b x' y') env st = some (n,st1)) : st1 = st∧∃ r : Bool,n = .val (.sc (.bool (if b then !r else r)))∧(Op.equal t v vy).run P w = .ok r w∧(v≠.nilIface)∧(∀ cs,v≠.agg cs)∧(∀ k i,v≠.int k i)∧(∀ k i,v≠.float k i)∧(∀ k i j,v≠.complex k i j)∧∀ s,v≠.string s:=by
  unfold isPtr at hd
  split at hd
  · rename_i e
    split at hd
    case h_2=>cases hd
    rename_i ei hei
    have hsz : ei.size≠0:=fun h0=>by rw [h0] at hd; simp at hd
    obtain ⟨inf,hi1,_,hi3⟩:=ti_parts hei
    simp only [vop] at hv
    split at hv
    · rename_i b0 o0 b1 o1 he1 he2
      rw [he1] at hrx
      rw [he2] at hry
      obtain ⟨kb,hk,rfl⟩:=ptr_inv hrx
      obtain ⟨kb',hk',rfl⟩:=ptr_inv hry
      split at hv
      · rename_i hbb
        subst hbb
        rw [hk] at hk'
        cases hk'
        simp at hv
        obtain ⟨rfl,rfl⟩:=hv
        refine ⟨rfl,Nat.beq o0 o1,by cases b<;>rfl,?_,by simp,by simp,by simp,by simp,by simp,by simp⟩
        unfold Op.equal Op.maxDepth Op.equalIn
        rw [run_bind _ _ _ (run_underlying' hu)]
        show (do
          let n ← sizeOf e
          if n≠0 then sameAddr ⟨kb.rb,kb.ro + o0,none⟩ ⟨kb.rb,kb.ro + o1,none⟩
          else if (⟨kb.rb,kb.ro + o0,none⟩ : Addr) == ⟨kb.rb,kb.ro + o1,none⟩ then pure true
          else do pure (decide ((← choose .zeroSizeEq) = 1)) : Sem Bool).run P w = _
        rw [run_bind _ _ _ (run_size hei),if_pos hsz]
        unfold sameAddr
        rw [if_pos (by simp)]
        show Result.ok ((⟨kb.rb,kb.ro + o0,none⟩ : Addr) == ⟨kb.rb,kb.ro + o1,none⟩) w = _
        congr 1
        by_cases h : o0 = o1
        · subst h; simp
        · rw [show Nat.beq o0 o1 = false from by rw [Bool.eq_false_iff]; intro hb; exact h (Nat.eq_of_beq_eq_true hb)]
          rw [beq_eq_false_iff_ne]
          intro h2
          simp at h2
          exact h h2
      · cases hv
    · cases hv
  · cases hd
theorem binOp_eql {t : TypeId} {v u : Value} {r : Bool} (h : (Op.equal t v u).run P w = .ok r w) (h3 : ∀ k i,v≠.int k i) (h4 : ∀ k i,v≠.float k i) (h5 : ∀ k i j,v≠.complex k i j) (h6 : ∀ s,v≠.string s) :
    (binOp .eql t v u).run P w = .ok (.bool r) w:=by
  have : binOp .eql t v u = (do pure (.bool (← Op.equal t v u))):=by
    cases v<;>first | (exact absurd rfl (h3 _ _)) | (exact absurd rfl (h4 _ _)) | (exact absurd rfl (h5 _ _ _)) | (exact absurd rfl (h6 _)) | rfl
  rw [this,run_bind _ _ _ h]; rfl
theorem binOp_neq {t : TypeId} {v u : Value} {r : Bool} (h : (Op.equal t v u).run P w = .ok r w) (h3 : ∀ k i,v≠.int k i) (h4 : ∀ k i,v≠.float k i) (h5 : ∀ k i j,v≠.complex k i j) (h6 : ∀ s,v≠.string s) :
    (binOp .neq t v u).run P w = .ok (.bool (!r)) w:=by
  have : binOp .neq t v u = (do pure (.bool (!(← Op.equal t v u)))):=by
    cases v<;>first | (exact absurd rfl (h3 _ _)) | (exact absurd rfl (h4 _ _)) | (exact absurd rfl (h5 _ _ _)) | (exact absurd rfl (h6 _)) | rfl
  rw [this,run_bind _ _ _ h]; rfl
theorem read_bin {op : BinOp} {t : TypeId} {x y : Operand} {yt : TypeId} {dst ty pos_ af g} (h : prepOp P gl ty (.binOp op t x y yt) = some vo) (hρ : OpdOk gl K env ρ [x,y]) (hv : vop P vo env st = some (n,st1)) :
    ReadOk P K ρ ⟨dst,.binOp op t x y yt,ty,pos_,af,g⟩ w st st1 n:=by
  simp only [prepOp] at h
  split at h
  · rename_i x' y' ti hx hy hti
    have hrx:=hρ x (by simp) x' hx
    have hry:=hρ y (by simp) y' hy
    obtain ⟨inf,hi1,hi2,_⟩:=ti_parts hti
    split at h
    · rename_i hnil
      split at h
      · rename_i k hk
        split at h
        · rename_i ho
          simp at h; subst h; subst ho
          obtain ⟨rfl,r,rfl,h1,h2,h4,h5,h6,h7⟩:=nil_eq (w:=w) hi2 hk hy hry hrx hv
          refine ⟨rfl,_,.bool r,rfl,?_,.sc rfl⟩
          simp only [execOp]
          refine run_val ?_
          rw [run_bind _ _ _ (h2 _ _)]
          exact binOp_eql h1 h4 h5 h6 h7
        · split at h
          · rename_i ho
            simp at h; subst h; subst ho
            obtain ⟨rfl,r,rfl,h1,h2,h4,h5,h6,h7⟩:=nil_eq (w:=w) hi2 hk hy hry hrx hv
            refine ⟨rfl,_,.bool (!r),rfl,?_,.sc rfl⟩
            simp only [execOp]
            refine run_val ?_
            rw [run_bind _ _ _ (h2 _ _)]
            exact binOp_neq h1 h4 h5 h6 h7
          · cases h
      · split at h
        · rename_i hp
          split at h
          · rename_i ho
            simp at h; subst h; subst ho
            obtain ⟨rfl,r,rfl,h1,h2,h3,h4,h5,h6,h7⟩:=peq_eq (w:=w) hi2 hp hry hrx hv
            refine ⟨rfl,_,.bool r,rfl,?_,.sc rfl⟩
            simp only [execOp]
            refine run_val ?_
            rw [run_bind _ _ _ (eqGuard_none h2 h3)]
            exact binOp_eql h1 h4 h5 h6 h7
          · split at h
            · rename_i ho
              simp at h; subst h; subst ho
              obtain ⟨rfl,r,rfl,h1,h2,h3,h4,h5,h6,h7⟩:=peq_eq (w:=w) hi2 hp hry hrx hv
              refine ⟨rfl,_,.bool (!r),rfl,?_,.sc rfl⟩
              simp only [execOp]
              refine run_val ?_
              rw [run_bind _ _ _ (eqGuard_none h2 h3)]
              exact binOp_neq h1 h4 h5 h6 h7
            · cases h
        · split at h
          · simp at h; subst h
            simp only [vop] at hv
            split at hv
            · rename_i a b ha hb
              obtain ⟨rfl,v,rfl,hc,hr⟩:=closed_cell (α:=Unit) hv
              refine ⟨rfl,_,v,rfl,?_,.sc hc⟩
              simp only [execOp]
              refine run_val ?_
              rw [VRel.toV hrx ha,VRel.toV hry hb,eqGuard_c]
              exact hr w
            · cases hv
          · cases h
    · simp at h; subst h
      simp only [vop] at hv
      split at hv
      · rename_i a b ha hb
        obtain ⟨rfl,v,rfl,hc,hr⟩:=closed_cell (α:=Unit) hv
        refine ⟨rfl,_,v,rfl,?_,.sc hc⟩
        simp only [execOp]
        refine run_val ?_
        rw [VRel.toV hrx ha,VRel.toV hry hb,eqGuard_c]
        exact hr w
      · cases hv
  · cases h

theorem read_un {op : UnOp} {t : TypeId} {x : Operand} {dst ty pos_ af g} (h : prepOp P gl ty (.unOp op t x) = some vo) (hρ : OpdOk gl K env ρ [x]) (hv : vop P vo env st = some (n,st1)) :
    ReadOk P K ρ ⟨dst,.unOp op t x,ty,pos_,af,g⟩ w st st1 n:=by
  simp only [prepOp] at h
  split at h
  · rename_i x' hx
    simp at h; subst h
    have hrx:=hρ x (by simp) x' hx
    simp only [vop] at hv
    split at hv
    · rename_i a ha
      obtain ⟨rfl,v,rfl,hc,hr⟩:=closed_cell (α:=Unit) hv
      refine ⟨rfl,_,v,rfl,?_,.sc hc⟩
      simp only [execOp]
      refine run_val ?_
      rw [VRel.toV hrx ha]
      exact hr w
    · cases hv
  · cases h
theorem read_conv {s d : TypeId} {x : Operand} {dst ty pos_ af g} (hk : vo.kind≤0) (h : prepOp P gl ty (.convert s d x) = some vo) (hρ : OpdOk gl K env ρ [x]) (hv : vop P vo env st = some (n,st1)) :
    ReadOk P K ρ ⟨dst,.convert s d x,ty,pos_,af,g⟩ w st st1 n:=by
  simp only [prepOp] at h
  split at h
  · rename_i x' hx
    simp only [Option.some.injEq] at h
    split at h
    · subst h; simp [VOp.kind] at hk
    split at h
    · subst h; simp [VOp.kind] at hk
    split at h
    · subst h; simp [VOp.kind] at hk
    subst h
    have hrx:=hρ x (by simp) x' hx
    simp only [vop] at hv
    split at hv
    · rename_i a ha
      obtain ⟨rfl,v,rfl,hc,hr⟩:=closed_cell (α:=Unit) hv
      refine ⟨rfl,_,v,rfl,?_,.sc hc⟩
      simp only [execOp]
      refine run_val ?_
      rw [VRel.toV hrx ha]
      exact hr w
    · cases hv
  · cases h
theorem read_mkif {t : TypeId} {x : Operand} {dst ty pos_ af g} (h : prepOp P gl ty (.makeInterface t x) = some vo) (hρ : OpdOk gl K env ρ [x]) (hv : vop P vo env st = some (n,st1)) :
    ReadOk P K ρ ⟨dst,.makeInterface t x,ty,pos_,af,g⟩ w st st1 n:=by
  simp only [prepOp] at h
  split at h
  · rename_i x' ti hx hti
    split at h
    · cases h
    · rename_i hi
      simp at h; subst h
      have hrx:=hρ x (by simp) x' hx
      simp [vop] at hv
      obtain ⟨rfl,rfl⟩:=hv
      refine ⟨rfl,_,.iface t (ρ x),rfl,?_,.iface hrx⟩
      simp only [execOp]
      refine run_val ?_
      unfold Instr.makeInterface
      rw [run_bind _ _ _ (run_und hti)]
      cases hd : ti.desc<;>simp [isIface,hd] at hi ⊢<;>rfl
  · cases h
theorem map_toArr (ρ : Operand→Value) (a : Array Operand) : (a.toList.map ρ).toArray = a.map ρ:=by
  rw [←Array.toList_map]
theorem read_mkfn {f : Fn} {fs cs : Array Operand} {dst ty pos_ af g} (h : prepOp P gl ty (.makeFunc f fs cs) = some vo) (hρ : OpdOk gl K env ρ (fs++cs).toList) (hv : vop P vo env st = some (n,st1)) :
    ReadOk P K ρ ⟨dst,.makeFunc f fs cs,ty,pos_,af,g⟩ w st st1 n:=by
  cases f with
  | func f =>
    simp only [prepOp] at h
    split at h
    · rename_i xs ys hx hy
      simp at h; subst h
      have h1:=pos_rel (K:=K) (env:=env) (ρ:=ρ) (fun y hy=>hρ y (by simp at hy ⊢; exact .inl hy)) hx
      have h2:=pos_rel (K:=K) (env:=env) (ρ:=ρ) (fun y hy=>hρ y (by simp at hy ⊢; exact .inr hy)) hy
      simp [vop] at hv
      obtain ⟨rfl,rfl⟩:=hv
      refine ⟨rfl,_,.func (.func f) (fs.map ρ) (cs.map ρ),rfl,?_,?_⟩
      · simp only [execOp]
        rfl
      · have:=VRel.fn (f:=f) h1 h2
        rw [map_toArr,map_toArr] at this
        exact this
    · cases h
  | _=>simp [prepOp] at h
theorem read_ext {x : Operand} {i : Nat} {dst ty pos_ af g} (h : prepOp P gl ty (.extract x i) = some vo) (hρ : OpdOk gl K env ρ [x]) (hv : vop P vo env st = some (n,st1)) :
    ReadOk P K ρ ⟨dst,.extract x i,ty,pos_,af,g⟩ w st st1 n:=by
  simp only [prepOp] at h
  split at h
  · rename_i x' hx
    simp at h; subst h
    have hrx:=hρ x (by simp) x' hx
    simp only [vop] at hv
    split at hv
    · rename_i vs he
      simp only [Option.map_eq_some_iff] at hv
      obtain ⟨v,hv,e⟩:=hv
      simp at e; obtain ⟨rfl,rfl⟩:=e
      rw [he] at hrx
      obtain ⟨us,hr,e⟩:=tup_inv hrx
      obtain ⟨u,hu,hrel⟩:=hr.get i hv
      refine ⟨rfl,_,u,rfl,?_,hrel⟩
      simp only [execOp]
      refine run_val ?_
      rw [e]
      unfold Instr.extract
      have : us.toArray[i]? = some u:=by simpa using hu
      simp only [this]
      rfl
    · cases hv
  · cases h
theorem run_fieldPlace {a : Addr} {f : Field} {fi : TI} (h : tiOf P f.type = some fi) (hs : 0 < fi.size) : (fieldPlace a f).run P w = .ok (a.add f.offset) w:=by
  unfold fieldPlace
  rw [run_bind _ _ _ (run_size h),if_neg (by omega)]
  rfl
theorem read_fieldA {s : TypeId} {x : Operand} {f : Nat} {dst ty pos_ af g} (h : prepOp P gl ty (.fieldAddr s x f) = some vo) (hρ : OpdOk gl K env ρ [x]) (hv : vop P vo env st = some (n,st1)) :
    ReadOk P K ρ ⟨dst,.fieldAddr s x f,ty,pos_,af,g⟩ w st st1 n:=by
  simp only [prepOp] at h
  split at h
  · rename_i ti x' hti hx
    split at h
    · rename_i fs hfs
      split at h
      · rename_i fd hfd
        split at h
        · rename_i fi hfi
          split at h
          · rename_i hsz
            simp at h; subst h
            have hrx:=hρ x (by simp) x' hx
            simp only [vop] at hv
            split at hv
            · rename_i b o he
              simp at hv; obtain ⟨rfl,rfl⟩:=hv
              rw [he] at hrx
              obtain ⟨kb,hkb,e⟩:=ptr_inv hrx
              refine ⟨rfl,_,.pointer (some ⟨kb.rb,kb.ro + (o + fd.offset),none⟩),rfl,?_,.ptr hkb⟩
              simp only [execOp]
              refine run_val ?_
              unfold Instr.fieldAt
              rw [run_bind _ _ _ (run_und hti),hfs]
              simp only [hfd]
              rw [e,run_bind _ _ _ (sureAddr_ptr _),run_bind _ _ _ (run_fieldPlace hfi hsz),add_eq,Nat.add_assoc]
              rfl
            · cases hv
          · cases h
        · cases h
      · cases h
    · cases h
  · cases h
theorem read_field {s : TypeId} {x : Operand} {f : Nat} {dst ty pos_ af g} (h : prepOp P gl ty (.field s x f) = some vo) (hρ : OpdOk gl K env ρ [x]) (hv : vop P vo env st = some (n,st1)) :
    ReadOk P K ρ ⟨dst,.field s x f,ty,pos_,af,g⟩ w st st1 n:=by
  simp only [prepOp] at h
  split at h
  · rename_i ti x' hti hx
    split at h
    · rename_i fs hfs
      split at h
      · rename_i fd hfd
        split at h
        · rename_i fi hfi
          simp at h; subst h
          have hrx:=hρ x (by simp) x' hx
          simp only [vop] at hv
          have key : ∀ cs v,x'.ev env = .agg cs→(match fi.agg? with | none=>cs[fd.offset]? | some n=>if fd.offset + n≤cs.length then some (.agg ((cs.drop fd.offset).take n)) else none) = some v→st1 = st→n = .val v →
              ReadOk P K ρ ⟨dst,.field s x f,ty,pos_,af,g⟩ w st st1 n:=by
            intro cs v he hm e1 e2
            rw [he] at hrx
            obtain ⟨vs,hr,e⟩:=agg_inv hrx
            obtain ⟨v',h1,h2⟩:=run_part (w:=w) hfi hr fd.offset hm
            refine ⟨e1,v,v',e2,?_,h2⟩
            simp only [execOp]
            refine run_val ?_
            unfold Instr.field
            rw [run_bind _ _ _ (run_und hti),hfs]
            simp only [hfd]
            rw [e]
            exact h1
          split at hv
          · rename_i cs he hn
            simp only [Option.map_eq_some_iff] at hv
            obtain ⟨v,hv,e⟩:=hv
            simp at e
            exact key cs v he (by rw [hn]; exact hv) e.2.symm e.1.symm
          · rename_i cs m he hn
            split at hv
            · rename_i hl
              simp at hv
              exact key cs _ he (by rw [hn]; simp [hl]) hv.2.symm hv.1.symm
            · cases hv
          · cases hv
        · cases h
      · cases h
    · cases h
  · cases h
end
end Go.VX
end
section
namespace Go.VX
open Go.RowKit (Below)

section
variable {P : Program} {n0 : Nat} {wi : World} {gl : List Nat} {K : KM} {st st1 : St} {w : World} {env : Env} {ρ : Operand→Value} {n : VN} {vo : VOp}

theorem run_asIntOf (k : IntKind) (i : Int) : (asIntOf (.int k i)).run P w = .ok (k,i) w:=rfl

theorem read_idxA {t : TypeId} {x i : Operand} {dst ty pos_ af g} (h : prepOp P gl ty (.indexAddr t x i) = some vo) (hρ : OpdOk gl K env ρ [x,i]) (hv : vop P vo env st = some (n,st1)) :
    ReadOk P K ρ ⟨dst,.indexAddr t x i,ty,pos_,af,g⟩ w st st1 n:=by
  simp only [prepOp] at h
  split at h
  · rename_i ti x' i' hti hx hi
    have hrx:=hρ x (by simp) x' hx
    have hri:=hρ i (by simp) i' hi
    split at h
    · rename_i len e hd
      split at h
      · rename_i ei hei
        simp at h; subst h
        simp only [vop] at hv
        split at hv
        · rename_i b o len' j he hl hj
          simp at hl; subst hl
          split at hv
          · rename_i hb
            simp at hv; obtain ⟨rfl,rfl⟩:=hv
            rw [he] at hrx
            obtain ⟨kb,hkb,e1⟩:=ptr_inv hrx
            obtain ⟨k,e2⟩:=asInt_inv hri hj
            refine ⟨rfl,_,.pointer (some ⟨kb.rb,kb.ro + (o + j.toNat * ei.size),none⟩),rfl,?_,.ptr hkb⟩
            simp only [execOp]
            refine run_val ?_
            unfold Instr.indexAt
            rw [e1,e2,run_bind _ _ _ (run_asIntOf k j)]
            simp only
            rw [run_bind _ _ _ (run_und hti),hd]
            simp only
            rw [run_bind _ _ _ (sureAddr_ptr _),run_bind _ _ _ (run_pure _ _),run_bind _ _ _ (run_und hti)]
            simp only
            rw [if_pos hb,run_bind _ _ _ (run_size hei),add_eq,Nat.add_assoc]
            rfl
          · cases hv
        · rename_i he hc hj; cases hc
        · cases hv
      · cases h
    · rename_i e hd
      split at h
      · rename_i ei hei
        simp at h; subst h
        simp only [vop] at hv
        split at hv
        · rename_i he hc hj; cases hc
        · rename_i b o len esz' full j he hn hj
          split at hv
          · rename_i hb3
            have hb : 0≤j∧j < (len : Int):=⟨hb3.1,hb3.2.1⟩
            simp at hv; obtain ⟨rfl,rfl⟩:=hv
            rw [he] at hrx
            obtain ⟨kb,a,cap,hkb,hok,e1⟩:=sl_inv hrx
            obtain ⟨k,e2⟩:=asInt_inv hri hj
            obtain ⟨h1,h2,h3⟩:=hok
            have ha : a = ⟨kb.rb,kb.ro + o,none⟩:=by
              rcases h3 with ⟨h3,_⟩ | ⟨h3,_⟩
              · exact h3
              · omega
            refine ⟨rfl,_,.pointer (some ⟨kb.rb,kb.ro + (o + j.toNat * ei.size),none⟩),rfl,?_,.ptr hkb⟩
            simp only [execOp]
            refine run_val ?_
            unfold Instr.indexAt
            rw [e1,e2,run_bind _ _ _ (run_asIntOf k j)]
            simp only
            rw [run_bind _ _ _ (run_und hti),hd]
            simp only
            rw [run_bind _ _ _ (run_pure _ _),run_bind _ _ _ (run_und hti)]
            simp only
            rw [if_pos hb,run_bind _ _ _ (run_size hei),ha,add_eq,Nat.add_assoc]
            rfl
          · cases hv
        · cases hv
      · cases h
    · cases h
  · cases h

theorem read_idx {t : TypeId} {x i : Operand} {dst ty pos_ af g} (h : prepOp P gl ty (.index t x i) = some vo) (hρ : OpdOk gl K env ρ [x,i]) (hv : vop P vo env st = some (n,st1)) :
    ReadOk P K ρ ⟨dst,.index t x i,ty,pos_,af,g⟩ w st st1 n:=by
  simp only [prepOp] at h
  split at h
  · rename_i ti x' i' hti hx hi
    have hrx:=hρ x (by simp) x' hx
    have hri:=hρ i (by simp) i' hi
    split at h
    · rename_i hd
      simp at h; subst h
      simp only [vop] at hv
      split at hv
      · rename_i a b ha hb
        obtain ⟨rfl,v,rfl,hc,hr⟩:=closed_cell (α:=Unit) hv
        refine ⟨rfl,_,v,rfl,?_,.sc hc⟩
        simp only [execOp]
        refine run_val ?_
        rw [VRel.toV hrx ha,VRel.toV hri hb]
        exact hr w
      · cases hv
    · rename_i len e hd
      split at h
      · rename_i ei hei
        simp at h; subst h
        simp only [vop] at hv
        have key : ∀ cs j v,x'.ev env = .agg cs→asInt? (i'.ev env) = some j→(0≤j∧j < (len : Int))→(match ei.agg? with | none=>cs[j.toNat * ei.size]? | some n=>if j.toNat * ei.size + n≤cs.length then some (.agg ((cs.drop (j.toNat * ei.size)).take n)) else none) = some v→st1 = st→n = .val v →
            ReadOk P K ρ ⟨dst,.index t x i,ty,pos_,af,g⟩ w st st1 n:=by
          intro cs j v he hj hb hm e1 e2
          rw [he] at hrx
          obtain ⟨vs,hr,e⟩:=agg_inv hrx
          obtain ⟨k,ek⟩:=asInt_inv hri hj
          obtain ⟨v',h1,h2⟩:=run_part (w:=w) hei hr (j.toNat * ei.size) hm
          refine ⟨e1,v,v',e2,?_,h2⟩
          simp only [execOp]
          refine run_val ?_
          unfold Instr.index
          rw [e,ek,run_bind _ _ _ (run_asIntOf k j)]
          simp only
          rw [run_bind _ _ _ (run_und hti),hd]
          simp only
          rw [if_pos hb,run_bind _ _ _ (run_size hei)]
          exact h1
        split at hv
        · rename_i cs j he hj hn
          split at hv
          · rename_i hb
            simp only [Option.map_eq_some_iff] at hv
            obtain ⟨v,hv,e⟩:=hv
            simp at e
            exact key cs j v he hj hb (by rw [hn]; exact hv) e.2.symm e.1.symm
          · cases hv
        · rename_i cs j m he hj hn
          split at hv
          · rename_i hb
            simp at hv
            exact key cs j _ he hj ⟨hb.1,hb.2.1⟩ (by rw [hn]; simp [hb.2.2]) hv.2.symm hv.1.symm
          · cases hv
        · cases hv
      · cases h
    · cases h
  · cases h

theorem bnd_rel {x : Option Operand} {x' : Option VOpd} (hx : poO gl x = some x') (hρ : OpdOk gl K env ρ x.toList) {d m : Nat} (hb : bnd env d x' = some m) :
    (x = none∧x' = none∧m = d)∨(∃ y y' k,x = some y∧x' = some y'∧ρ y = .int k (m : Int)):=by
  unfold poO at hx
  split at hx
  · simp at hx; subst hx
    simp [bnd] at hb
    exact .inl ⟨rfl,rfl,hb.symm⟩
  · rename_i y
    split at hx
    · rename_i y' hy
      simp at hx; subst hx
      simp only [bnd] at hb
      obtain ⟨k,hk⟩:=asNat_inv (hρ y (by simp) y' hy) hb
      exact .inr ⟨y,y',k,rfl,rfl,hk⟩
    · cases hx
theorem run_sliceBound {k : IntKind} {i y : Nat} {code : BoundsCode} (h : i≤y) : (Instr.sliceBound (.int k (i : Int)) y code).run P w = .ok i w:=by
  unfold Instr.sliceBound
  rw [run_bind _ _ _ (run_asIntOf k i)]
  simp only
  rw [if_pos (by omega)]
  simp [Sem.run,Pure.pure]

theorem run_sliceBounds {isS : Bool} {len cap m hh l : Nat} {lo hi mx : Option Operand} {lo' hi' mx' : Option VOpd} (hlo : poO gl lo = some lo') (hhi : poO gl hi = some hi') (hmx : poO gl mx = some mx')
    (ρ1 : OpdOk gl K env ρ lo.toList) (ρ2 : OpdOk gl K env ρ hi.toList) (ρ3 : OpdOk gl K env ρ mx.toList) {dm : Nat} (b3 : bnd env dm mx' = some m) (b2 : bnd env len hi' = some hh) (b1 : bnd env 0 lo' = some l)
    (h1 : l≤hh) (h2 : hh≤m) (h3 : m≤cap) (h4 : len≤cap) (h5 : mx'.isSome = true→hi'.isSome = true) :
    (Instr.sliceBounds isS len cap (lo.map ρ) (hi.map ρ) (mx.map ρ)).run P w = .ok (l,hh,if mx'.isSome then m else cap) w:=by
  unfold Instr.sliceBounds
  rcases bnd_rel hmx ρ3 b3 with ⟨rfl,rfl,rfl⟩ | ⟨y3,y3',k3,rfl,rfl,e3⟩
  · simp only [Option.map_none,Option.isSome_none,Bool.false_eq_true,if_false]
    rw [run_bind _ _ _ (run_pure _ _)]
    rcases bnd_rel hhi ρ2 b2 with ⟨rfl,rfl,rfl⟩ | ⟨y2,y2',k2,rfl,rfl,e2⟩
    · simp only [Option.map_none]
      rw [run_bind _ _ _ (run_pure _ _)]
      rcases bnd_rel hlo ρ1 b1 with ⟨rfl,rfl,rfl⟩ | ⟨y1,y1',k1,rfl,rfl,e1⟩
      · rfl
      · simp only [Option.map_some]
        rw [e1,run_bind _ _ _ (run_sliceBound h1)]; rfl
    · simp only [Option.map_some]
      rw [e2]
      have:=run_sliceBound (P:=P) (w:=w) (k:=k2) (i:=hh) (y:=cap) (code:=if isS = true then .sliceAcap else .sliceAlen) (by omega)
      rw [run_bind _ _ _ this]
      rcases bnd_rel hlo ρ1 b1 with ⟨rfl,rfl,rfl⟩ | ⟨y1,y1',k1,rfl,rfl,e1⟩
      · rfl
      · simp only [Option.map_some]
        rw [e1,run_bind _ _ _ (run_sliceBound h1)]; rfl
  · have h5':=h5 rfl
    rcases bnd_rel hhi ρ2 b2 with ⟨rfl,rfl,rfl⟩ | ⟨y2,y2',k2,rfl,rfl,e2⟩
    · cases h5'
    · simp only [Option.map_some,Option.isSome_some,if_true]
      rw [e3,e2]
      have:=run_sliceBound (P:=P) (w:=w) (k:=k3) (i:=m) (y:=cap) (code:=if isS = true then .slice3Acap else .slice3Alen) h3
      rw [run_bind _ _ _ this,run_bind _ _ _ (run_sliceBound h2)]
      rcases bnd_rel hlo ρ1 b1 with ⟨rfl,rfl,rfl⟩ | ⟨y1,y1',k1,rfl,rfl,e1⟩
      · rfl
      · simp only [Option.map_some]
        rw [e1,run_bind _ _ _ (run_sliceBound h1)]; rfl

theorem poO_some {x : Option Operand} {x' : Option VOpd} (h : poO gl x = some x') : x.isSome = x'.isSome:=by
  unfold poO at h
  split at h
  · simp at h; subst h; rfl
  · split at h
    · simp at h; subst h; rfl
    · cases h
theorem poO_val {x : Option Operand} {x' : Option VOpd} (hx : poO gl x = some x') (hρ : OpdOk gl K env ρ x.toList) {u : Value} (h : ((x'.map (·.ev env)).map AV.toV) = some (some u)) : x.map ρ = some u:=by
  unfold poO at hx
  split at hx
  · simp at hx; subst hx; simp at h
  · rename_i y
    split at hx
    · rename_i y' hy
      simp at hx; subst hx
      simp at h
      rw [Option.map_some,VRel.toV (hρ y (by simp) y' hy) h]
    · cases hx
theorem poO_none {x : Option Operand} {x' : Option VOpd} (hx : poO gl x = some x') (h : ((x'.map (·.ev env)).map AV.toV) = none) : x = none:=by
  have:=poO_some hx
  cases x' with
  | none=>cases x<;>simp_all
  | some _=>simp at h

theorem read_slice (hW : WRel n0 wi gl K st w) {t : TypeId} {x : Operand} {lo hi mx : Option Operand} {dst ty pos_ af g} (h : prepOp P gl ty (.slice t x lo hi mx) = some vo) (hρ : OpdOk gl K env ρ ([x]++lo.toList++hi.toList++mx.toList)) (hv : vop P vo env st = some (n,st1)) :
    ReadOk P K ρ ⟨dst,.slice t x lo hi mx,ty,pos_,af,g⟩ w st st1 n:=by
  have ρ1 : OpdOk gl K env ρ lo.toList:=fun y hy=>hρ y (by simp at hy ⊢; simp [hy])
  have ρ2 : OpdOk gl K env ρ hi.toList:=fun y hy=>hρ y (by simp at hy ⊢; simp [hy])
  have ρ3 : OpdOk gl K env ρ mx.toList:=fun y hy=>hρ y (by simp at hy ⊢; simp [hy])
  simp only [prepOp] at h
  split at h
  · rename_i ti x' lo' hi' mx' hti hx hlo hhi hmx
    have hrx:=hρ x (by simp) x' hx
    split at h
    · rename_i hd
      split at h
      · simp at h; subst h
        have hmn : mx = none:=by have:=poO_some hmx; cases mx<;>simp_all
        subst hmn
        have hs : ∀ v,Instr.sliceAt t v (lo.map ρ) (hi.map ρ) none = Instr.sliceAt t v (lo.map ρ) (hi.map ρ) none:=fun _=>rfl
        simp only [vop] at hv
        split at hv
        · rename_i a ha h1 h2
          obtain ⟨rfl,v,rfl,hc,hr⟩:=closed_cell (α:=Unit) hv
          refine ⟨rfl,_,v,rfl,?_,.sc hc⟩
          simp only [execOp]
          refine run_val ?_
          rw [VRel.toV hrx ha,poO_none hlo h1,poO_none hhi h2]
          exact hr w
        · rename_i a l ha h1 h2
          obtain ⟨rfl,v,rfl,hc,hr⟩:=closed_cell (α:=Unit) hv
          refine ⟨rfl,_,v,rfl,?_,.sc hc⟩
          simp only [execOp]
          refine run_val ?_
          rw [VRel.toV hrx ha,poO_val hlo ρ1 h1,poO_none hhi h2]
          exact hr w
        · rename_i a l ha h1 h2
          obtain ⟨rfl,v,rfl,hc,hr⟩:=closed_cell (α:=Unit) hv
          refine ⟨rfl,_,v,rfl,?_,.sc hc⟩
          simp only [execOp]
          refine run_val ?_
          rw [VRel.toV hrx ha,poO_none hlo h1,poO_val hhi ρ2 h2]
          exact hr w
        · rename_i a l l2 ha h1 h2
          obtain ⟨rfl,v,rfl,hc,hr⟩:=closed_cell (α:=Unit) hv
          refine ⟨rfl,_,v,rfl,?_,.sc hc⟩
          simp only [execOp]
          refine run_val ?_
          rw [VRel.toV hrx ha,poO_val hlo ρ1 h1,poO_val hhi ρ2 h2]
          exact hr w
        · cases hv
      · cases h
    · rename_i e hd
      split at h
      · rename_i ei hei
        simp at h; subst h
        simp only [vop] at hv
        split at hv
        · rename_i hc he; cases hc
        · rename_i b o len esz' full hnn0 he
          split at hv
          · rename_i m hh l b3 b2 b1
            split at hv
            · rename_i hc
              obtain ⟨c1,c2,c3,c4,c5⟩:=hc
              simp at hv; obtain ⟨rfl,rfl⟩:=hv
              rw [he] at hrx
              obtain ⟨kb,a,cap,hkb,hok,e1⟩:=sl_inv hrx
              obtain ⟨o1,o2,o3⟩:=hok
              have hbs:=run_sliceBounds (P:=P) (w:=w) (isS:=true) (cap:=cap) hlo hhi hmx ρ1 ρ2 ρ3 b3 b2 b1 c1 c2 (by omega) o1 c4
              refine ⟨rfl,_,.slice ((if (if mx'.isSome = true then m else cap) = l then some a else (some a).map (·.add (l * ei.size)))) (hh - l) ((if mx'.isSome = true then m else cap) - l),rfl,?_,?_⟩
              · simp only [execOp]
                refine run_val ?_
                unfold Instr.sliceAt
                rw [run_bind _ _ _ (run_und hti),hd]
                simp only
                unfold Instr.slice
                rw [e1,run_bind _ _ _ (run_und hti),hd]
                simp only
                rw [run_bind _ _ _ hbs]
                simp only
                rw [run_bind _ _ _ (run_size hei)]
                rfl
              · have hshow : ∀ q : Option Addr,(if (if mx'.isSome = true then m else cap) = l then q else q.map (·.add (l * ei.size))) = q.map fun a=>if (if mx'.isSome = true then m else cap) = l then a else a.add (l * ei.size):=fun q=>by by_cases hz0 : (if mx'.isSome = true then m else cap) = l<;>simp [hz0]
                rw [hshow]
                have hmc : (if mx'.isSome = true then m else cap)≤cap:=by split<;>omega
                have hhm : hh≤(if mx'.isSome = true then m else cap):=by
                  split
                  · omega
                  · rename_i hnn
                    have : mx' = none:=by cases mx'<;>simp_all
                    subst this
                    simp [bnd] at b3
                    omega
                refine .sl hkb ⟨by omega,?_,?_⟩
                · split
                  · intro hf; have : m = hh:=by simpa using hf
                    omega
                  · intro hf
                    simp only [Bool.and_eq_true,beq_iff_eq] at hf
                    have:=o2 hf.1; omega
                · rcases o3 with ⟨ha,hz⟩ | ⟨hz1,hz2⟩
                  · by_cases hzero : (if mx'.isSome = true then m else cap) = l
                    · right
                      omega
                    · left
                      show (if (if mx'.isSome = true then m else cap) = l then a else a.add (l * ei.size)) = _∧_
                      rw [if_neg hzero,ha,add_eq]
                      refine ⟨by rw [Nat.add_assoc],?_⟩
                      subst c5
                      have h1 : ((if mx'.isSome = true then m else cap) - l) * ei.size + l * ei.size≤cap * ei.size:=by
                        rw [←Nat.add_mul]; exact Nat.mul_le_mul_right _ (by omega)
                      omega
                  · right
                    omega
            · cases hv
          · cases hv
        · rename_i hnn0 he
          split at hv
          · rename_i b3 b2 b1
            split at hv
            · rename_i c4
              simp at hv; obtain ⟨rfl,rfl⟩:=hv
              rw [he] at hrx
              have e1:=VRel.sc_eq hrx
              have hbs:=run_sliceBounds (P:=P) (w:=w) (isS:=true) (cap:=0) (len:=0) hlo hhi hmx ρ1 ρ2 ρ3 b3 b2 b1 (Nat.le_refl _) (Nat.le_refl _) (Nat.le_refl _) (Nat.le_refl _) c4
              refine ⟨rfl,_,.slice none 0 0,rfl,?_,.sc rfl⟩
              simp only [execOp]
              refine run_val ?_
              unfold Instr.sliceAt
              rw [run_bind _ _ _ (run_und hti),hd]
              simp only
              unfold Instr.slice
              rw [e1,run_bind _ _ _ (run_und hti),hd]
              simp only
              rw [run_bind _ _ _ hbs]
              simp only
              rw [run_bind _ _ _ (run_size hei)]
              cases mx'<;>rfl
            · cases hv
          · cases hv
        · cases hv
      · cases h
    · rename_i n' e hd
      split at h
      · rename_i ei hei
        simp at h; subst h
        simp only [vop] at hv
        split at hv
        · rename_i n2 b o hn2 he
          simp at hn2; subst hn2
          split at hv
          · rename_i m hh l b3 b2 b1
            split at hv
            · rename_i hc
              obtain ⟨c1,c2,c3,c4,c5⟩:=hc
              simp at hv; obtain ⟨rfl,rfl⟩:=hv
              rw [he] at hrx
              obtain ⟨kb,hkb,e1⟩:=ptr_inv hrx
              have hbs:=run_sliceBounds (P:=P) (w:=w) (isS:=false) (cap:=n') (len:=n') hlo hhi hmx ρ1 ρ2 ρ3 b3 b2 b1 c1 c2 c3 (Nat.le_refl _) c4
              have hcap : (if mx'.isSome = true then m else n') = m:=by
                split
                · rfl
                · rename_i hnn
                  have : mx' = none:=by cases mx'<;>simp_all
                  subst this
                  simpa [bnd] using b3
              rw [hcap] at hbs
              refine ⟨rfl,_,.slice (some (if m = l then ⟨kb.rb,kb.ro + o,none⟩ else (⟨kb.rb,kb.ro + o,none⟩ : Addr).add (l * ei.size))) (hh - l) (m - l),rfl,?_,?_⟩
              · simp only [execOp]
                refine run_val ?_
                unfold Instr.sliceAt
                rw [run_bind _ _ _ (run_und hti),hd]
                simp only
                rw [e1,run_bind _ _ _ (sureAddr_ptr _),run_bind _ _ _ hbs]
                simp only
                rw [run_bind _ _ _ (run_size hei)]
                rfl
              · refine .sl hkb ⟨by omega,?_,?_⟩
                · intro hf; have : m = hh:=by simpa using hf
                  omega
                · by_cases hzero : m = l
                  · right; omega
                  · left
                    rw [if_neg hzero,add_eq]
                    refine ⟨by rw [Nat.add_assoc],?_⟩
                    have h1 : (m - l) * ei.size + l * ei.size≤n' * ei.size:=by
                      rw [←Nat.add_mul]; exact Nat.mul_le_mul_right _ (by omega)
                    have h2 : kb.ro + o + n' * ei.size≤kb.rsz:=by
                      obtain ⟨as,has⟩:=Option.isSome_iff_exists.1 c5
                      unfold St.atN at has
                      split at has
                      · rename_i bx hbx
                        split at has
                        · cases has
                        · rename_i hm2
                          split at has
                          · rename_i hl2
                            have:=hW.fit b bx kb hbx hm2 hkb
                            omega
                          · cases has
                      · cases has
                    omega
            · cases hv
          · cases hv
        · rename_i hc he; cases hc
        · rename_i hc he; cases hc
        · cases hv
      · cases h
    · cases h
  · cases h
end
end Go.VX
end
