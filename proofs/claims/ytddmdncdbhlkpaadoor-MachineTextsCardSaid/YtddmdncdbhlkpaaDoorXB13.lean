/- A part of the proofs of the statements of one layer: R1, R2. No condition is added here. -/
import Derived.ChangeOld
import Derived.ChangeArms
import Derived.ChangeShapes
import Derived.Test.YtddmdncdbhlkpaaDoorXB12
set_option linter.unusedVariables false
set_option linter.unusedSimpArgs false
section
namespace Go.VX
open Go.RowKit (Below)
section
variable {H : Type} {enc : TypeId × Value→H} {P : Program} {W : World} {gl : List Nat}
structure Ent (gl : List Nat) (W : World) (K : KM) (st : St) : Prop where
  rel : WRel W.heap.size W gl K st W
  ro : ∀ (b : Nat) (x : Box),st[b]? = some x→x.mode = 1
theorem Ent.add {K : KM} {st : St} (h : Ent gl W K st) {kb : KB} {cs : List AV} (hlt : kb.rb < W.heap.size) (hfit : kb.ro + cs.length≤kb.rsz) (hc : ∀ (o : Nat) (a : AV),cs[o]? = some a→∃ v,W.cell? ⟨kb.rb,kb.ro + o,none⟩ = some v∧VRel K a v) :
    Ent gl W (K.set st.length kb) (st++[⟨cs,1,0⟩])∧KM.le K (K.set st.length kb):=by
  have hle : KM.le K (K.set st.length kb):=KM.le_set h.rel.none
  have hin : ∀ {b : Nat} {x : Box} {kb' : KB},(st++[⟨cs,1,0⟩] : St)[b]? = some x→(K.set st.length kb) b = some kb'→(b < st.length∧st[b]? = some x∧K b = some kb')∨(b = st.length∧x = ⟨cs,1,0⟩∧kb' = kb):=fun {b x kb'} hx hk=>by
    unfold KM.set at hk
    split at hk
    · rename_i e
      subst e
      cases hk
      simp at hx
      exact .inr ⟨rfl,hx.symm,rfl⟩
    · have hb:=h.rel.dom b kb' hk
      rw [List.getElem?_append_left hb] at hx
      exact .inl ⟨hb,hx,hk⟩
  have hro : ∀ (b : Nat) (x : Box),(st++[⟨cs,1,0⟩] : St)[b]? = some x→x.mode = 1:=fun b x hx=>by
    by_cases hb : b < st.length
    · rw [List.getElem?_append_left hb] at hx
      exact h.ro b x hx
    · rw [List.getElem?_append_right (by omega)] at hx
      have:=(List.getElem?_eq_some_iff.1 hx).1
      simp at this
      have e : b - st.length = 0:=by omega
      rw [e] at hx
      simp at hx
      rw [←hx]
  refine ⟨⟨?_,hro⟩,hle⟩
  exact {
    below:=h.rel.below
    dom:=fun b kb' hk=>by
      unfold KM.set at hk
      split at hk
      · subst_vars; simp
      · have:=h.rel.dom b kb' hk; simp; omega
    lt:=fun b x kb' hx hm hk=>by
      rcases hin hx hk with ⟨_,h1,h2⟩ | ⟨_,_,rfl⟩
      · exact h.rel.lt b x kb' h1 hm h2
      · exact hlt
    cell:=fun b x kb' hx hm hk o a ho=>by
      rcases hin hx hk with ⟨_,h1,h2⟩ | ⟨_,rfl,rfl⟩
      · obtain ⟨v,hv,hr⟩:=h.rel.cell b x kb' h1 hm h2 o a ho
        exact ⟨v,hv,hr.mono hle⟩
      · obtain ⟨v,hv,hr⟩:=hc o a ho
        exact ⟨v,hv,hr.mono hle⟩
    live:=fun b x kb' hx hm hk=>absurd hm (by rw [hro b x hx]; decide)
    excl:=fun b x kb' b' x' kb2 hx hm=>absurd hm (by rw [hro b x hx]; decide)
    fit:=fun b x kb' hx hm hk=>by
      rcases hin hx hk with ⟨_,h1,h2⟩ | ⟨_,rfl,rfl⟩
      · exact h.rel.fit b x kb' h1 hm h2
      · exact hfit
    glob:=fun j g hg=>by
      obtain ⟨kb',h1,h2⟩:=h.rel.glob j g hg
      exact ⟨kb',hle _ _ h1,h2⟩
    fo:=Fo.none fun b x hx=>by rw [hro b x hx]; decide }
abbrev TR (enc : TypeId × Value→H) (P : Program) (W : World) (n : Nat) (t : TypeId) (cs : List Value) : Option (DataW H × List MemPlace):=DataW.trod enc P W 0 (fun _=>true) true n t cs
def Reads (enc : TypeId × Value→H) (P : Program) (W : World) (gl : List Nat) (t : TypeId) {α : Type} (R : St→List AV→α→Prop) : Prop :=
  ∀ K st n vs x,Ent gl W K st→TR enc P W n t vs = some x→∃ (K' : KM) (L : St) (ws : List AV) (u : α),Ent gl W K' (st++L)∧KM.le K K'∧VRels K' ws vs∧R (st++L) ws u
theorem add_mul (r o k n : Nat) : (⟨r,o,none⟩ : Addr).add k = ⟨r,o + k,none⟩:=add_eq r o k
end
end Go.VX
end
section
set_option maxRecDepth 4000
namespace Go.VX.Seat
open Go.Proofs
section
variable {H : Type} {enc : TypeId × Value→H} {W : World} {gl : List Nat}
theorem VRels.int1 {K : KM} {n : Int} {cs : List AV} {vs : List Value} (h : VRels K cs vs) : VRels K (iA n :: cs) (.int .i64 n :: vs):=.cons (.sc rfl) h
end
end Go.VX.Seat
end
