/- A part of the proofs of the statements of one layer: W5, W6, W7, W8, W9, W10, W11, K1. No condition is added here. -/
import Derived.Laws.StructEq
import Derived.Test.YtcemloapifojkaaGreatDoorXC6
set_option linter.unusedVariables false
set_option linter.unusedSimpArgs false
section
namespace Go.VX
variable {P : Program}
theorem closed_bind {α β : Type} (x : Sem α) (f : α→Sem β) : closed P (x >>= f) = (closed P x).bind fun a=>closed P (f a):=by
  show closed P (Sem.bind x f) = _
  induction x with
  | pure a=>rfl
  | program k ih=>exact ih P
  | _=>rfl
theorem closed_pure {α : Type} (a : α) : closed P (pure a : Sem α) = some a:=rfl
theorem closed_program : closed P program = some P:=rfl
theorem closed_underlying {t : TypeId} {d : TypeDesc} (h : P.underlying t = some d) : closed P (underlying t) = some d:=by
  unfold underlying
  rw [closed_bind,closed_program]
  simp only [Option.bind_some,h]
  rfl
theorem closed_ite {α : Type} {c : Prop} [Decidable c] (x y : Sem α) : closed P (if c then x else y) = if c then closed P x else closed P y:=by split<;>rfl
theorem closed_struct (d : Nat) (t : TypeId) (xs ys : Array Value) {fs : Array Field} (ht : P.underlying t = some (.struct fs)) (hp : P.stoodInHeld t = false) :
    closed P (Op.equalIn (d + 1) t (.agg xs) (.agg ys)) = closed P (Op.eqFields d xs ys fs.toList):=by
  simp only [Op.equalIn,closed_bind,closed_underlying ht,Option.bind_some,closed_program,hp,Bool.false_eq_true,if_false]
  rw [←Array.forIn_toList]
  generalize fs.toList = fs
  clear ht
  induction fs with
  | nil=>simp [Op.eqFields,closed_pure]
  | cons f fs ih =>
    simp only [List.forIn_cons,Op.eqFields,closed_bind,closed_ite]
    split
    · cases closed P (part f.type xs f.offset) with
      | none=>rfl
      | some a =>
        simp only [Option.bind_some]
        cases closed P (part f.type ys f.offset) with
        | none=>rfl
        | some b =>
          simp only [Option.bind_some]
          cases closed P (Op.equalIn d f.type a b) with
          | none=>rfl
          | some r =>
            cases r
            · rfl
            · simp only [Option.bind_some,Bool.not_true,Bool.false_eq_true,if_false,closed_pure]
              exact ih
    · simp only [closed_pure,Option.bind_some]
      exact ih
theorem closed_fields {d : Nat} {xs ys : Array Value} {f : Field} {fs : List Field} {a b : Value} {r : Bool} (hn : (f.name == "_") = false) (ha : closed P (part f.type xs f.offset) = some a) (hb : closed P (part f.type ys f.offset) = some b) (he : closed P (Op.equalIn d f.type a b) = some r) :
    closed P (Op.eqFields d xs ys (f :: fs)) = if r then closed P (Op.eqFields d xs ys fs) else some false:=by
  have hn2 : f.name ≠ "_" := by simpa using hn
  simp only [Op.eqFields,if_pos hn2,closed_bind,ha,hb,he,Option.bind_some]
  cases r<;>rfl
theorem closed_fields_nil {d : Nat} {xs ys : Array Value} : closed P (Op.eqFields d xs ys []) = some true:=rfl
end Go.VX
end
section
namespace Go.VX
variable {X : Cx} {env : Env} {st : St} {Q : Post3}
theorem isCell_int (k : IntKind) (n : Int) : AV.isCell (.sc (.int k n)) = true:=rfl
theorem isCell_bool (b : Bool) : AV.isCell (.sc (.bool b)) = true:=rfl
theorem isCell_str (b : ByteArray) : AV.isCell (.sc (.string b)) = true:=rfl
theorem isCell_nilsl (a : Option Addr) (l c : Nat) : AV.isCell (.sc (.slice a l c)) = true:=rfl
theorem isCell_ptr (b o : Nat) : AV.isCell (.ptr b o) = true:=rfl
theorem isCell_sl (b o n e : Nat) (f : Bool) : AV.isCell (.sl b o n e f) = true:=rfl
def Ext (st s : St) : Prop:=∃ L,s = st++L
theorem Ext.refl (st : St) : Ext st st:=⟨[],(List.append_nil _).symm⟩
theorem Ext.app {st s : St} (h : Ext st s) (L : St) : Ext st (s++L):=by obtain ⟨M,rfl⟩:=h; exact ⟨M++L,List.append_assoc _ _ _⟩
theorem Ext.of (st L : St) : Ext st (st++L):=⟨L,rfl⟩
theorem Ext.trans {a b c : St} (h : Ext a b) (h' : Ext b c) : Ext a c:=by
  obtain ⟨L,rfl⟩:=h; obtain ⟨M,rfl⟩:=h'; exact ⟨L++M,List.append_assoc _ _ _⟩
theorem ArrAt.ext {st s : St} {lo hi : Nat} {v : AV} {esz : Nat} {rows : List (List AV)} (h : ArrAt st lo hi v esz rows) (he : Ext st s) : ArrAt s lo hi v esz rows:=by obtain ⟨L,rfl⟩:=he; exact h.mono L
structure BoxAt (st : St) (b : Nat) (cs : List AV) : Prop where
  at1 : ∀ (L : St) k,St.at1 (st++L) b k = cs[k]?
  atN : ∀ (L : St) k n,k + n≤cs.length→St.atN (st++L) b k n = some ((cs.drop k).take n)
theorem BoxAt.of {st : St} {b : Nat} {cs : List AV} {m v : Nat} (h : st[b]? = some ⟨cs,m,v⟩) (hm : m < 2) : BoxAt st b cs where
  at1:=fun L k=>by
    unfold St.at1
    rw [List.getElem?_append_left (List.getElem?_eq_some_iff.1 h).1,h]
    simp [Nat.not_le_of_lt hm]
  atN:=fun L k n hk=>by
    unfold St.atN
    rw [List.getElem?_append_left (List.getElem?_eq_some_iff.1 h).1,h]
    simp [Nat.not_le_of_lt hm,hk]
theorem BoxAt.ext {st s : St} {b : Nat} {cs : List AV} (h : BoxAt st b cs) (he : Ext st s) : BoxAt s b cs:=by
  obtain ⟨L,rfl⟩:=he
  exact ⟨fun M k=>by rw [List.append_assoc]; exact h.at1 _ k,fun M k n hk=>by rw [List.append_assoc]; exact h.atN _ k n hk⟩
theorem BoxAt.last (st : St) (cs : List AV) (v : Nat) : BoxAt (st++[⟨cs,0,v⟩]) (st.length + 0) cs:=BoxAt.of (m:=0) (v:=v) (by simp) (by decide)
theorem loop_grow {a : VC} (L : List Nat) (R : Nat→Env→Prop) (n : Nat) (h0 : R n env) (hs : ∀ m e s1,Ext st s1→Same L env e→R m e→xC X a e (s1++[]) (invK (fun m e s=>Ext st s∧Same L env e∧R m e) m Q)) : loopO X a env st Q :=
  loop_inv (fun m e s=>Ext st s∧Same L env e∧R m e) (fun m e s h=>by obtain ⟨h0,h1,h2⟩:=h; have:=hs m e s h0 h1 h2; rwa [List.append_nil] at this) n ⟨Ext.refl st,Same.refl L env,h0⟩
def growM (st : St) (L : List Nat) (env : Env) (R : Env→Prop) : Env→St→Prop:=fun e s=>Ext st s∧Same L env e∧R e
theorem growM_eq (st : St) (L : List Nat) (env : Env) (R : Env→Prop) (e : Env) (s : St) : growM st L env R e s = (Ext st s∧Same L env e∧R e):=rfl
section
variable {T : Post3→Post3} {k : Env→St→Post3→Prop}
theorem grow_le (hT : MonoC T) {L : List Nat} {R : Env→Prop} (h2 : ∀ e s1,Ext st s1→Same L env e→R e→k e (s1++[]) Q) (x : VX) (e : Env) (s : St) (hx : T (mK (growM st L env R) Q) x e s) : T (seqK k Q) x e s :=
  hT _ _ (mK_le fun e s h=>by obtain ⟨h0,h3,h4⟩:=h; have:=h2 e s h0 h3 h4; rwa [List.append_nil] at this) x e s hx
theorem growLoop {a : VC} (hT : MonoC T) (L : List Nat) (R : Env→Prop) (h : loopO X a env st (T (mK (growM st L env R) Q))) (h2 : ∀ e s1,Ext st s1→Same L env e→R e→k e (s1++[]) Q) : loopO X a env st (T (seqK k Q)) :=
  wpC.mono h (grow_le hT h2)
end
end Go.VX
end
section
namespace Go.VX
theorem atN_join {st : St} {b o n m : Nat} {xs ys : List AV} (h : st.atN b o n = some xs) (h2 : st.atN b (o + n) m = some ys) : st.atN b o (n + m) = some (xs++ys):=by
  unfold St.atN at *
  split at h
  · rename_i x hx
    rw [hx] at h2
    simp only at h2
    split at h
    · cases h
    · rename_i hm
      rw [if_neg hm] at h2
      split at h
      · split at h2
        · simp only [Option.some.injEq] at h h2
          subst h; subst h2
          rw [if_neg hm,if_pos (by omega)]
          simp only [Option.some.injEq]
          rw [List.take_add,List.drop_drop]
        · cases h2
      · cases h
  · cases h
theorem atN_zero_len {st : St} {b o n : Nat} {xs : List AV} (h : st.atN b o n = some xs) : st.atN b o 0 = some []:=by
  have:=atN_sub (k:=0) (m:=0) h (by omega)
  simpa using this
theorem elemA_inv {v : AV} {esz : Nat} {i : Int} {p : AV} (h : elemA v esz i = some p) : ∃ b o len full,v = .sl b o len esz full∧0≤i∧i < len∧p = .ptr b (o + i.toNat * esz):=by
  unfold elemA at h
  split at h
  · rename_i b o len e full
    split at h
    · rename_i hc
      obtain ⟨h1,h2,rfl⟩:=hc
      simp only [Option.some.injEq] at h
      exact ⟨b,o,len,full,rfl,h1,h2,h.symm⟩
    · cases h
  · cases h
theorem ArrAt.whole {st : St} {lo hi : Nat} {v : AV} {esz : Nat} {rows : List (List AV)} (h : ArrAt st lo hi v esz rows) (hne : rows≠[]) :
    ∃ b o full,v = .sl b o rows.length esz full∧lo≤b∧b < hi∧∀ k,k≤rows.length→st.atN b o (k * esz) = some (rows.take k).flatten:=by
  have hpos : 0 < rows.length:=List.length_pos_iff.2 hne
  obtain ⟨b0,o0,h1,h2,h3,h4⟩:=h.row 0 hpos
  obtain ⟨b,o,len,full,rfl,_,_,hp⟩:=elemA_inv h1
  have hl:=h.len
  simp only [lenA,Option.some.injEq] at hl
  subst hl
  simp only [AV.ptr.injEq] at hp
  obtain ⟨rfl,rfl⟩:=hp
  refine ⟨b0,o,full,rfl,h2,h3,fun k=>?_⟩
  induction k with
  | zero =>
    intro _
    simp only [Nat.zero_mul,List.take_zero,List.flatten_nil]
    have:=atN_zero_len h4
    simpa using this
  | succ k ih =>
    intro hk
    have ih:=ih (by omega)
    obtain ⟨b1,o1,g1,g2,g3,g4⟩:=h.row k (by omega)
    obtain ⟨b',o',len',full',e1,_,_,hp⟩:=elemA_inv g1
    cases e1
    simp only [AV.ptr.injEq,Int.toNat_natCast] at hp
    obtain ⟨rfl,rfl⟩:=hp
    have:=atN_join ih g4
    rw [Nat.succ_mul,this,List.take_succ_eq_append_getElem (by omega)]
    simp only [List.flatten_append,List.flatten_cons,List.flatten_nil,List.append_nil]
def preA (v : AV) (esz n : Nat) : Option AV:=match v with
  | .sl b o len esz' full=>if n≤len∧esz' = esz then some (.sl b (o + 0 * esz) (n - 0) esz (full && n == len)) else none
  | .sc (.slice none 0 0)=>if n = 0 then some (.sc (.slice none 0 0)) else none
  | _=>none
theorem v_slice_pre (P : Program) (env : Env) (st : St) (esz : Nat) (x hi : VOpd) (n : Nat) (hn : asNat? (hi.ev env) = some n) : vop P (.slice none esz x none (some hi) none) env st = (preA (x.ev env) esz n).map fun w=>(.val w,st):=by
  simp only [vop,bnd,hn]
  cases x.ev env with
  | sl b o len e full =>
    simp only [preA,Nat.zero_le,true_and,Nat.le_refl,Option.isSome_none,Bool.false_eq_true,false_implies,if_false]
    by_cases h1 : n≤len∧e = esz
    · rw [if_pos h1,if_pos h1]; rfl
    · rw [if_neg h1,if_neg h1]; rfl
  | sc v =>
    cases v with
    | slice a l c =>
      cases a with
      | none =>
        cases l with
        | zero =>
          cases c with
          | zero =>
            cases n with
            | zero=>simp [preA]
            | succ n=>simp [preA]
          | succ c=>rfl
        | succ l=>rfl
      | some a=>rfl
    | _=>rfl
  | _=>rfl
theorem ArrAt.pre {st : St} {lo hi : Nat} {v : AV} {esz : Nat} {rows : List (List AV)} (h : ArrAt st lo hi v esz rows) (n : Nat) (hn : n≤rows.length) : ∃ w,preA v esz n = some w∧ArrAt st lo hi w esz (rows.take n):=by
  have hl:=h.len
  cases v with
  | sl b o len e full =>
    have:=(h.size _ _ _ _ _ rfl).1
    subst this
    simp only [lenA,Option.some.injEq] at hl
    subst hl
    refine ⟨_,by simp only [preA]; rw [if_pos ⟨hn,trivial⟩],⟨?_,fun b o len e' full he=>by cases he; exact ⟨rfl,by simpa using (h.size _ _ _ _ _ rfl).2⟩,fun i hi'=>?_⟩⟩
    · simp only [lenA,List.length_take,Nat.sub_zero]; congr 1; omega
    · simp only [List.length_take] at hi'
      obtain ⟨b1,o1,g1,g2,g3,g4⟩:=h.row i (by omega)
      obtain ⟨b',o',len',full',e1,_,_,hp⟩:=elemA_inv g1
      cases e1
      simp only [AV.ptr.injEq,Int.toNat_natCast] at hp
      obtain ⟨rfl,rfl⟩:=hp
      refine ⟨b1,o + i * e,?_,g2,g3,by simpa using g4⟩
      simp only [elemA,Nat.sub_zero,Int.toNat_natCast,Nat.zero_mul,Nat.add_zero]
      rw [if_pos ⟨by omega,by omega,trivial⟩]
  | sc v =>
    cases v with
    | slice a l c =>
      cases a with
      | none =>
        cases l with
        | zero =>
          cases c with
          | zero =>
            simp only [lenA,Option.some.injEq] at hl
            have hr : rows = []:=List.length_eq_zero_iff.1 hl.symm
            subst hr
            have : n = 0:=by simpa using hn
            subst this
            exact ⟨_,rfl,by simpa using h⟩
          | succ c=>simp [lenA] at hl
        | succ l=>simp [lenA] at hl
      | some a=>simp [lenA] at hl
    | _=>simp [lenA] at hl
  | _=>simp [lenA] at hl
end Go.VX
end
section
namespace Go.VX
theorem srcLen_len {v : AV} {n : Nat} (h : lenA v = some n) : srcLen v = some n:=by
  unfold lenA at h
  split at h
  · simpa [srcLen] using h
  · simpa [srcLen] using h
  · cases h
theorem ArrAt.src {st : St} {lo hi : Nat} {v : AV} {esz : Nat} {rows : List (List AV)} (h : ArrAt st lo hi v esz rows) (hne : rows≠[]) : srcCells st esz rows.length v = some rows.flatten:=by
  obtain ⟨b,o,full,rfl,_,_,hw⟩:=h.whole hne
  have:=hw rows.length (Nat.le_refl _)
  rw [List.take_length] at this
  simp only [srcCells,Nat.le_refl,true_and,if_true,this]
end Go.VX
end
section
namespace Go.VX
theorem atN_len {st : St} {b o n : Nat} {cs : List AV} (h : st.atN b o n = some cs) : cs.length = n:=by
  unfold St.atN at h
  split at h
  · split at h
    · cases h
    · split at h
      · simp only [Option.some.injEq] at h
        subst h
        rw [List.length_take,List.length_drop]
        omega
      · cases h
  · cases h
theorem ArrAt.rowlen {st : St} {lo hi : Nat} {v : AV} {esz : Nat} {rows : List (List AV)} (h : ArrAt st lo hi v esz rows) : ∀ r ∈ rows,r.length = esz:=fun r hr=>by
  obtain ⟨i,hi,rfl⟩:=List.getElem_of_mem hr
  obtain ⟨b,o,_,_,_,h4⟩:=h.row i hi
  exact atN_len h4
theorem flatten_row {esz : Nat} : ∀ {rows : List (List AV)} (_ : ∀ r ∈ rows,r.length = esz) (i : Nat) (hi : i < rows.length),(rows.flatten.drop (i * esz)).take esz = rows[i]∧i * esz + esz≤rows.flatten.length
  | [],_,i,hi=>absurd hi (by simp)
  | r :: rs,h,0,_=>by
    have hr:=h r (by simp)
    simp only [List.flatten_cons,Nat.zero_mul,List.drop_zero,List.getElem_cons_zero,List.length_append]
    rw [List.take_append_of_le_length (by omega),List.take_of_length_le (by omega)]
    exact ⟨rfl,by omega⟩
  | r :: rs,h,i + 1,hi=>by
    have hr:=h r (by simp)
    have ih:=flatten_row (rows:=rs) (fun x hx=>h x (List.mem_cons_of_mem _ hx)) i (by simpa using hi)
    simp only [List.flatten_cons,List.getElem_cons_succ,List.length_append]
    rw [show (i + 1) * esz = r.length + i * esz by rw [Nat.succ_mul,hr]; omega,List.drop_append]
    rw [List.drop_eq_nil_of_le (by omega : r.length≤r.length + i * esz),List.nil_append,Nat.add_sub_cancel_left]
    exact ⟨ih.1,by omega⟩
theorem ArrAt.fresh (st : St) {esz ver : Nat} {rows : List (List AV)} (full : Bool) (h : ∀ r ∈ rows,r.length = esz) (L : St) : ArrAt (st++(⟨rows.flatten,0,ver⟩ :: L)) st.length (st.length + 1) (.sl st.length 0 rows.length esz full) esz rows where
  len:=rfl
  size:=fun b o len e f hv=>by
    cases hv
    refine ⟨rfl,?_⟩
    unfold St.atN
    simp
  row:=fun i hi=>by
    have hf:=flatten_row h i hi
    refine ⟨st.length,0 + i * esz,?_,Nat.le_refl _,Nat.lt_succ_self _,?_⟩
    · simp only [elemA,Int.toNat_natCast]
      rw [if_pos ⟨by omega,by omega,trivial⟩]
    · unfold St.atN
      simp only [List.getElem?_append_right (Nat.le_refl _),Nat.sub_self,List.getElem?_cons_zero,Nat.zero_add]
      rw [if_neg (by decide),if_pos hf.2,hf.1]
end Go.VX
end
section
namespace Go.VX
def boxOf : AV→Option Nat
  | .sl b _ _ _ _=>some b
  | _=>none
structure Agree (X : Nat→Prop) (s s' : St) : Prop where
  len : s.length≤s'.length
  eq : ∀ b,b < s.length→¬ X b→s'[b]? = s[b]?
theorem Agree.refl (X : Nat→Prop) (s : St) : Agree X s s:=⟨Nat.le_refl _,fun _ _ _=>rfl⟩
theorem Agree.app (X : Nat→Prop) (s L : St) : Agree X s (s++L):=⟨by simp,fun b hb _=>List.getElem?_append_left hb⟩
theorem Agree.trans {X Y : Nat→Prop} {a b c : St} (h : Agree X a b) (h' : Agree Y b c) : Agree (fun n=>X n∨Y n) a c :=
  ⟨Nat.le_trans h.len h'.len,fun n hn hx=>by
    rw [h'.eq n (Nat.lt_of_lt_of_le hn h.len) (fun y=>hx (.inr y)),h.eq n hn (fun x=>hx (.inl x))]⟩
theorem Agree.mono {X Y : Nat→Prop} {a b : St} (h : Agree X a b) (hxy : ∀ n,n < a.length→X n→Y n) : Agree Y a b :=
  ⟨h.len,fun n hn hy=>h.eq n hn (fun x=>hy (hxy n hn x))⟩
theorem Agree.set (s : St) (b : Nat) (x : Box) : Agree (fun n=>n = b) s (s.set b x) :=
  ⟨by simp,fun n hn hx=>by rw [List.getElem?_set_ne (fun e=>hx e.symm)]⟩
theorem Agree.kill (s : St) (b : Nat) : Agree (fun n=>n = b) s (s.kill b):=by
  unfold St.kill
  cases s[b]? with
  | none=>exact Agree.refl _ _
  | some x=>exact Agree.set _ _ _
theorem Agree.put {s s' : St} {b o : Nat} {vs : List AV} (h : s.put b o vs = some s') : Agree (fun n=>n = b) s s':=by
  obtain ⟨x,h1,h2,h3,h4,rfl⟩:=put_parts h
  exact Agree.set _ _ _
theorem atN_agree {X : Nat→Prop} {s s' : St} (h : Agree X s s') {b o n : Nat} {cs : List AV} (hc : s.atN b o n = some cs) (hb : ¬ X b) : s'.atN b o n = some cs:=by
  unfold St.atN at hc ⊢
  split at hc
  · rename_i x hx
    rw [h.eq b (List.getElem?_eq_some_iff.1 hx).1 hb,hx]
    exact hc
  · cases hc
theorem ArrAt.agree {X : Nat→Prop} {s s' : St} {lo hi : Nat} {v : AV} {esz : Nat} {rows : List (List AV)} (h : ArrAt s lo hi v esz rows) (ha : Agree X s s') (hv : ∀ b,boxOf v = some b→¬ X b) : ArrAt s' lo hi v esz rows where
  len:=h.len
  size:=fun b o len e full e1=>let ⟨h1,h2⟩:=h.size b o len e full e1; ⟨h1,atN_agree ha h2 (hv b (by rw [e1]; rfl))⟩
  row:=fun i hi=>by
    obtain ⟨b,o,h1,h2,h3,h4⟩:=h.row i hi
    obtain ⟨b',o',len,full,rfl,_,_,hp⟩:=elemA_inv h1
    cases hp
    exact ⟨_,_,h1,h2,h3,atN_agree ha h4 (hv _ rfl)⟩
theorem ext_of_eq {a s : St} (h : ∀ b,b < a.length→s[b]? = a[b]?) : s = a++s.drop a.length:=by
  have hl : a.length≤s.length:=by
    rcases Nat.eq_zero_or_pos a.length with h0 | h0
    · omega
    · have:=h (a.length - 1) (by omega)
      rw [List.getElem?_eq_getElem (by omega : a.length - 1 < a.length)] at this
      have:=(List.getElem?_eq_some_iff.1 this).1
      omega
  apply List.ext_getElem?
  intro i
  by_cases hi : i < a.length
  · rw [List.getElem?_append_left hi,h i hi]
  · rw [List.getElem?_append_right (by omega),List.getElem?_drop]
    congr 1
    omega
theorem Agree.ext {X : Nat→Prop} {a s s' : St} (h : Agree X s s') (hs : ∃ m,s = a++m) (hx : ∀ b,b < a.length→¬ X b) : ∃ m,s' = a++m:=by
  obtain ⟨m,rfl⟩:=hs
  refine ⟨_,ext_of_eq fun b hb=>?_⟩
  rw [h.eq b (by simp; omega) (hx b hb),List.getElem?_append_left hb]
theorem Agree.shape {X : Nat→Prop} {st M N s' : St} (h : Agree X (st++(M++N)) s') (hx : ∀ b,X b→st.length + M.length≤b) : ∃ L,s' = st++(M++L):=by
  obtain ⟨m,rfl⟩:=h.ext (a:=st++M) ⟨N,by simp⟩ (fun b hb hxb=>by have:=hx b hxb; simp at hb; omega)
  exact ⟨m,by simp⟩
theorem cells_agg (cs : List AV) : cellsOf (.agg cs) = cs:=rfl
theorem cells_sc (v : Value) : cellsOf (.sc v) = [.sc v]:=rfl
theorem cells_ptr (b o : Nat) : cellsOf (.ptr b o) = [.ptr b o]:=rfl
theorem cells_sl (b o n e : Nat) (f : Bool) : cellsOf (.sl b o n e f) = [.sl b o n e f]:=rfl
theorem cells_fn (f : FuncId) (a b : List AV) : cellsOf (.fn f a b) = [.fn f a b]:=rfl
theorem cells_if (t : TypeId) (a : AV) : cellsOf (.iface t a) = [.iface t a]:=rfl
theorem getElem?_app0 (st : St) (x : Box) (L : St) : (st++(x :: L))[st.length]? = some x:=by simp
theorem ArrAt.ofBox {s : St} {b n esz ver mode : Nat} {full : Bool} {rows : List (List AV)} (h : s[b]? = some ⟨rows.flatten,mode,ver⟩) (hm : mode < 2) (hr : ∀ r ∈ rows,r.length = esz) (hn : n = rows.length) : ArrAt s b (b + 1) (.sl b 0 n esz full) esz rows where
  len:=by rw [hn]; rfl
  size:=fun b o len e f hv=>by
    cases hv
    refine ⟨rfl,?_⟩
    unfold St.atN
    simp [h,Nat.not_le_of_lt hm]
  row:=fun i hi=>by
    subst hn
    have hf:=flatten_row hr i hi
    refine ⟨b,0 + i * esz,?_,Nat.le_refl _,Nat.lt_succ_self _,?_⟩
    · simp only [elemA,Int.toNat_natCast]
      rw [if_pos ⟨by omega,by omega,trivial⟩]
    · unfold St.atN
      simp only [h,Nat.zero_add]
      rw [if_neg (Nat.not_le_of_lt hm),if_pos hf.2,hf.1]
theorem flatten_set {esz : Nat} : ∀ {rows : List (List AV)} (_ : ∀ r ∈ rows,r.length = esz) (i k : Nat) (hi : i < rows.length) (vs : List AV),k + vs.length≤esz→splice rows.flatten (i * esz + k) vs = (rows.set i (splice rows[i] k vs)).flatten
  | [],_,i,k,hi,_,_=>absurd hi (by simp)
  | r :: rs,h,0,k,_,vs,hk=>by
    have hr:=h r (by simp)
    simp only [List.flatten_cons,List.getElem_cons_zero,List.set_cons_zero,Nat.zero_mul,Nat.zero_add,splice]
    rw [List.take_append_of_le_length (by omega),List.drop_append_of_le_length (by omega)]
    simp only [List.append_assoc]
  | r :: rs,h,i + 1,k,hi,vs,hk=>by
    have hr:=h r (by simp)
    have ih:=flatten_set (rows:=rs) (fun x hx=>h x (List.mem_cons_of_mem _ hx)) i k (by simpa using hi) vs hk
    simp only [List.flatten_cons,List.getElem_cons_succ,List.set_cons_succ]
    rw [←ih]
    unfold splice
    have e : (i + 1) * esz + k = r.length + (i * esz + k):=by rw [Nat.succ_mul,hr]; omega
    rw [e,List.take_append,List.take_of_length_le (by omega : r.length≤r.length + (i * esz + k)),Nat.add_sub_cancel_left]
    rw [show r.length + (i * esz + k) + vs.length = r.length + ((i * esz + k) + vs.length) by omega,List.drop_append,List.drop_eq_nil_of_le (by omega : r.length≤r.length + ((i * esz + k) + vs.length)),Nat.add_sub_cancel_left]
    simp only [List.append_assoc,List.nil_append]
theorem put_box {s : St} {b o ver : Nat} {cs vs : List AV} (h : s[b]? = some ⟨cs,0,ver⟩) (h2 : o + vs.length≤cs.length) (h3 : vs.all AV.isCell = true) : s.put b o vs = some (s.set b ⟨splice cs o vs,0,ver + 1⟩):=by
  unfold St.put
  rw [h]
  simp only
  rw [if_pos ⟨trivial,h2,h3⟩]
end Go.VX
end
section
namespace Go.VX
variable {X : Cx} {env : Env} {st : St} {Q : Post3} {T : Post3→Post3} {k : Env→St→Post3→Prop}
theorem any_le (hT : MonoC T) {M : Env→St→Prop} (h2 : ∀ e s,M e s→k e s Q) (x : VX) (e : Env) (s : St) (hx : T (mK M Q) x e s) : T (seqK k Q) x e s:=hT _ _ (mK_le h2) x e s hx
theorem anyG {l : List VOper} {c b : Bool} {o : VOper} (hT : MonoC T) (M : Env→St→Prop) (h : gO X (xO X l) c b o env st (T (mK M Q))) (h2 : ∀ e s,M e s→k e s Q) : gO X (xO X l) c b o env st (T (seqK k Q)) :=
  ⟨fun hc=>opO_mono (fun _ _=>xO_mono (any_le hT h2)) (any_le hT h2) (h.1 hc),fun hc=>xO_mono (any_le hT h2) (h.2 hc)⟩
theorem anyCond {c : AV} {a b : VC} (hT : MonoC T) (M : Env→St→Prop) (h : condO X c a b env st (T (mK M Q))) (h2 : ∀ e s,M e s→k e s Q) : condO X c a b env st (T (seqK k Q)) :=
  condO_mono (any_le hT h2) h
theorem anyLoop {a : VC} (hT : MonoC T) (M : Env→St→Prop) (h : loopO X a env st (T (mK M Q))) (h2 : ∀ e s,M e s→k e s Q) : loopO X a env st (T (seqK k Q)) :=
  wpC.mono h (any_le hT h2)
theorem at1_box {s : St} {b m v : Nat} {cs : List AV} (h : s[b]? = some ⟨cs,m,v⟩) (hm : m < 2) (k : Nat) : St.at1 s b k = cs[k]?:=by
  unfold St.at1
  rw [h]
  simp [Nat.not_le_of_lt hm]
theorem atN_box {s : St} {b m v : Nat} {cs : List AV} (h : s[b]? = some ⟨cs,m,v⟩) (hm : m < 2) (k n : Nat) (hk : k + n≤cs.length) : St.atN s b k n = some ((cs.drop k).take n):=by
  unfold St.atN
  rw [h]
  simp [Nat.not_le_of_lt hm,hk]
theorem Agree.box {X : Nat→Prop} {s s' : St} (h : Agree X s s') {b : Nat} {x : Box} (hb : s[b]? = some x) (hx : ¬ X b) : s'[b]? = some x:=by
  rw [h.eq b (List.getElem?_eq_some_iff.1 hb).1 hx]; exact hb
theorem ArrAt.boxlt {s : St} {lo hi esz : Nat} {v : AV} {rows : List (List AV)} (h : ArrAt s lo hi v esz rows) {b : Nat} (hb : boxOf v = some b) : b < s.length:=by
  cases v with
  | sl b' o n e f =>
    cases hb
    have:=(h.size _ _ _ _ _ rfl).2
    unfold St.atN at this
    split at this
    · rename_i x hx
      exact (List.getElem?_eq_some_iff.1 hx).1
    · cases this
  | _=>cases hb
end Go.VX
end
section
set_option maxRecDepth 4000
namespace Go.VX
theorem kB : (type_of% @List.replicate_succ.{0})∧(type_of% @List.replicate_zero.{0})∧(type_of% @List.flatten_cons.{0})∧(type_of% @List.flatten_nil.{0})∧(type_of% @List.take_append.{0})∧(type_of% @and_self)∧(type_of% @Int.cast_ofNat_Int)∧(type_of% @Nat.zero_mul)∧(type_of% @Nat.mul_one)∧(type_of% @Nat.one_mul)∧(type_of% @liveM_eq)∧(type_of% @growM_eq)∧(type_of% @same_nil)∧(type_of% @same_cons)∧(type_of% @loopK_norm)∧(type_of% @loopK_ret)∧(type_of% @loopK_exit)∧(type_of% @loopK_pan)∧(type_of% @invK_norm)∧(type_of% @invK_ret)∧(type_of% @invK_exit)∧(type_of% @invK_pan)∧(type_of% @mK_norm)∧(type_of% @mK_ret)∧(type_of% @mK_exit)∧(type_of% @mK_pan)∧(type_of% @lenA_sl)∧(type_of% @lenA_nil)∧(type_of% @wrap_small)∧(type_of% @Int.toNat_natCast)∧(type_of% @List.all_cons.{0})∧(type_of% @List.all_nil.{0})∧(type_of% @isCell_int)∧(type_of% @isCell_bool)∧(type_of% @isCell_str)∧(type_of% @isCell_nilsl)∧(type_of% @isCell_ptr)∧(type_of% @isCell_sl)∧(type_of% @List.take_nil.{0})∧(type_of% @List.drop_nil.{0})∧(type_of% @Bool.and_self)∧(type_of% @xC_skip)∧(type_of% @xC_reg)∧(type_of% @xC_seq)∧(type_of% @xC_cond)∧(type_of% @condO_tt)∧(type_of% @condO_ff)∧(type_of% @xC_block)∧(type_of% @xC_loop)∧(type_of% @xC_exit)∧(type_of% @xC_ret)∧(type_of% @xO_nil)∧(type_of% @xO_one)∧(type_of% @xO_grd)∧(type_of% @grd_eq)∧(type_of% @grd_undef)∧(type_of% @opO_eq)∧(type_of% @opR_val)∧(type_of% @opR_skip)∧(type_of% @opR_call)∧(type_of% @opR_pan)∧(type_of% @kept_stay)∧(type_of% @gO_tt)∧(type_of% @gO_ff)∧(type_of% @gO_tf)∧(type_of% @gO_ft)∧(type_of% @v_mv)∧(type_of% @v_pick)∧(type_of% @v_alloc)∧(type_of% @v_box)∧(type_of% @v_build)∧(type_of% @v_bslice)∧(type_of% @v_load)∧(type_of% @v_store)∧(type_of% @v_nilck)∧(type_of% @v_isnil)∧(type_of% @v_bin)∧(type_of% @v_un)∧(type_of% @v_conv)∧(type_of% @v_idxS)∧(type_of% @v_slS)∧(type_of% @v_bi)∧(type_of% @v_fieldA)∧(type_of% @v_field)∧(type_of% @v_idxA_n)∧(type_of% @v_idxA_s)∧(type_of% @elemA_sl)∧(type_of% @v_idx)∧(type_of% @v_mksl)∧(type_of% @v_mkif)∧(type_of% @v_assert)∧(type_of% @v_mkfn)∧(type_of% @v_ext)∧(type_of% @v_call)∧(type_of% @v_callv)∧(type_of% @v_panic)∧(type_of% @v_len)∧(type_of% @put_at)∧(type_of% @put_none)∧(type_of% @envOf_zero)∧(type_of% @envOf_succ)∧(type_of% @seqK_norm)∧(type_of% @seqK_ret)∧(type_of% @seqK_exit)∧(type_of% @seqK_pan)∧(type_of% @blkK_norm)∧(type_of% @blkK_ret)∧(type_of% @blkK_exit)∧(type_of% @blkK_pan)∧(type_of% @bodK_norm)∧(type_of% @bodK_ret)∧(type_of% @bodK_pan)∧(type_of% @keptA_nil)∧(type_of% @true_and)∧(type_of% @and_true)∧(type_of% @at1_loc)∧(type_of% @atN_loc)∧(type_of% @put_loc)∧(type_of% @app_app)∧(type_of% @app_len)∧(type_of% @List.length_cons.{0})∧(type_of% @List.length_nil.{0})∧(type_of% @List.nil_append.{0})∧(type_of% @List.cons_append.{0})∧(type_of% @Nat.zero_add)∧(type_of% @at1_zero)∧(type_of% @at1_succ)∧(type_of% @atN_zero)∧(type_of% @atN_succ)∧(type_of% @put_zero)∧(type_of% @put_succ)∧(type_of% @List.getElem?_cons_zero.{0})∧(type_of% @List.getElem?_cons_succ.{0})∧(type_of% @List.drop_succ_cons.{0})∧(type_of% @List.drop_zero.{0})∧(type_of% @List.take_succ_cons.{0})∧(type_of% @List.take_zero.{0})∧(type_of% @Option.map_some.{0,0})∧(type_of% @Option.bind_some.{0,0})∧(type_of% @List.map_cons.{0,0})∧(type_of% @List.map_nil.{0,0})∧(type_of% @if_true.{1})∧(type_of% @if_false.{1})∧(type_of% @Option.some.injEq.{0})∧(type_of% @exists_eq_left'.{1})∧(type_of% @CRes.ret.injEq)∧(type_of% @c_lss)∧(type_of% @c_leq)∧(type_of% @c_gtr)∧(type_of% @c_geq)∧(type_of% @c_eql)∧(type_of% @c_neq)∧(type_of% @c_add)∧(type_of% @c_sub)∧(type_of% @c_mul)∧(type_of% @c_not)∧(type_of% @decide_true)∧(type_of% @decide_false)∧(type_of% @Bool.not_true)∧(type_of% @Bool.not_false)∧(type_of% @Bool.and_true)∧(type_of% @Bool.true_and)∧(type_of% @Bool.false_and)∧(type_of% @Bool.and_false)∧(type_of% @Bool.or_true)∧(type_of% @Bool.true_or)∧(type_of% @Bool.or_false)∧(type_of% @Bool.false_or)∧(type_of% @ite_true.{1})∧(type_of% @ite_false.{1})∧(type_of% @Bool.false_eq_true)∧(type_of% @Bool.true_eq_false) :=
  ⟨@List.replicate_succ.{0},@List.replicate_zero.{0},@List.flatten_cons.{0},@List.flatten_nil.{0},@List.take_append.{0},@and_self,@Int.cast_ofNat_Int,@Nat.zero_mul,@Nat.mul_one,@Nat.one_mul,@liveM_eq,@growM_eq,@same_nil,@same_cons,@loopK_norm,@loopK_ret,@loopK_exit,@loopK_pan,@invK_norm,@invK_ret,@invK_exit,@invK_pan,@mK_norm,@mK_ret,@mK_exit,@mK_pan,@lenA_sl,@lenA_nil,@wrap_small,@Int.toNat_natCast,@List.all_cons.{0},@List.all_nil.{0},@isCell_int,@isCell_bool,@isCell_str,@isCell_nilsl,@isCell_ptr,@isCell_sl,@List.take_nil.{0},@List.drop_nil.{0},@Bool.and_self,@xC_skip,@xC_reg,@xC_seq,@xC_cond,@condO_tt,@condO_ff,@xC_block,@xC_loop,@xC_exit,@xC_ret,@xO_nil,@xO_one,@xO_grd,@grd_eq,@grd_undef,@opO_eq,@opR_val,@opR_skip,@opR_call,@opR_pan,@kept_stay,@gO_tt,@gO_ff,@gO_tf,@gO_ft,@v_mv,@v_pick,@v_alloc,@v_box,@v_build,@v_bslice,@v_load,@v_store,@v_nilck,@v_isnil,@v_bin,@v_un,@v_conv,@v_idxS,@v_slS,@v_bi,@v_fieldA,@v_field,@v_idxA_n,@v_idxA_s,@elemA_sl,@v_idx,@v_mksl,@v_mkif,@v_assert,@v_mkfn,@v_ext,@v_call,@v_callv,@v_panic,@v_len,@put_at,@put_none,@envOf_zero,@envOf_succ,@seqK_norm,@seqK_ret,@seqK_exit,@seqK_pan,@blkK_norm,@blkK_ret,@blkK_exit,@blkK_pan,@bodK_norm,@bodK_ret,@bodK_pan,@keptA_nil,@true_and,@and_true,@at1_loc,@atN_loc,@put_loc,@app_app,@app_len,@List.length_cons.{0},@List.length_nil.{0},@List.nil_append.{0},@List.cons_append.{0},@Nat.zero_add,@at1_zero,@at1_succ,@atN_zero,@atN_succ,@put_zero,@put_succ,@List.getElem?_cons_zero.{0},@List.getElem?_cons_succ.{0},@List.drop_succ_cons.{0},@List.drop_zero.{0},@List.take_succ_cons.{0},@List.take_zero.{0},@Option.map_some.{0,0},@Option.bind_some.{0,0},@List.map_cons.{0,0},@List.map_nil.{0,0},@if_true.{1},@if_false.{1},@Option.some.injEq.{0},@exists_eq_left'.{1},@CRes.ret.injEq,@c_lss,@c_leq,@c_gtr,@c_geq,@c_eql,@c_neq,@c_add,@c_sub,@c_mul,@c_not,@decide_true,@decide_false,@Bool.not_true,@Bool.not_false,@Bool.and_true,@Bool.true_and,@Bool.false_and,@Bool.and_false,@Bool.or_true,@Bool.true_or,@Bool.or_false,@Bool.false_or,@ite_true.{1},@ite_false.{1},@Bool.false_eq_true,@Bool.true_eq_false⟩
theorem kC : (type_of% @v_append)∧(type_of% @v_copy)∧(type_of% @v_slice) :=
  ⟨@v_append,@v_copy,@v_slice⟩
theorem kZ : (type_of% @at1_loc0)∧(type_of% @atN_loc0)∧(type_of% @put_loc0) :=
  ⟨@at1_loc0,@atN_loc0,@put_loc0⟩
theorem kD : (type_of% @c_min)∧(type_of% @c_max)∧(type_of% @cells_agg)∧(type_of% @cells_sc)∧(type_of% @cells_ptr)∧(type_of% @cells_sl)∧(type_of% @cells_fn)∧(type_of% @cells_if) :=
  ⟨@c_min,@c_max,@cells_agg,@cells_sc,@cells_ptr,@cells_sl,@cells_fn,@cells_if⟩
theorem kE : (type_of% @fillA.eq_1)∧(type_of% @fillA.eq_2)∧(type_of% @partsEv.eq_1)∧(type_of% @zeroes.eq_1)∧(type_of% @asInt?.eq_1)∧(type_of% @asInt?.eq_2)∧(type_of% @asNat?.eq_1)∧(type_of% @asNat?.eq_2)∧(type_of% @VOpd.ev.eq_1)∧(type_of% @VOpd.ev.eq_2)∧(type_of% @VOpd.ev.eq_3)∧(type_of% @VOpd.ev.eq_4)∧(type_of% @tupOf.eq_1)∧(type_of% @tupOf.eq_2)∧(type_of% @cellsV.eq_1)∧(type_of% @cellsV.eq_2)∧(type_of% @AV.toV.eq_1)∧(type_of% @AV.toV.eq_2)∧(type_of% @AV.toV.eq_3)∧(type_of% @AV.cell?.eq_1)∧(type_of% @AV.cell?.eq_2) :=
  ⟨@fillA.eq_1,@fillA.eq_2,@partsEv.eq_1,@zeroes.eq_1,@asInt?.eq_1,@asInt?.eq_2,@asNat?.eq_1,@asNat?.eq_2,@VOpd.ev.eq_1,@VOpd.ev.eq_2,@VOpd.ev.eq_3,@VOpd.ev.eq_4,@tupOf.eq_1,@tupOf.eq_2,@cellsV.eq_1,@cellsV.eq_2,@AV.toV.eq_1,@AV.toV.eq_2,@AV.toV.eq_3,@AV.cell?.eq_1,@AV.cell?.eq_2⟩
end Go.VX
end
