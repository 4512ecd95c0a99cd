/- A part of the proofs of the statements of one layer: U23, U24, U25, U26, U27, U28, U30, U31, U32, U33, U34, U38, U35, U36, U39, U40, U41, U37. No condition is added here. -/
import Derived.Laws.Strings
import Derived.Test.YtmpndkhedbpmjaaGreatDoorXD13
set_option linter.unusedVariables false
set_option linter.unusedSimpArgs false
section
set_option maxRecDepth 4000
namespace Go.VX.Seat
open Go.Proofs
theorem atN_less {s : St} {b o n m : Nat} {cs : List AV} (h : St.atN s b o n = some cs) (hm : m≤n) : St.atN s b (o + m) 0 = some []:=by
  unfold St.atN at h ⊢
  split at h
  · split at h
    · cases h
    · rename_i h2
      simp only [if_neg h2]
      split at h
      · rename_i h3
        rw [if_pos (by omega)]
        simp
      · cases h
  · cases h
theorem opR_suf {X : Cx} {K : Env→St→Post3→Prop} {Q : Post3} {d : Option Nat} {env : Env} {s : St} {lo hi esz n : Nat} {x y : VOpd} {rows : List (List AV)} {vx : AV} (ex : x.ev env = vx) (ey : asNat? (y.ev env) = some n) (hx : ArrAt s lo hi vx esz rows) (hn : n≤rows.length)
    (h : ∀ w,ArrAt s lo hi w esz (rows.drop n)→boxOf w = boxOf vx→K (env.put d w) s Q) : opR X K d [] env s Q (vop X.P (.slice none esz x (some y) none none) env s):=by
  rw [v_slice,ex]
  rcases nil_or_sl hx.len with ⟨rfl,hz⟩ | ⟨b,o,e,f,rfl⟩
  · have hr : rows = []:=List.length_eq_zero_iff.1 hz
    subst hr
    have hn0 : n = 0:=by simpa using hn
    subst hn0
    simp only [bnd,ey]
    exact ⟨keptA_nil _ _ _,h _ (emptyArr _ _ _ _) rfl⟩
  · obtain ⟨rfl,h0⟩:=hx.size _ _ _ _ _ rfl
    simp only [bnd,ey,Option.isSome_none,Bool.false_eq_true,if_false,false_implies,and_true,Nat.le_refl,true_and]
    rw [if_pos hn]
    refine ⟨keptA_nil _ _ _,h _ ⟨?_,?_,?_⟩ rfl⟩
    · simp only [lenA,List.length_drop]
    · intro b' o' len' e' full' q
      cases q
      refine ⟨rfl,?_⟩
      by_cases hr : rows = []
      · subst hr
        have hn0 : n = 0:=by simpa using hn
        subst hn0
        simpa using h0
      · obtain ⟨b',o',f',q,_,_,hw⟩:=hx.whole hr
        cases q
        exact atN_less (hw rows.length (Nat.le_refl _)) (Nat.mul_le_mul_right _ hn)
    · intro i hi'
      simp only [List.length_drop] at hi'
      obtain ⟨b1,o1,q1,q2,q3,q4⟩:=hx.row (n + i) (by omega)
      obtain ⟨b',o',len',full',q,_,_,hp⟩:=elemA_inv q1
      cases q
      simp only [AV.ptr.injEq,Int.toNat_natCast] at hp
      obtain ⟨rfl,rfl⟩:=hp
      refine ⟨b1,o + (n + i) * e,?_,q2,q3,?_⟩
      · simp only [elemA,Int.toNat_natCast]
        rw [if_pos ⟨by omega,by omega,trivial⟩]
        congr 2
        rw [Nat.add_mul]
        omega
      · simpa using q4
end Go.VX.Seat
end
section
set_option maxRecDepth 4000
namespace Go.VX.Seat
open Go.Proofs
abbrev Rd (α : Type):=List Int→Except Int (α × List Int)
def setF (o : OpV) (k : Nat) (v : Int) : OpV:=if k = 1 then { o with d:=v } else if k = 2 then { o with a:=v } else if k = 3 then { o with b:=v } else { o with c:=v }
def op0 (k g : Int) : OpV:=⟨k,0,0,0,0,0,g⟩
structure Sp {β : Type} (T : Except Int β) (e : Int) (q : List Int) (k : List Int→Except Int β) : Prop where
  ok : e = 0→T = k q
  bad : e≠0→T = .error e
structure Did {α : Type} (m : Rd α) (q : List Int) (e : Int) (a : α) (q' : List Int) (e' : Int) : Prop where
  ok : e' = 0→e = 0∧m q = .ok (a,q')
  bad : e'≠0→(e≠0∧e' = e)∨(e = 0∧m q = .error e')
theorem Sp.step {α β : Type} {T : Except Int β} {e e' : Int} {q q' : List Int} {m : Rd α} {a : α} {k : α × List Int→Except Int β} (h : Sp T e q fun q=>(m q).bind k) (d : Did m q e a q' e') : Sp T e' q' fun q=>k (a,q) where
  ok:=fun h0=>by
    obtain ⟨h1,h2⟩:=d.ok h0
    rw [h.ok h1]
    show (m q).bind k = _
    rw [h2]
    rfl
  bad:=fun h0=>by
    rcases d.bad h0 with ⟨h1,h2⟩ | ⟨h1,h2⟩
    · rw [h2]; exact h.bad h1
    · rw [h.ok h1]
      show (m q).bind k = _
      rw [h2]
      rfl
theorem Sp.fail {β : Type} {T : Except Int β} {e x : Int} {q : List Int} {k : List Int→Except Int β} (h : Sp T e q k) (hk : k q = .error x) : T = .error (if decide (e = 0) then x else e):=by
  by_cases h0 : e = 0
  · rw [h.ok h0,hk,decide_eq_true h0]; rfl
  · rw [h.bad h0,decide_eq_false h0]; rfl
theorem Did.ret {α : Type} {a : α} {q : List Int} {e : Int} : Did (fun q=>.ok (a,q)) q e a q e:=⟨fun h=>⟨h,rfl⟩,fun h=>.inl ⟨h,rfl⟩⟩
theorem Did.bind {α β : Type} {m : Rd α} {f : α × List Int→Except Int (β × List Int)} {q q1 q2 : List Int} {e e1 e2 : Int} {a : α} {b : β} (h : Did m q e a q1 e1) (h2 : Did (fun q=>f (a,q)) q1 e1 b q2 e2) : Did (fun q=>(m q).bind f) q e b q2 e2 where
  ok:=fun h0=>by
    obtain ⟨h3,h4⟩:=h2.ok h0
    obtain ⟨h5,h6⟩:=h.ok h3
    refine ⟨h5,?_⟩
    show (m q).bind f = _
    rw [h6]
    exact h4
  bad:=fun h0=>by
    by_cases h1 : e1 = 0
    · obtain ⟨h5,h6⟩:=h.ok h1
      rcases h2.bad h0 with ⟨h3,_⟩ | ⟨_,h4⟩
      · exact absurd h1 h3
      · refine .inr ⟨h5,?_⟩
        show (m q).bind f = _
        rw [h6]
        exact h4
    · rcases h2.bad h0 with ⟨_,h4⟩ | ⟨h3,_⟩
      · rw [h4]
        rcases h.bad h1 with h5 | ⟨h5,h6⟩
        · exact .inl h5
        · refine .inr ⟨h5,?_⟩
          show (m q).bind f = _
          rw [h6]
          rfl
      · exact absurd h3 h1
theorem Did.fail {α : Type} {m : Rd α} {q : List Int} {e x : Int} {a : α} {q' : List Int} (hx : x≠0) (h : e = 0→m q = .error x) : Did m q e a q' (if decide (e = 0) then x else e) where
  ok:=fun h0=>by
    by_cases h1 : e = 0
    · rw [decide_eq_true h1] at h0; exact absurd h0 hx
    · rw [decide_eq_false h1] at h0; exact absurd h0 h1
  bad:=fun h0=>by
    by_cases h1 : e = 0
    · rw [decide_eq_true h1]; exact .inr ⟨h1,h h1⟩
    · rw [decide_eq_false h1]; exact .inl ⟨h1,rfl⟩
theorem Did.done {α : Type} {m : Rd α} {q : List Int} {e : Int} {a : α} {q' : List Int} (h : e = 0→m q = .ok (a,q')) : Did m q e a q' e:=⟨fun h0=>⟨h0,h h0⟩,fun h0=>.inl ⟨h0,rfl⟩⟩
end Go.VX.Seat
end
section
set_option maxRecDepth 4000
namespace Go.VX.Seat
open Go.Proofs
def rcs : Bool→AV→Nat→Int→List AV
  | false,v,_,e=>[v,iA e]
  | true,v,a,e=>[v,iA a,iA e]
structure RdAt (r : Bool) (S : St) (rb lo hi : Nat) (v : AV) (q : List Int) (e : Int) : Prop where
  bx0 : ∃ ver p a,S[rb]? = some ⟨rcs r v a e,0,ver⟩∧ArrAt S lo hi v 1 (rowsB p)∧q = p.drop a∧a≤p.length∧(r = false→a = 0)∧p.length≤1000000000
  ne : ∀ b,boxOf v = some b→b < rb
  rng : ∀ b ∈ q,0≤b∧b < 256
  len : q.length≤1000000000
theorem RdAt.box {S : St} {rb lo hi : Nat} {v : AV} {q : List Int} {e : Int} (h : RdAt false S rb lo hi v q e) : ∃ ver,S[rb]? = some ⟨[v,iA e],0,ver⟩:=let ⟨ver,_,_,hb,_⟩:=h.bx0; ⟨ver,hb⟩
theorem RdAt.arr {S : St} {rb lo hi : Nat} {v : AV} {q : List Int} {e : Int} (h : RdAt false S rb lo hi v q e) : ArrAt S lo hi v 1 (rowsB q):=by
  obtain ⟨ver,p,a,_,ha,hq,_,h0,_⟩:=h.bx0
  rw [h0 rfl,List.drop_zero] at hq
  rw [hq]
  exact ha
abbrev Only (rb : Nat) (S S' : St) : Prop:=Agree (fun n=>n = rb) S S'
theorem Only.trans' {rb : Nat} {a b c : St} (h : Only rb a b) (h2 : Only rb b c) : Only rb a c:=(h.trans h2).mono fun _ _ e=>e.elim id id
section
variable {S : St} {rb lo hi : Nat} {v : AV} {q : List Int} {e : Int}
theorem RdAt.lt {r : Bool} (h : RdAt r S rb lo hi v q e) : rb < S.length:=let ⟨_,_,_,hb,_⟩:=h.bx0; (List.getElem?_eq_some_iff.1 hb).1
theorem RdAt.bx (h : RdAt false S rb lo hi v q e) : BoxAt S rb [v,iA e]:=let ⟨_,hb⟩:=h.box; BoxAt.of (m:=0) hb (by decide)
theorem RdAt.x (h : RdAt false S rb lo hi v q e) (k : Nat) : St.at1 S rb k = [v,iA e][k]?:=by
  have:=h.bx.at1 [] k
  rwa [List.append_nil] at this
theorem RdAt.agree {r : Bool} {Y : Nat→Prop} {S' : St} (h : RdAt r S rb lo hi v q e) (ha : Agree Y S S') (hy : ∀ b,b≤rb→¬ Y b) : RdAt r S' rb lo hi v q e :=
  ⟨let ⟨ver,p,a,hb,hp,hq,h1,h2,h3⟩:=h.bx0; ⟨ver,p,a,ha.box hb (hy rb (Nat.le_refl _)),hp.agree ha fun b hb=>hy b (Nat.le_of_lt (h.ne b hb)),hq,h1,h2,h3⟩,h.ne,h.rng,h.len⟩
theorem RdAt.grow {r : Bool} (h : RdAt r S rb lo hi v q e) (L : St) : RdAt r (S++L) rb lo hi v q e:=h.agree (Agree.app (fun _=>False) S L) fun _ _ y=>y
end
section
variable {X : Cx} {S : St} {rb lo hi : Nat} {v : AV} {q : List Int} {e : Int}
end
end Go.VX.Seat
end
section
set_option maxRecDepth 4000
namespace Go.VX.Seat
open Go.Proofs
theorem Sp.start {α : Type} (m : Rd α) (q0 : List Int) (e0 : Int) : Sp (if decide (e0 = 0) then m q0 else .error e0) e0 q0 m where
  ok:=fun h=>by rw [decide_eq_true h]; rfl
  bad:=fun h=>by rw [decide_eq_false h]; rfl
theorem Sp.to {β : Type} {T : Except Int β} {e x : Int} {q q' : List Int} {k k' : List Int→Except Int β} (h : Sp T e q k) (he : e = 0) (hx : x≠0) (hk : k q = .error x) : Sp T x q' k':=⟨fun h0=>absurd h0 hx,fun _=>by rw [h.ok he,hk]⟩
section
variable {X : Cx} {S : St} {rb lo hi : Nat} {v : AV} {q : List Int} {e : Int}
end
end Go.VX.Seat
end
section
set_option maxRecDepth 4000
namespace Go.VX.Seat
open Go.Proofs
structure OpS (r : Bool) (S T : St) (rb lo hi : Nat) (v : AV) (q : List Int) (e : Int) (xb : Nat) (o : OpV) : Prop where
  rd : RdAt r T rb lo hi v q e
  on : Only rb S T
  res : ∃ ver,T[S.length]? = some ⟨(op0 0 0).row,0,ver⟩
  bx : ∃ ver,T[xb]? = some ⟨o.row,0,ver⟩
  hx : S.length < xb
  lt : rb < S.length
section
variable {r : Bool} {S T T' : St} {rb lo hi xb : Nat} {v v' : AV} {q q' : List Int} {e e' : Int} {o : OpV}
theorem OpS.grow (h : OpS r S T rb lo hi v q e xb o) (L : St) : OpS r S (T++L) rb lo hi v q e xb o where
  rd:=h.rd.grow L
  on:=(h.on.trans (Agree.app (fun n=>n = rb) T L)).mono fun _ _ x=>x.elim id id
  res:=let ⟨ver,hb⟩:=h.res; ⟨ver,by rw [List.getElem?_append_left (List.getElem?_eq_some_iff.1 hb).1]; exact hb⟩
  bx:=let ⟨ver,hb⟩:=h.bx; ⟨ver,by rw [List.getElem?_append_left (List.getElem?_eq_some_iff.1 hb).1]; exact hb⟩
  hx:=h.hx
  lt:=h.lt
theorem OpS.read (h : OpS r S T rb lo hi v q e xb o) (rr : RdAt r T' rb lo hi v' q' e') (a : Only rb T T') : OpS r S T' rb lo hi v' q' e' xb o where
  rd:=rr
  on:=h.on.trans' a
  res:=let ⟨ver,hb⟩:=h.res; ⟨ver,a.box hb (by have:=h.lt; omega)⟩
  bx:=let ⟨ver,hb⟩:=h.bx; ⟨ver,a.box hb (by have:=h.lt; have:=h.hx; omega)⟩
  hx:=h.hx
  lt:=h.lt
theorem OpS.put (h : OpS r S T rb lo hi v q e xb o) {k : Nat} {n : Int} {o' : OpV} (hk : k < 7) (hs : splice o.row k [iA n] = o'.row) : ∃ T',St.put T xb k [iA n] = some T'∧OpS r S T' rb lo hi v q e xb o'∧Agree (fun n=>n = xb) T T':=by
  obtain ⟨ver,hb⟩:=h.bx
  have h1:=h.lt
  have h2:=h.hx
  have hput:=put_box (o:=k) (vs:=[iA n]) hb (by simp [OpV.row]; omega) rfl
  have hag:=Agree.set T xb ⟨splice o.row k [iA n],0,ver + 1⟩
  refine ⟨_,hput,⟨h.rd.agree hag fun b hb e=>by omega,?_,?_,⟨ver + 1,?_⟩,h2,h1⟩,hag⟩
  · exact (h.on.trans hag).mono fun n hn hx=>by
      rcases hx with hx | hx
      · exact hx
      · omega
  · obtain ⟨ver2,hr⟩:=h.res
    exact ⟨ver2,hag.box hr (by omega)⟩
  · rw [List.getElem?_set_self (List.getElem?_eq_some_iff.1 hb).1,hs]
theorem OpS.out (h : OpS r S T rb lo hi v q e xb o) (o' : OpV) : ∃ T',St.put T (S.length + 0) 0 o'.row = some T'∧RdAt r T' rb lo hi v q e∧Only rb S T'∧St.atN T' (S.length + 0) 0 7 = some o'.row:=by
  rw [Nat.add_zero]
  obtain ⟨ver,hb⟩:=h.res
  have h1:=h.lt
  have hput:=put_box (o:=0) (vs:=o'.row) hb (by simp [OpV.row]) rfl
  have hag:=Agree.set T S.length ⟨splice (op0 0 0).row 0 o'.row,0,ver + 1⟩
  refine ⟨_,hput,h.rd.agree hag fun b hb e=>by omega,?_,?_⟩
  · exact (h.on.trans hag).mono fun n hn hx=>by
      rcases hx with hx | hx
      · exact hx
      · omega
  · have hb2 : (T.set S.length ⟨splice (op0 0 0).row 0 o'.row,0,ver + 1⟩)[S.length]? = some ⟨o'.row,0,ver + 1⟩:=by
      rw [List.getElem?_set_self (List.getElem?_eq_some_iff.1 hb).1]
      rfl
    rw [atN_box hb2 (by decide) 0 7 (by simp [OpV.row])]
    rfl
theorem OpS.x (h : OpS r S T rb lo hi v q e xb o) : (∀ k,St.at1 T xb k = o.row[k]?)∧St.atN T xb 0 7 = some o.row:=by
  obtain ⟨ver,hb⟩:=h.bx
  refine ⟨fun k=>at1_box hb (by decide) k,?_⟩
  rw [atN_box hb (by decide) 0 7 (by simp [OpV.row])]
  rfl
end
theorem GB.only {S T : St} {rb : Nat} (h : GB S) (a : Only rb S T) (hr : glS.length≤rb) : GB T:=fun j x hx=>a.box (h j x hx) (by have:=(List.getElem?_eq_some_iff.1 hx).1; omega)
section
variable {X : Cx} {S : St} {rb lo hi : Nat} {v : AV} {q : List Int} {e : Int}
end
end Go.VX.Seat
end
section
set_option maxRecDepth 4000
namespace Go.VX.Seat
open Go.Proofs
abbrev Z6 : List AV:=[.sc (.slice none 0 0),iA 0,iA 0,iA 0,iA 0,.sc (.slice none 0 0)]
structure LdB (r : Bool) (st T : St) (rb cb lo hi : Nat) (v : AV) (q : List Int) (e : Int) (cs : List AV) : Prop where
  rd : RdAt r T rb lo hi v q e
  res : ∃ ver,T[st.length]? = some ⟨Z6,0,ver⟩
  box : ∃ ver,T[cb]? = some ⟨cs,0,ver⟩
  pre : ∃ m,T = st++m
  lt : st.length < rb
  lt2 : rb < cb
section
variable {r : Bool} {st T T' : St} {rb cb lo hi : Nat} {v v' : AV} {q q' : List Int} {e e' : Int} {cs : List AV}
theorem LdB.len (h : LdB r st T rb cb lo hi v q e cs) : cb < T.length:=let ⟨_,hb⟩:=h.box; (List.getElem?_eq_some_iff.1 hb).1
theorem LdB.move {Y : Nat→Prop} (h : LdB r st T rb cb lo hi v q e cs) (a : Agree Y T T') (hY : ∀ b,b≤cb→Y b→b = rb) (rr : RdAt r T' rb lo hi v' q' e') : LdB r st T' rb cb lo hi v' q' e' cs where
  rd:=rr
  res:=let ⟨ver,hb⟩:=h.res; ⟨ver,a.box hb fun y=>by have:=h.lt; have:=h.lt2; have:=hY _ (by omega) y; omega⟩
  box:=let ⟨ver,hb⟩:=h.box; ⟨ver,a.box hb fun y=>by have:=h.lt2; have:=hY _ (Nat.le_refl _) y; omega⟩
  pre:=a.ext h.pre fun b hb y=>by have:=h.lt; have:=h.lt2; have:=hY b (by omega) y; omega
  lt:=h.lt
  lt2:=h.lt2
theorem LdB.grow (h : LdB r st T rb cb lo hi v q e cs) (L : St) : LdB r st (T++L) rb cb lo hi v q e cs:=h.move (Agree.app (fun _=>False) T L) (fun _ _ y=>y.elim) (h.rd.grow L)
theorem LdB.far {Y : Nat→Prop} (h : LdB r st T rb cb lo hi v q e cs) (a : Agree Y T T') (hY : ∀ b,b≤cb→¬ Y b) : LdB r st T' rb cb lo hi v q e cs :=
  h.move a (fun b hb y=>absurd y (hY b hb)) (h.rd.agree a fun b hb=>hY b (by have:=h.lt2; omega))
theorem LdB.put (h : LdB r st T rb cb lo hi v q e cs) {k : Nat} {vs cs' : List AV} (hk : k + vs.length≤cs.length) (hv : vs.all AV.isCell = true) (hs : splice cs k vs = cs') : ∃ T',St.put T cb k vs = some T'∧LdB r st T' rb cb lo hi v q e cs'∧Agree (fun n=>n = cb) T T':=by
  obtain ⟨ver,hb⟩:=h.box
  have h1:=h.lt
  have h2:=h.lt2
  have hput:=put_box hb hk hv
  have hag:=Agree.set T cb ⟨splice cs k vs,0,ver + 1⟩
  refine ⟨_,hput,⟨h.rd.agree hag fun b hb e=>by omega,?_,⟨ver + 1,?_⟩,hag.ext h.pre fun b hb e=>by omega,h1,h2⟩,hag⟩
  · obtain ⟨ver2,hr⟩:=h.res
    exact ⟨ver2,hag.box hr (by omega)⟩
  · rw [List.getElem?_set_self h.len,hs]
theorem LdB.x (h : LdB r st T rb cb lo hi v q e cs) (k : Nat) : St.at1 T cb k = cs[k]?:=let ⟨_,hb⟩:=h.box; at1_box hb (by decide) k
theorem LdB.xN (h : LdB r st T rb cb lo hi v q e cs) (hl : cs.length = 6) : St.atN T cb 0 6 = some cs:=by
  obtain ⟨_,hb⟩:=h.box
  rw [atN_box hb (by decide) 0 6 (by omega),List.drop_zero,← hl,List.take_length]
theorem LdB.out (h : LdB r st T rb cb lo hi v q e cs) {ws : List AV} (hl : ws.length = 6) (hc : ws.all AV.isCell = true) : ∃ T',St.put T (st.length + 0) 0 ws = some T'∧(∃ m,T' = st++m)∧St.atN T' (st.length + 0) 0 6 = some ws∧Agree (fun n=>n = st.length) T T':=by
  rw [Nat.add_zero]
  obtain ⟨ver,hb⟩:=h.res
  have hput:=put_box (o:=0) (vs:=ws) hb (by simp [hl]) hc
  have hsp : splice Z6 0 ws = ws:=by
    have : Z6.length = ws.length:=by rw [hl]; rfl
    simp [splice,this]
  rw [hsp] at hput
  have hag:=Agree.set T st.length ⟨ws,0,ver + 1⟩
  refine ⟨_,hput,hag.ext h.pre fun b hb e=>by omega,?_,hag⟩
  have hb2 : (T.set st.length ⟨ws,0,ver + 1⟩)[st.length]? = some ⟨ws,0,ver + 1⟩:=List.getElem?_set_self (List.getElem?_eq_some_iff.1 hb).1
  rw [atN_box hb2 (by decide) 0 6 (by omega),List.drop_zero,← hl,List.take_length]
end
end Go.VX.Seat
end
section
set_option maxRecDepth 4000
namespace Go.VX.Seat
open Go.Proofs
section
variable {X : Cx} {st : St}
def LdR (st S : St) (T : Except Int CodV) (r : CRes) : Prop :=
  (∃ e,T = .error e∧r = .ret (.tup [.agg Z6,iA e]))∨(∃ C lo w,T = .ok C∧chkR C = 0∧st.length≤lo∧OwnC S lo w C∧r = .ret (.tup [w,iA 0]))
end
end Go.VX.Seat
end
section
set_option maxRecDepth 4000
namespace Go.VX.Seat
open Go.Proofs
section
variable {S : St} {rb lo hi : Nat} {v : AV} {q : List Int} {e : Int}
theorem RdAt.y2 (h : RdAt true S rb lo hi v q e) : St.at1 S rb 2 = some (iA e):=by
  obtain ⟨ver,p,a,hb,_⟩:=h.bx0
  rw [at1_box hb (by decide) 2]
  rfl
end
section
variable {X : Cx} {S : St} {rb lo hi : Nat} {v : AV} {q : List Int} {e : Int}
end
end Go.VX.Seat
end
section
set_option maxRecDepth 4000
namespace Go.VX.Seat
open Go.Proofs
structure NbTo (S S' : St) (lo : Nat) (v w : AV) (p : List Int) : Prop where
  own : OwnS S' lo w 1 (rowsB p)
  ag : Agree (fun k=>boxOf v = some k) S S'
  nw : w = v∨∀ k,boxOf w = some k→S.length≤k
theorem NbTo.trans {S S1 S2 : St} {lo : Nat} {v v1 v2 : AV} {p1 p2 : List Int} (h : NbTo S S1 lo v v1 p1) (h2 : NbTo S1 S2 lo v1 v2 p2) : NbTo S S2 lo v v2 p2 where
  own:=h2.own
  ag:=(h.ag.trans h2.ag).mono fun n hn hx=>by
    rcases hx with hx | hx
    · exact hx
    · rcases h.nw with e | e
      · rw [e] at hx; exact hx
      · have:=e n hx; omega
  nw:=by
    rcases h2.nw with e | e
    · subst e
      exact h.nw
    · exact .inr fun n hn=>Nat.le_trans h.ag.len (e n hn)
theorem NbTo.grow {S : St} {lo : Nat} {v : AV} {p : List Int} (h : OwnS S lo v 1 (rowsB p)) (L : St) : NbTo S (S++L) lo v v p:=⟨own_frame h L,Agree.app _ _ _,.inl rfl⟩
theorem NbTo.refl {S : St} {lo : Nat} {v : AV} {p : List Int} (h : OwnS S lo v 1 (rowsB p)) : NbTo S S lo v v p:=⟨h,Agree.refl _ _,.inl rfl⟩
theorem NbTo.box {S S' : St} {lo : Nat} {v w : AV} {p : List Int} (h : NbTo S S' lo v w p) {b : Nat} {x : Box} (hb : S[b]? = some x) (hv : boxOf v≠some b) : S'[b]? = some x:=h.ag.box hb hv
theorem NbTo.sep {S S' : St} {lo : Nat} {v w : AV} {p : List Int} (h : NbTo S S' lo v w p) {b : Nat} (hb : b < S.length) (hv : boxOf v≠some b) : boxOf w≠some b:=fun e=>by
  rcases h.nw with q | q
  · rw [q] at e; exact hv e
  · have:=q b e; omega
theorem NbTo.arr {S S' : St} {lo : Nat} {v w : AV} {p : List Int} (h : NbTo S S' lo v w p) {l h2 esz : Nat} {a : AV} {rows : List (List AV)} (ha : ArrAt S l h2 a esz rows) (hs : ∀ b,boxOf a = some b→boxOf v≠some b) : ArrAt S' l h2 a esz rows:=ha.agree h.ag hs
section
variable {X : Cx}
end
end Go.VX.Seat
end
