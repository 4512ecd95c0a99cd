/- A part of the proofs of the statements of one layer: U23, U24, U25, U26, U27, U28, U30, U31, U32, U3, T1, U2, U4, U5, U6, U7, U17, U33, U34, U35, U36, U37, U38, U39, U40. No condition is added here. -/
import Derived.Laws.Strings
import Derived.Test.YtmpndkhedbpmjaaGreatDoorXC12
set_option linter.unusedVariables false
set_option linter.unusedSimpArgs false
section
set_option maxRecDepth 4000
namespace Go.VX.Seat
open Go.Proofs
def bstr (q : List Int) : ByteArray:=⟨(q.map fun n=>UInt8.ofNat n.toNat).toArray⟩
theorem c_neqs (P : Program) (t : TypeId) (a b : ByteArray) (ox oy : Operand) : closed P (do eqGuard .neq t ox oy (.string a) (.string b); binOp .neq t (.string a) (.string b)) = some (.bool (!(a.toList == b.toList))):=rfl
theorem bytesOf_map : ∀ q : List Int,bytesOfCells (q.map fun n=>AV.sc (.int .u8 n)) = some (q.map fun n=>UInt8.ofNat n.toNat)
  | []=>rfl
  | n :: r=>by
    simp only [List.map_cons,bytesOfCells,bytesOf_map r]
theorem bstr_eq {p q : List Int} (hp : ∀ b ∈ p,0≤b∧b < 256) (hq : ∀ b ∈ q,0≤b∧b < 256) : ((bstr p).toList == (bstr q).toList) = decide (p = q):=by
  have inj : ∀ a b : Int,0≤a∧a < 256→0≤b∧b < 256→UInt8.ofNat a.toNat = UInt8.ofNat b.toNat→a = b:=fun a b ha hb e=>by
    have:=congrArg UInt8.toNat e
    simp at this
    omega
  rw [ByteArray.toList_eq,ByteArray.toList_eq]
  show ((p.map fun n=>UInt8.ofNat n.toNat) == (q.map fun n=>UInt8.ofNat n.toNat)) = _
  by_cases h : p = q
  · subst h
    simp
  · rw [decide_eq_false h]
    have : (p.map fun n=>UInt8.ofNat n.toNat)≠(q.map fun n=>UInt8.ofNat n.toNat):=fun e=>h (by
      clear h
      induction p generalizing q with
      | nil=>cases q with
        | nil=>rfl
        | cons b r=>cases e
      | cons a p ih=>cases q with
        | nil=>cases e
        | cons b q =>
          simp only [List.map_cons,List.cons.injEq] at e
          rw [inj a b (hp a (List.mem_cons_self ..)) (hq b (List.mem_cons_self ..)) e.1,ih (fun b hb=>hp b (List.mem_cons_of_mem _ hb)) (fun b hb=>hq b (List.mem_cons_of_mem _ hb)) e.2])
    simpa using this
theorem rowsB_flat (q : List Int) : (rowsB q).flatten = q.map fun n=>AV.sc (.int .u8 n):=by
  induction q with
  | nil=>rfl
  | cons b r ih=>simp only [List.map_cons,List.flatten_cons,ih]; rfl
theorem b2s_arr {P : Program} {env : Env} {st : St} {lo hi : Nat} {x : VOpd} {v : AV} {q : List Int} (ex : x.ev env = v) (h : ArrAt st lo hi v 1 (rowsB q)) : vop P (.b2s x) env st = some (.val (.sc (.string (bstr q))),st):=by
  rcases nil_or_sl h.len with ⟨rfl,hz⟩ | ⟨b,o,e,f,rfl⟩
  · have : q = []:=by simpa using hz
    subst this
    simp only [vop,ex]
    rfl
  · obtain ⟨rfl,h0⟩:=h.size _ _ _ _ _ rfl
    have hat : st.atN b o (rowsB q).length = some (q.map fun n=>AV.sc (.int .u8 n)):=by
      by_cases hq : rowsB q = []
      · have : q = []:=by simpa using hq
        subst this
        exact h0
      · obtain ⟨b',o',f',e',_,_,hw⟩:=h.whole hq
        cases e'
        have:=hw (rowsB q).length (Nat.le_refl _)
        rw [List.take_length,rowsB_flat,Nat.mul_one] at this
        exact this
    simp only [vop,ex,hat,bytesOf_map,if_true]
    rfl
theorem opR_b2s {X : Cx} {K : Env→St→Post3→Prop} {Q : Post3} {d : Option Nat} {env : Env} {st : St} {lo hi : Nat} {x : VOpd} {v : AV} {q : List Int} (ex : x.ev env = v) (hx : ArrAt st lo hi v 1 (rowsB q)) (h : K (env.put d (.sc (.string (bstr q)))) st Q) : opR X K d [] env st Q (vop X.P (.b2s x) env st):=by
  rw [b2s_arr ex hx]
  exact ⟨keptA_nil _ _ _,h⟩
theorem atN_less {s : St} {b o n m : Nat} {cs : List AV} (h : St.atN s b o n = some cs) (hm : m≤n) : St.atN s b (o + m) 0 = some []:=by
  unfold St.atN at h ⊢
  split at h
  · split at h
    · cases h
    · rename_i h2
      simp only [if_neg h2]
      split at h
      · rename_i h3
        rw [if_pos (by omega)]
        simp
      · cases h
  · cases h
theorem opR_suf {X : Cx} {K : Env→St→Post3→Prop} {Q : Post3} {d : Option Nat} {env : Env} {s : St} {lo hi esz n : Nat} {x y : VOpd} {rows : List (List AV)} {vx : AV} (ex : x.ev env = vx) (ey : asNat? (y.ev env) = some n) (hx : ArrAt s lo hi vx esz rows) (hn : n≤rows.length)
    (h : ∀ w,ArrAt s lo hi w esz (rows.drop n)→boxOf w = boxOf vx→K (env.put d w) s Q) : opR X K d [] env s Q (vop X.P (.slice none esz x (some y) none none) env s):=by
  rw [v_slice,ex]
  rcases nil_or_sl hx.len with ⟨rfl,hz⟩ | ⟨b,o,e,f,rfl⟩
  · have hr : rows = []:=List.length_eq_zero_iff.1 hz
    subst hr
    have hn0 : n = 0:=by simpa using hn
    subst hn0
    simp only [bnd,ey]
    exact ⟨keptA_nil _ _ _,h _ (emptyArr _ _ _ _) rfl⟩
  · obtain ⟨rfl,h0⟩:=hx.size _ _ _ _ _ rfl
    simp only [bnd,ey,Option.isSome_none,Bool.false_eq_true,if_false,false_implies,and_true,Nat.le_refl,true_and]
    rw [if_pos hn]
    refine ⟨keptA_nil _ _ _,h _ ⟨?_,?_,?_⟩ rfl⟩
    · simp only [lenA,List.length_drop]
    · intro b' o' len' e' full' q
      cases q
      refine ⟨rfl,?_⟩
      by_cases hr : rows = []
      · subst hr
        have hn0 : n = 0:=by simpa using hn
        subst hn0
        simpa using h0
      · obtain ⟨b',o',f',q,_,_,hw⟩:=hx.whole hr
        cases q
        exact atN_less (hw rows.length (Nat.le_refl _)) (Nat.mul_le_mul_right _ hn)
    · intro i hi'
      simp only [List.length_drop] at hi'
      obtain ⟨b1,o1,q1,q2,q3,q4⟩:=hx.row (n + i) (by omega)
      obtain ⟨b',o',len',full',q,_,_,hp⟩:=elemA_inv q1
      cases q
      simp only [AV.ptr.injEq,Int.toNat_natCast] at hp
      obtain ⟨rfl,rfl⟩:=hp
      refine ⟨b1,o + (n + i) * e,?_,q2,q3,?_⟩
      · simp only [elemA,Int.toNat_natCast]
        rw [if_pos ⟨by omega,by omega,trivial⟩]
        congr 2
        rw [Nat.add_mul]
        omega
      · simpa using q4
end Go.VX.Seat
end
open Go.VX.AV renaming cell? → xc, toV → xd
open Int renaming reduceAdd → xe, reduceLE → xf, reduceLT → xh, reduceNeg → xi, reduceToNat → xj
open Nat renaming reduceAdd → xk, reduceEqDiff → xl, reduceLeDiff → xm, reduceMul → xn, reduceSub → xp
open Go.VX.VOpd renaming ev → xq
open Go.VX renaming asInt? → xr, asNat? → xu, cellVal → xv, cellsV → xy, fillA → xz, partsEv → ya, resOf → yc, splice → yd, tupOf → ye, zeroes → yf
section
set_option maxRecDepth 4000
namespace Go.VX.Seat
open Go.Proofs
section
variable {X : Cx} {st : St}
theorem w_Fail0 (h : On X) (M : St) {b : AV} {ver : Nat} (L : St) (e : Int) : wpF X 94 [.ptr (st.length + M.length) 0,iA e] (st++(M++(⟨[b,iA 0],0,ver⟩ :: L))) fun r s=>r = .ret (.tup [])∧s = st++(M++(⟨[b,iA e],0,ver + 1⟩ :: L)):=by
  suffices hs : ∀ T : St,wpF X 94 [.ptr (T.length + 0) 0,iA e] (T++(⟨[b,iA 0],0,ver⟩ :: L)) fun r s=>r = .ret (.tup [])∧s = T++(⟨[b,iA e],0,ver + 1⟩ :: L) by
    have:=hs (st++M)
    simpa using this
  intro T
  refine wpF_intro (fn:=v_words_Reader_Fail) (by rw [h.F]; rfl) ?_
  simp only [v_words_Reader_Fail,kB,kZ,kD,kE,xp,xj,xn,xe,xf,xh,xi,xm,xl,xk,reduceIte,reduceCtorEq,yd,yc,xv]
def sealBad (q : List Int) : Bool:=decide ((q.length : Int) - 4 < 4) || !decide (le4 (sumP (q.take (q.length - 4))) = q.drop (q.length - 4))
theorem le4_rng (z : Int) : ∀ b ∈ le4 z,0≤b∧b < 256:=fun b hb=>by
  unfold le4 at hb
  simp only [List.mem_cons,List.not_mem_nil,or_false] at hb
  rcases hb with rfl | rfl | rfl | rfl<;>exact wrap8_bnd _
set_option maxHeartbeats 1000000 in
theorem w_Open_bad (h : On X) (M : St) {lo hi : Nat} {v : AV} {q : List Int} (hv : ArrAt (st++M) lo hi v 1 (rowsB q)) (hq : q.length≤1000000000) (hr : ∀ b ∈ q,0≤b∧b < 256) (hbad : sealBad q = true) (nm : AV) :
    wpF X 49 [v,nm] (st++M) fun r S=>∃ L,r = .ret (.ptr (st.length + M.length) 0)∧S = st++(M++(⟨[.sc (.slice none 0 0),iA 9],0,1⟩ :: L)):=by
  suffices hs : ∀ (T : St),ArrAt T lo hi v 1 (rowsB q)→wpF X 49 [v,nm] T fun r S=>∃ L,r = .ret (.ptr (T.length + 0) 0)∧S = T++(⟨[.sc (.slice none 0 0),iA 9],0,1⟩ :: L) by
    have:=hs (st++M) hv
    simpa using this
  clear hv
  intro T hv
  refine wpF_go (fn:=v_words_Open) (by rw [h.F]; rfl) ?_
  have l1:=hv.len
  simp only [List.length_map] at l1
  have hwr : IntKind.wrap .i64 ((q.length : Int) - 4) = (q.length : Int) - 4:=wrap_small (by omega) (by omega)
  have cv : ∀ a,closed X.P (convert 148 5 (.int .u32 a)) = some (.int .u8 (IntKind.wrap .u8 a)):=fun a=>by rw [h.P]; exact c_cv328 a
  have hf0:=fun L=>w_Fail0 (st:=T) h [] (b:=.sc (.slice none 0 0)) (ver:=0) L 9
  simp only [List.length_nil,List.nil_append] at hf0
  unfold sealBad at hbad
  simp only [v_words_Open,l1,hwr,kB,kZ,kD,kE,xp,xj,xn,xe,xf,xh,xi,xm,xl,xk,reduceIte,reduceCtorEq,yd,yc,xv]
  cases hlt : decide ((q.length : Int) - 4 < 4)
  case true =>
    simp only [hlt,kB,kZ,kD,kE,xp,xj,xn,xe,xf,xh,xi,xm,xl,xk,reduceIte,reduceCtorEq,yd,yc,xv]
    refine wpF.mono (hf0 _) ?_
    rintro r S ⟨rfl,rfl⟩
    refine ⟨keptA_nil _ _ _,?_⟩
    simp only [kB,kZ,kD,kE,xp,xj,xn,xe,xf,xh,xi,xm,xl,xk,reduceIte,reduceCtorEq,yd,yc,xv]
    exact ⟨_,rfl⟩
  rw [hlt] at hbad
  have hlt:=of_decide_eq_false hlt
  simp only [kB,kZ,kD,kE,xp,xj,xn,xe,xf,xh,xi,xm,xl,xk,reduceIte,reduceCtorEq,yd,yc,xv]
  refine opR_pre (vx:=v) (n:=q.length - 4) (by simp only [kB,kZ,kD,kE,xp,xj,xn,xe,xf,xh,xi,xm,xl,xk,reduceIte,reduceCtorEq,yd,yc,xv]) (by simp only [kB,kZ,kD,kE,xp,xj,xn,xe,xf,xh,xi,xm,xl,xk,reduceIte,reduceCtorEq,yd,yc,xv]; rw [if_pos (by omega)]; exact congrArg some (by omega)) (hv.mono _) (by simp) ?_
  intro w1 hw1
  refine ⟨keptA_nil _ _ _,?_⟩
  simp only [kB,kZ,kD,kE,xp,xj,xn,xe,xf,xh,xi,xm,xl,xk,reduceIte,reduceCtorEq,yd,yc,xv]
  rw [←List.map_take] at hw1
  refine callO_same (j_words_sum h hw1 (by simp; omega)) ?_
  obtain ⟨z,hz⟩ : ∃ z,sumP (q.take (q.length - 4)) = z:=⟨_,rfl⟩
  rw [hz] at hbad ⊢
  simp only [kB,kZ,kD,kE,xp,xj,xn,xe,xf,xh,xi,xm,xl,xk,reduceIte,reduceCtorEq,yd,yc,xv]
  refine opR_suf (vx:=v) (n:=q.length - 4) (by simp only [kB,kZ,kD,kE,xp,xj,xn,xe,xf,xh,xi,xm,xl,xk,reduceIte,reduceCtorEq,yd,yc,xv]) (by simp only [kB,kZ,kD,kE,xp,xj,xn,xe,xf,xh,xi,xm,xl,xk,reduceIte,reduceCtorEq,yd,yc,xv]; rw [if_pos (by omega)]; exact congrArg some (by omega)) (hv.mono _) (by simp) ?_
  intro w2 hw2 _
  rw [←List.map_drop] at hw2
  simp only [kB,kZ,kD,kE,xp,xj,xn,xe,xf,xh,xi,xm,xl,xk,reduceIte,reduceCtorEq,yd,yc,xv]
  refine opR_b2s (by simp only [kB,kZ,kD,kE,xp,xj,xn,xe,xf,xh,xi,xm,xl,xk,reduceIte,reduceCtorEq,yd,yc,xv]) hw2 ?_
  simp only [cv,c_shr8,c_shr16,c_shr24,kB,kZ,kD,kE,xp,xj,xn,xe,xf,xh,xi,xm,xl,xk,reduceIte,reduceCtorEq,yd,yc,xv]
  have hy : ArrAt (T++[⟨[.sc (.slice none 0 0),.sc (.int .i64 0)],0,0⟩,⟨[.sc (.int .u8 (IntKind.wrap .u8 z)),.sc (.int .u8 (IntKind.wrap .u8 (z.fdiv 256))),.sc (.int .u8 (IntKind.wrap .u8 (z.fdiv 65536))),.sc (.int .u8 (IntKind.wrap .u8 (z.fdiv 16777216)))],0,0⟩]) (T.length + 1) (T.length + 2) (.sl (T.length + 1) 0 4 1 true) 1 (rowsB (le4 z)) :=
    ArrAt.ofBox (mode:=0) (ver:=0) (by rw [List.getElem?_append_right (by omega)]; simp; rfl) (by decide) (by simp) rfl
  refine opR_b2s (by simp only [kB,kZ,kD,kE,xp,xj,xn,xe,xf,xh,xi,xm,xl,xk,reduceIte,reduceCtorEq,yd,yc,xv]) hy ?_
  have hne : ((bstr (q.drop (q.length - 4))).toList == (bstr (le4 z)).toList) = false:=by
    rw [bstr_eq (fun b hb=>hr b (List.mem_of_mem_drop hb)) (le4_rng z)]
    refine decide_eq_false fun e=>?_
    rw [e] at hbad
    simp at hbad
  simp only [c_neqs,hne,kB,kZ,kD,kE,xp,xj,xn,xe,xf,xh,xi,xm,xl,xk,reduceIte,reduceCtorEq,yd,yc,xv]
  refine wpF.mono (hf0 _) ?_
  rintro r S ⟨rfl,rfl⟩
  refine ⟨keptA_nil _ _ _,?_⟩
  simp only [kB,kZ,kD,kE,xp,xj,xn,xe,xf,xh,xi,xm,xl,xk,reduceIte,reduceCtorEq,yd,yc,xv]
  exact ⟨_,rfl⟩
end
end Go.VX.Seat
end
section
set_option maxRecDepth 4000
namespace Go.VX.Seat
open Go.Proofs
theorem wrap8_eq (n : Int) : IntKind.wrap .u8 n = n % 256:=rfl
end Go.VX.Seat
end
section
set_option maxRecDepth 4000
namespace Go.VX.Seat
open Go.Proofs
abbrev Rd (α : Type):=List Int→Except Int (α × List Int)
def orS (u c : Int) (i : Nat) : Int:=IntKind.wrap .u64 ((BitVec.ofInt 64 u ||| BitVec.ofInt 64 (IntKind.wrap .u64 (c.tmod 128 * 2 ^ (7 * i)))).toNat : Int)
def numD : Nat→Int→List Int→Option (Int × List Int)
  | _,_,[]=>none
  | i,u,c :: q=>if (decide (i = 9) && decide (1 < c)) || (decide (0 < i) && decide (c = 0)) then none else if decide (c < 128) then some (orS u c i,q) else numD (i + 1) (orS u c i) q
def sgnD (u : Int) : Int:=if decide (u % 2 = 1) then -(u / 2) - 1 else u / 2
def rdN : Rd Int:=fun q=>match numD 0 0 q with
  | some x=>.ok (sgnD x.1,x.2)
  | none=>.error 4
def rdC (most : Int) : Rd Int:=fun q=>(rdN q).bind fun x=>if decide (x.1 < 0) then .error 4 else if decide (most < x.1) then .error 3 else .ok x
def rdRep {α : Type} (m : Rd α) : Nat→Rd (List α)
  | 0,q=>.ok ([],q)
  | n + 1,q=>(m q).bind fun x=>(rdRep m n x.2).bind fun y=>.ok (x.1 :: y.1,y.2)
def setF (o : OpV) (k : Nat) (v : Int) : OpV:=if k = 1 then { o with d:=v } else if k = 2 then { o with a:=v } else if k = 3 then { o with b:=v } else { o with c:=v }
def rdFlds : List Nat→OpV→Rd OpV
  | [],o,q=>.ok (o,q)
  | k :: r,o,q=>(rdN q).bind fun x=>rdFlds r (setF o k x.1) x.2
def op0 (k g : Int) : OpV:=⟨k,0,0,0,0,0,g⟩
def rdOpN (o : OpV) : Rd OpV:=fun q=>if hasNW o.k then (rdN q).bind fun n=>.ok ({ o with n:=n.1 },n.2) else .ok (o,q)
def rdOpF (k g : Int) : Rd OpV:=fun q=>(rdFlds (regsO (op0 k g)) (op0 k g) q).bind fun o=>rdOpN o.1 o.2
def rdOp : Rd OpV:=fun q=>(rdN q).bind fun k=>if decide (k.1 < 1) || decide (28 < k.1) then .error 4 else (rdN k.2).bind fun g=>rdOpF k.1 g.1 g.2
def rdWrd : Rd WrdV:=fun q=>(rdN q).bind fun c=>(rdC 400 c.2).bind fun n=>(rdRep rdOp n.1.toNat n.2).bind fun l=>.ok (⟨l.1,c.1⟩,l.2)
def endD (C : CodV) : List Int→Except Int CodV:=fun q=>if decide (0 < q.length) then .error 4 else if decide (chkR C≠0) then .error (chkR C) else .ok C
def wrdsD (C : CodV) : List Int→Except Int CodV:=fun q=>(rdC 60000 q).bind fun n=>(rdRep rdWrd n.1.toNat n.2).bind fun l=>endD { C with words:=C.words++l.1 } l.2
def fourD (z : List Int) : List Int→Except Int CodV:=fun q=>(rdN q).bind fun p=>(rdN p.2).bind fun r=>(rdN r.2).bind fun c=>(rdN c.2).bind fun s=>wrdsD ⟨z,p.1,r.1,c.1,s.1,[]⟩ s.2
def bodyD : List Int→Except Int CodV:=fun q=>(rdC 16 q).bind fun n=>(rdRep rdN n.1.toNat n.2).bind fun l=>fourD l.1 l.2
def loadD (q : List Int) : Except Int CodV:=if sealBad q then .error 9 else if decide (q.take 4≠bire) then .error 4 else bodyD ((q.take (q.length - 4)).drop 4)
structure Sp {β : Type} (T : Except Int β) (e : Int) (q : List Int) (k : List Int→Except Int β) : Prop where
  ok : e = 0→T = k q
  bad : e≠0→T = .error e
structure Did {α : Type} (m : Rd α) (q : List Int) (e : Int) (a : α) (q' : List Int) (e' : Int) : Prop where
  ok : e' = 0→e = 0∧m q = .ok (a,q')
  bad : e'≠0→(e≠0∧e' = e)∨(e = 0∧m q = .error e')
theorem Sp.step {α β : Type} {T : Except Int β} {e e' : Int} {q q' : List Int} {m : Rd α} {a : α} {k : α × List Int→Except Int β} (h : Sp T e q fun q=>(m q).bind k) (d : Did m q e a q' e') : Sp T e' q' fun q=>k (a,q) where
  ok:=fun h0=>by
    obtain ⟨h1,h2⟩:=d.ok h0
    rw [h.ok h1]
    show (m q).bind k = _
    rw [h2]
    rfl
  bad:=fun h0=>by
    rcases d.bad h0 with ⟨h1,h2⟩ | ⟨h1,h2⟩
    · rw [h2]; exact h.bad h1
    · rw [h.ok h1]
      show (m q).bind k = _
      rw [h2]
      rfl
theorem Sp.fail {β : Type} {T : Except Int β} {e x : Int} {q : List Int} {k : List Int→Except Int β} (h : Sp T e q k) (hk : k q = .error x) : T = .error (if decide (e = 0) then x else e):=by
  by_cases h0 : e = 0
  · rw [h.ok h0,hk,decide_eq_true h0]; rfl
  · rw [h.bad h0,decide_eq_false h0]; rfl
theorem Did.ret {α : Type} {a : α} {q : List Int} {e : Int} : Did (fun q=>.ok (a,q)) q e a q e:=⟨fun h=>⟨h,rfl⟩,fun h=>.inl ⟨h,rfl⟩⟩
theorem Did.bind {α β : Type} {m : Rd α} {f : α × List Int→Except Int (β × List Int)} {q q1 q2 : List Int} {e e1 e2 : Int} {a : α} {b : β} (h : Did m q e a q1 e1) (h2 : Did (fun q=>f (a,q)) q1 e1 b q2 e2) : Did (fun q=>(m q).bind f) q e b q2 e2 where
  ok:=fun h0=>by
    obtain ⟨h3,h4⟩:=h2.ok h0
    obtain ⟨h5,h6⟩:=h.ok h3
    refine ⟨h5,?_⟩
    show (m q).bind f = _
    rw [h6]
    exact h4
  bad:=fun h0=>by
    by_cases h1 : e1 = 0
    · obtain ⟨h5,h6⟩:=h.ok h1
      rcases h2.bad h0 with ⟨h3,_⟩ | ⟨_,h4⟩
      · exact absurd h1 h3
      · refine .inr ⟨h5,?_⟩
        show (m q).bind f = _
        rw [h6]
        exact h4
    · rcases h2.bad h0 with ⟨_,h4⟩ | ⟨h3,_⟩
      · rw [h4]
        rcases h.bad h1 with h5 | ⟨h5,h6⟩
        · exact .inl h5
        · refine .inr ⟨h5,?_⟩
          show (m q).bind f = _
          rw [h6]
          rfl
      · exact absurd h3 h1
theorem Did.fail {α : Type} {m : Rd α} {q : List Int} {e x : Int} {a : α} {q' : List Int} (hx : x≠0) (h : e = 0→m q = .error x) : Did m q e a q' (if decide (e = 0) then x else e) where
  ok:=fun h0=>by
    by_cases h1 : e = 0
    · rw [decide_eq_true h1] at h0; exact absurd h0 hx
    · rw [decide_eq_false h1] at h0; exact absurd h0 h1
  bad:=fun h0=>by
    by_cases h1 : e = 0
    · rw [decide_eq_true h1]; exact .inr ⟨h1,h h1⟩
    · rw [decide_eq_false h1]; exact .inl ⟨h1,rfl⟩
theorem Did.done {α : Type} {m : Rd α} {q : List Int} {e : Int} {a : α} {q' : List Int} (h : e = 0→m q = .ok (a,q')) : Did m q e a q' e:=⟨fun h0=>⟨h0,h h0⟩,fun h0=>.inl ⟨h0,rfl⟩⟩
end Go.VX.Seat
end
section
set_option maxRecDepth 4000
namespace Go.VX.Seat
open Go.Proofs
def rcs : Bool→AV→Nat→Int→List AV
  | false,v,_,e=>[v,iA e]
  | true,v,a,e=>[v,iA a,iA e]
structure RdAt (r : Bool) (S : St) (rb lo hi : Nat) (v : AV) (q : List Int) (e : Int) : Prop where
  bx0 : ∃ ver p a,S[rb]? = some ⟨rcs r v a e,0,ver⟩∧ArrAt S lo hi v 1 (rowsB p)∧q = p.drop a∧a≤p.length∧(r = false→a = 0)∧p.length≤1000000000
  ne : ∀ b,boxOf v = some b→b < rb
  rng : ∀ b ∈ q,0≤b∧b < 256
  len : q.length≤1000000000
theorem RdAt.mk0 {S : St} {rb lo hi : Nat} {v : AV} {q : List Int} {e : Int} (hb : ∃ ver,S[rb]? = some ⟨[v,iA e],0,ver⟩) (ha : ArrAt S lo hi v 1 (rowsB q)) (hn : ∀ b,boxOf v = some b→b < rb) (hr : ∀ b ∈ q,0≤b∧b < 256) (hl : q.length≤1000000000) : RdAt false S rb lo hi v q e :=
  ⟨let ⟨ver,hb⟩:=hb; ⟨ver,q,0,hb,ha,rfl,by omega,fun _=>rfl,hl⟩,hn,hr,hl⟩
theorem RdAt.box {S : St} {rb lo hi : Nat} {v : AV} {q : List Int} {e : Int} (h : RdAt false S rb lo hi v q e) : ∃ ver,S[rb]? = some ⟨[v,iA e],0,ver⟩:=let ⟨ver,_,_,hb,_⟩:=h.bx0; ⟨ver,hb⟩
theorem RdAt.arr {S : St} {rb lo hi : Nat} {v : AV} {q : List Int} {e : Int} (h : RdAt false S rb lo hi v q e) : ArrAt S lo hi v 1 (rowsB q):=by
  obtain ⟨ver,p,a,_,ha,hq,_,h0,_⟩:=h.bx0
  rw [h0 rfl,List.drop_zero] at hq
  rw [hq]
  exact ha
abbrev Only (rb : Nat) (S S' : St) : Prop:=Agree (fun n=>n = rb) S S'
theorem Only.trans' {rb : Nat} {a b c : St} (h : Only rb a b) (h2 : Only rb b c) : Only rb a c:=(h.trans h2).mono fun _ _ e=>e.elim id id
section
variable {S : St} {rb lo hi : Nat} {v : AV} {q : List Int} {e : Int}
theorem RdAt.lt {r : Bool} (h : RdAt r S rb lo hi v q e) : rb < S.length:=let ⟨_,_,_,hb,_⟩:=h.bx0; (List.getElem?_eq_some_iff.1 hb).1
theorem RdAt.bx (h : RdAt false S rb lo hi v q e) : BoxAt S rb [v,iA e]:=let ⟨_,hb⟩:=h.box; BoxAt.of (m:=0) hb (by decide)
theorem RdAt.x (h : RdAt false S rb lo hi v q e) (k : Nat) : St.at1 S rb k = [v,iA e][k]?:=by
  have:=h.bx.at1 [] k
  rwa [List.append_nil] at this
theorem RdAt.agree {r : Bool} {Y : Nat→Prop} {S' : St} (h : RdAt r S rb lo hi v q e) (ha : Agree Y S S') (hy : ∀ b,b≤rb→¬ Y b) : RdAt r S' rb lo hi v q e :=
  ⟨let ⟨ver,p,a,hb,hp,hq,h1,h2,h3⟩:=h.bx0; ⟨ver,p,a,ha.box hb (hy rb (Nat.le_refl _)),hp.agree ha fun b hb=>hy b (Nat.le_of_lt (h.ne b hb)),hq,h1,h2,h3⟩,h.ne,h.rng,h.len⟩
theorem RdAt.grow {r : Bool} (h : RdAt r S rb lo hi v q e) (L : St) : RdAt r (S++L) rb lo hi v q e:=h.agree (Agree.app (fun _=>False) S L) fun _ _ y=>y
theorem RdAt.setB (h : RdAt false S rb lo hi v q e) {v' : AV} {q' : List Int} (ha : ArrAt S lo hi v' 1 (rowsB q')) (hn : ∀ b,boxOf v' = some b→b < rb) (hr : ∀ b ∈ q',b ∈ q) (hl : q'.length≤q.length) : ∃ S2,St.put S rb 0 [v'] = some S2∧RdAt false S2 rb lo hi v' q' e∧Only rb S S2:=by
  obtain ⟨ver,hb⟩:=h.box
  have hc:=isCell_len ha.len
  have hput:=put_box (o:=0) (vs:=[v']) hb (by simp) (by simp [hc])
  have hag:=Agree.set S rb ⟨splice [v,iA e] 0 [v'],0,ver + 1⟩
  refine ⟨_,hput,RdAt.mk0 ⟨ver + 1,?_⟩ (ha.agree hag fun b hb e=>by have:=hn b hb; omega) hn (fun b hb=>h.rng b (hr b hb)) (Nat.le_trans hl h.len),hag⟩
  rw [List.getElem?_set_self h.lt]
  rfl
theorem RdAt.setE (h : RdAt false S rb lo hi v q e) (x : Int) : ∃ S2,St.put S rb 1 [iA x] = some S2∧RdAt false S2 rb lo hi v q x∧Only rb S S2:=by
  obtain ⟨ver,hb⟩:=h.box
  have hput:=put_box (o:=1) (vs:=[iA x]) hb (by simp) rfl
  have hag:=Agree.set S rb ⟨splice [v,iA e] 1 [iA x],0,ver + 1⟩
  refine ⟨_,hput,RdAt.mk0 ⟨ver + 1,?_⟩ (h.arr.agree hag fun b hb e=>by have:=h.ne b hb; omega) h.ne h.rng h.len,hag⟩
  rw [List.getElem?_set_self h.lt]
  rfl
end
theorem c_and8 (P : Program) (t : TypeId) (ox oy : Operand) (a : Int) : closed P (do eqGuard .and t ox oy (.int .u8 a) (.int .u8 127); binOp .and t (.int .u8 a) (.int .u8 127)) = some (.int .u8 (IntKind.wrap .u8 ((BitVec.ofInt 8 a &&& BitVec.ofInt 8 127).toNat : Int))):=by kernel_rfl
theorem c_and64 (P : Program) (t : TypeId) (ox oy : Operand) (a : Int) : closed P (do eqGuard .and t ox oy (.int .u64 a) (.int .u64 1); binOp .and t (.int .u64 a) (.int .u64 1)) = some (.int .u64 (IntKind.wrap .u64 ((BitVec.ofInt 64 a &&& BitVec.ofInt 64 1).toNat : Int))):=by kernel_rfl
theorem c_or64 (P : Program) (t : TypeId) (ox oy : Operand) (a b : Int) : closed P (do eqGuard .or t ox oy (.int .u64 a) (.int .u64 b); binOp .or t (.int .u64 a) (.int .u64 b)) = some (.int .u64 (IntKind.wrap .u64 ((BitVec.ofInt 64 a ||| BitVec.ofInt 64 b).toNat : Int))):=by kernel_rfl
theorem c_shlV (P : Program) (t : TypeId) (ox oy : Operand) (a : Int) (i : Nat) : closed P (do eqGuard .shl t ox oy (.int .u64 a) (.int .i64 (7 * (i : Int))); binOp .shl t (.int .u64 a) (.int .i64 (7 * (i : Int)))) = some (.int .u64 (IntKind.wrap .u64 (a * 2 ^ (min (7 * i) 64)))):=by
  have : (7 * (i : Int)) = ((7 * i : Nat) : Int):=by omega
  rw [this]
  rfl
theorem c_shr1 (P : Program) (t : TypeId) (ox oy : Operand) (a : Int) : closed P (do eqGuard .shr t ox oy (.int .u64 a) (.int .u64 1); binOp .shr t (.int .u64 a) (.int .u64 1)) = some (.int .u64 (a.fdiv 2)):=by kernel_rfl
theorem c_noti (P : Program) (a : Int) : closed P (Op.unary .xor (.int .i64 a)) = some (.int .i64 (IntKind.wrap .i64 ((BitVec.ofInt 64 (-1) ^^^ BitVec.ofInt 64 a).toNat : Int))):=by kernel_rfl
theorem c_cv864 (a : Int) : closed Go.Proofs.Tryz.prog (convert 5 146 (.int .u8 a)) = some (.int .u64 (IntKind.wrap .u64 a)):=by kernel_rfl
theorem c_cv6i (a : Int) : closed Go.Proofs.Tryz.prog (convert 146 2 (.int .u64 a)) = some (.int .i64 (IntKind.wrap .i64 a)):=by kernel_rfl
theorem and127 {c : Int} (h : 0≤c∧c < 256) : IntKind.wrap .u8 ((BitVec.ofInt 8 c &&& BitVec.ofInt 8 127).toNat : Int) = c.tmod 128:=by
  obtain ⟨n,rfl⟩ : ∃ n : Nat,c = n:=⟨c.toNat,by omega⟩
  rw [wrap8_eq,BitVec.toNat_and]
  have h1 : (BitVec.ofInt 8 (n : Int)).toNat = n:=by simp [BitVec.toNat_ofInt]; omega
  have h2 : (BitVec.ofInt 8 127).toNat = 2 ^ 7 - 1:=rfl
  rw [h1,h2,Nat.and_two_pow_sub_one_eq_mod]
  rw [Int.tmod_eq_emod_of_nonneg (by omega)]
  omega
theorem and1 {u : Int} (h : 0≤u∧u < 18446744073709551616) : IntKind.wrap .u64 ((BitVec.ofInt 64 u &&& BitVec.ofInt 64 1).toNat : Int) = u % 2:=by
  have hw : ∀ n : Int,IntKind.wrap .u64 n = n % 18446744073709551616:=fun _=>rfl
  obtain ⟨n,rfl⟩ : ∃ n : Nat,u = n:=⟨u.toNat,by omega⟩
  rw [hw,BitVec.toNat_and]
  have h1 : (BitVec.ofInt 64 (n : Int)).toNat = n:=by simp [BitVec.toNat_ofInt]; omega
  have h2 : (BitVec.ofInt 64 1).toNat = 2 ^ 1 - 1:=rfl
  rw [h1,h2,Nat.and_two_pow_sub_one_eq_mod]
  omega
theorem not_i {n : Int} (h : 0≤n∧n < 9223372036854775808) : IntKind.wrap .i64 ((BitVec.ofInt 64 (-1) ^^^ BitVec.ofInt 64 n).toNat : Int) = -n - 1:=by
  obtain ⟨m,rfl⟩ : ∃ m : Nat,n = m:=⟨n.toNat,by omega⟩
  have h0 : BitVec.ofInt 64 (-1) = BitVec.allOnes 64:=by decide
  have h1 : (BitVec.ofInt 64 (m : Int)).toNat = m:=by simp [BitVec.toNat_ofInt]; omega
  rw [h0,BitVec.allOnes_xor,BitVec.toNat_not,h1]
  have hw : ∀ k : Nat,9223372036854775808≤k→k < 18446744073709551616→IntKind.wrap .i64 (k : Int) = (k : Int) - 18446744073709551616:=fun k h1 h2=>by
    unfold IntKind.wrap
    simp only [IntKind.bits,IntKind.signed]
    simp
    omega
  rw [hw _ (by omega) (by omega)]
  omega
theorem orS_bnd (u c : Int) (i : Nat) : 0≤orS u c i∧orS u c i < 18446744073709551616:=wrap64_bnd _
section
variable {X : Cx} {S : St} {rb lo hi : Nat} {v : AV} {q : List Int} {e : Int}
theorem w_FailR (h : On X) (hr : RdAt false S rb lo hi v q e) (x : Int) : wpF X 94 [.ptr rb 0,iA x] S fun r S'=>r = .ret (.tup [])∧RdAt false S' rb lo hi v q (if decide (e = 0) then x else e)∧Only rb S S':=by
  refine wpF_intro (fn:=v_words_Reader_Fail) (by rw [h.F]; rfl) ?_
  have x1:=hr.x
  cases h0 : decide (e = 0)
  · simp only [v_words_Reader_Fail,x1,h0,kB,kZ,kD,kE,xp,xj,xn,xe,xf,xh,xi,xm,xl,xk,reduceIte,reduceCtorEq,yd,yc,xv]
    exact ⟨hr,Agree.refl _ _⟩
  · obtain ⟨S2,hp,h2,h3⟩:=hr.setE x
    simp only [v_words_Reader_Fail,x1,h0,hp,kB,kZ,kD,kE,xp,xj,xn,xe,xf,xh,xi,xm,xl,xk,reduceIte,reduceCtorEq,yd,yc,xv]
    exact ⟨h2,h3⟩
theorem callFail {K : Env→St→Post3→Prop} {Q : Post3} {dst : Option Nat} {env : Env} (h : On X) (hr : RdAt false S rb lo hi v q e) {x : Int} (hK : ∀ S',RdAt false S' rb lo hi v q (if decide (e = 0) then x else e)→Only rb S S'→K (env.put dst (.tup [])) S' Q) : callO X 94 [.ptr rb 0,iA x] dst [] K env S Q:=by
  refine wpF.mono (w_FailR h hr x) ?_
  rintro r S' ⟨rfl,h1,h2⟩
  exact ⟨keptA_nil _ _ _,hK S' h1 h2⟩
set_option maxHeartbeats 2000000 in
theorem w_NumR (h : On X) (hr : RdAt false S rb lo hi v q e) : wpF X 95 [.ptr rb 0] S fun r S'=>∃ n v' q' e',r = .ret (iA n)∧RdAt false S' rb lo hi v' q' e'∧Only rb S S'∧Did rdN q e n q' e':=by
  refine wpF_intro (fn:=v_words_Reader_Number) (by rw [h.F]; rfl) ?_
  have cv8 : ∀ a,closed X.P (convert 5 146 (.int .u8 a)) = some (.int .u64 (IntKind.wrap .u64 a)):=fun a=>by rw [h.P]; exact c_cv864 a
  have cvi : ∀ a,closed X.P (convert 146 2 (.int .u64 a)) = some (.int .i64 (IntKind.wrap .i64 a)):=fun a=>by rw [h.P]; exact c_cv6i a
  have x1:=hr.x
  have l1:=hr.arr.len
  simp only [List.length_map] at l1
  have hql:=hr.len
  simp only [v_words_Reader_Number,x1,l1,kB,kZ,kD,kE,xp,xj,xn,xe,xf,xh,xi,xm,xl,xk,reduceIte,reduceCtorEq,yd,yc,xv]
  refine anyLoop (mB m0) (fun e1 s=>S = s∧e1 0 = .ptr rb 0∧numD 0 0 q = none) ?_ ?_
  · refine loop_inv (fun n e1 s=>∃ (i : Nat) (u : Int),i + n = q.length∧i≤9∧S = s∧e1 0 = .ptr rb 0∧e1 3 = .sc (.int .u64 u)∧e1 4 = iA (7 * (i : Int))∧e1 11 = v∧e1 12 = iA q.length∧e1 13 = iA i∧(0≤u∧u < 18446744073709551616)∧numD 0 0 q = numD i u (q.drop i)) ?_ q.length ?_
    case refine_2=>exact ⟨0,0,by omega,by omega,rfl,rfl,rfl,rfl,rfl,rfl,rfl,by decide,rfl⟩
    rintro n e1 s ⟨i,u,hin,hi9,rfl,k0,k3,k4,k11,k12,k13,hu,hD⟩
    simp only [k0,k3,k4,k11,k12,k13,kB,kZ,kD,kE,xp,xj,xn,xe,xf,xh,xi,xm,xl,xk,reduceIte,reduceCtorEq,yd,yc,xv]
    refine condO_intro ?_ ?_<;>intro hc
    · have hil : i < q.length:=by have:=of_decide_eq_true hc; omega
      obtain ⟨b1,o1,he1,_,ha1,_⟩:=hr.arr.get i (by simpa using hil)
      have p1:=ha1 [] 0 (by omega)
      simp only [List.getElem_map,Nat.add_zero,List.append_nil,List.getElem?_cons_zero] at p1
      have hrg:=hr.rng _ (List.getElem_mem hil)
      rw [List.drop_eq_getElem_cons hil] at hD
      have hdr:=List.drop_eq_getElem_cons hil
      obtain ⟨c,hcE⟩ : ∃ c,q[i] = c:=⟨_,rfl⟩
      rw [hcE] at hD hrg p1
      have hs7 : decide (7 * (i : Int) = 63) = decide (i = 9):=decide_eq_decide.2 (by omega)
      have hs0 : decide (0 < (i : Int)) = decide (0 < i):=decide_eq_decide.2 (by omega)
      have hwr : IntKind.wrap .i64 ((i : Int) + 1) = ((i + 1 : Nat) : Int):=by rw [wrap_small (by omega) (by omega)]; omega
      have hw7 : IntKind.wrap .i64 (7 * (i : Int) + 7) = 7 * ((i + 1 : Nat) : Int):=by rw [wrap_small (by omega) (by omega)]; omega
      have hor : IntKind.wrap .u64 ((BitVec.ofInt 64 u ||| BitVec.ofInt 64 (IntKind.wrap .u64 (IntKind.wrap .u64 (IntKind.wrap .u8 ((BitVec.ofInt 8 c &&& BitVec.ofInt 8 127).toNat : Int)) * 2 ^ (min (7 * i) 64)))).toNat : Int) = orS u c i:=by
        have hm : min (7 * i) 64 = 7 * i:=by omega
        have h2 : IntKind.wrap .u64 (c.tmod 128) = c.tmod 128:=by
          have hw : ∀ n : Int,IntKind.wrap .u64 n = n % 18446744073709551616:=fun _=>rfl
          rw [hw,Int.tmod_eq_emod_of_nonneg (by omega)]
          omega
        rw [and127 hrg,hm,h2]
        rfl
      have hob:=orS_bnd u c i
      obtain ⟨stop,hst⟩ : ∃ stop,((decide (i = 9) && decide (1 < c)) || (decide (0 < i) && decide (c = 0))) = stop:=⟨_,rfl⟩
      have hD' : numD 0 0 q = if stop then none else if decide (c < 128) then some (orS u c i,q.drop (i + 1)) else numD (i + 1) (orS u c i) (q.drop (i + 1)):=by
        rw [hD,← hst]
        rfl
      have h11:=k11
      simp only [k0,k3,k4,k11,k12,k13,he1,p1,hs7,hs0,kB,kZ,kD,kE,xp,xj,xn,xe,xf,xh,xi,xm,xl,xk,reduceIte,reduceCtorEq,yd,yc,xv]
      refine anyG (mS m0) (fun e2 s=>S = s∧e2 0 = .ptr rb 0∧e2 3 = .sc (.int .u64 u)∧e2 4 = iA (7 * (i : Int))∧e2 5 = iA i∧e2 6 = .sc (.int .u8 c)∧e2 11 = v∧e2 12 = iA q.length∧e2 13 = iA i∧stop = false) ?_ ?_
      · clear hD hor
        cases h9 : decide (i = 9)<;>cases h1 : decide (1 < c)<;>cases hi0 : decide (0 < i)<;>cases hc0 : decide (c = 0) <;>
          (rw [h9,h1,hi0,hc0] at hst
           subst hst
           simp only [k0,k3,k4,k11,k12,k13,h9,h1,hi0,hc0,hs7,hs0,kB,kZ,kD,kE,xp,xj,xn,xe,xf,xh,xi,xm,xl,xk,reduceIte,reduceCtorEq,yd,yc,xv]
           first | done | exact ⟨rfl,hD'⟩ | exact hD')
      clear k0 k3 k4 k11 k12 k13 he1
      rintro e2 s ⟨rfl,k0,k3,k4,k5,k6,k11,k12,k13,rfl⟩
      simp only [Bool.false_eq_true,if_false] at hD'
      simp only [k0,k3,k4,k5,k6,c_and8,c_shlV,c_or64,cv8,hor,hw7,kB,kZ,kD,kE,xp,xj,xn,xe,xf,xh,xi,xm,xl,xk,reduceIte,reduceCtorEq,yd,yc,xv]
      refine condO_intro ?_ ?_<;>intro hc2
      · rw [if_pos hc2] at hD'
        simp only [k0,k5,k6,x1,hwr,kB,kZ,kD,kE,xp,xj,xn,xe,xf,xh,xi,xm,xl,xk,reduceIte,reduceCtorEq,yd,yc,xv]
        refine opR_suf (vx:=v) (n:=i + 1) (by simp only [kB,kZ,kD,kE,xp,xj,xn,xe,xf,xh,xi,xm,xl,xk,reduceIte,reduceCtorEq,yd,yc,xv]) (by simp only [kB,kZ,kD,kE,xp,xj,xn,xe,xf,xh,xi,xm,xl,xk,reduceIte,reduceCtorEq,yd,yc,xv]; rw [if_pos (by omega)]) hr.arr (by simp; omega) ?_
        intro w hw hbw
        rw [←List.map_drop] at hw
        obtain ⟨S2,hp,h2,h3⟩:=hr.setB hw (by rw [hbw]; exact hr.ne) (fun b hb=>List.mem_of_mem_drop hb) (by simp)
        refine ⟨keptA_nil _ _ _,?_⟩
        have hcl:=cellsOf_len hw.len
        have hfd : (orS u c i).fdiv 2 = orS u c i / 2:=Int.fdiv_eq_ediv_of_nonneg _ (by omega)
        have hwi : IntKind.wrap .i64 (orS u c i / 2) = orS u c i / 2:=wrap_small (by omega) (by omega)
        simp only [k0,k5,k6,hp,hcl,c_shr1,cvi,c_and64,and1 hob,hfd,hwi,kB,kZ,kD,kE,xp,xj,xn,xe,xf,xh,xi,xm,xl,xk,reduceIte,reduceCtorEq,yd,yc,xv]
        cases ho : decide (orS u c i % 2 = 1)
        · simp only [ho,kB,kZ,kD,kE,xp,xj,xn,xe,xf,xh,xi,xm,xl,xk,reduceIte,reduceCtorEq,yd,yc,xv]
          refine ⟨_,w,_,e,rfl,h2,h3,Did.done fun _=>?_⟩
          unfold rdN
          rw [hD']
          simp only [sgnD,ho,Bool.false_eq_true,if_false]
        · simp only [ho,c_noti,not_i (n:=orS u c i / 2) ⟨by omega,by omega⟩,kB,kZ,kD,kE,xp,xj,xn,xe,xf,xh,xi,xm,xl,xk,reduceIte,reduceCtorEq,yd,yc,xv]
          refine ⟨_,w,_,e,rfl,h2,h3,Did.done fun _=>?_⟩
          unfold rdN
          rw [hD']
          simp only [sgnD,ho,if_true]
      · have hc3:=of_decide_eq_false hc2
        rw [hc2] at hD'
        simp only [Bool.false_eq_true,if_false] at hD'
        simp only [k0,k5,k6,k11,k12,k13,hwr,kB,kZ,kD,kE,xp,xj,xn,xe,xf,xh,xi,xm,xl,xk,reduceIte,reduceCtorEq,yd,yc,xv]
        have h9 : i≠9:=fun e9=>by
          rw [decide_eq_true e9,decide_eq_true (by omega : 1 < c)] at hst
          simp at hst
        exact ⟨n - 1,by omega,i + 1,orS u c i,by omega,by omega,rfl,rfl,rfl,hob,hD'⟩
    · have hi2 : i = q.length:=by have:=of_decide_eq_false hc; omega
      subst hi2
      rw [List.drop_length] at hD
      simp only [k0,kB,kZ,kD,kE,xp,xj,xn,xe,xf,xh,xi,xm,xl,xk,reduceIte,reduceCtorEq,yd,yc,xv]
      first | exact ⟨rfl,hD⟩ | exact hD
  rintro e1 s ⟨rfl,k0,hD⟩
  simp only [k0,kB,kZ,kD,kE,xp,xj,xn,xe,xf,xh,xi,xm,xl,xk,reduceIte,reduceCtorEq,yd,yc,xv]
  refine callFail h hr ?_
  intro S' h1 h2
  simp only [kB,kZ,kD,kE,xp,xj,xn,xe,xf,xh,xi,xm,xl,xk,reduceIte,reduceCtorEq,yd,yc,xv]
  refine ⟨_,_,_,_,rfl,h1,h2,Did.fail (by decide) fun _=>?_⟩
  unfold rdN
  rw [hD]
end
end Go.VX.Seat
end
section
set_option maxRecDepth 4000
namespace Go.VX.Seat
open Go.Proofs
theorem Sp.start {α : Type} (m : Rd α) (q0 : List Int) (e0 : Int) : Sp (if decide (e0 = 0) then m q0 else .error e0) e0 q0 m where
  ok:=fun h=>by rw [decide_eq_true h]; rfl
  bad:=fun h=>by rw [decide_eq_false h]; rfl
theorem Did.ofSp {α : Type} {m : Rd α} {q0 q' : List Int} {e0 e' : Int} {o : α} {k : Rd α} (h : Sp (if decide (e0 = 0) then m q0 else .error e0) e' q' k) (hk : e' = 0→k q' = .ok (o,q')) : Did m q0 e0 o q' e' where
  ok:=fun h0=>by
    have h1:=h.ok h0
    rw [hk h0] at h1
    by_cases h2 : e0 = 0
    · rw [decide_eq_true h2] at h1; exact ⟨h2,h1⟩
    · rw [decide_eq_false h2] at h1; cases h1
  bad:=fun h0=>by
    have h1:=h.bad h0
    by_cases h2 : e0 = 0
    · rw [decide_eq_true h2] at h1; exact .inr ⟨h2,h1⟩
    · rw [decide_eq_false h2] at h1
      have h3 : (Except.error e0 : Except Int (α × List Int)) = .error e':=h1
      exact .inl ⟨h2,by injection h3 with h3; exact h3.symm⟩
theorem Sp.to {β : Type} {T : Except Int β} {e x : Int} {q q' : List Int} {k k' : List Int→Except Int β} (h : Sp T e q k) (he : e = 0) (hx : x≠0) (hk : k q = .error x) : Sp T x q' k':=⟨fun h0=>absurd h0 hx,fun _=>by rw [h.ok he,hk]⟩
theorem Sp.stay {β : Type} {T : Except Int β} {e : Int} {q q' : List Int} {k k' : List Int→Except Int β} (h : Sp T e q k) (he : e≠0) : Sp T e q' k':=⟨fun h0=>absurd h0 he,h.bad⟩
theorem Sp.cast {β : Type} {T : Except Int β} {e : Int} {q : List Int} {k k' : List Int→Except Int β} (h : Sp T e q k) (hk : k q = k' q) : Sp T e q k':=⟨fun h0=>by rw [h.ok h0,hk],h.bad⟩
section
variable {X : Cx} {S : St} {rb lo hi : Nat} {v : AV} {q : List Int} {e : Int}
theorem callNum {K : Env→St→Post3→Prop} {Q : Post3} {dst : Option Nat} {keep : List VOpd} {env : Env} (h : On X) (hr : RdAt false S rb lo hi v q e) (hk : ∀ S',Only rb S S'→keptA env S S' keep = true)
    (hK : ∀ n v' q' e' S',RdAt false S' rb lo hi v' q' e'→Only rb S S'→Did rdN q e n q' e'→K (env.put dst (iA n)) S' Q) : callO X 95 [.ptr rb 0] dst keep K env S Q:=by
  refine wpF.mono (w_NumR h hr) ?_
  rintro r S' ⟨n,v',q',e',rfl,h1,h2,h3⟩
  exact ⟨hk _ h2,hK _ _ _ _ _ h1 h2 h3⟩
theorem w_IntR (h : On X) (hr : RdAt false S rb lo hi v q e) : wpF X 51 [.ptr rb 0] S fun r S'=>∃ n v' q' e',r = .ret (iA n)∧RdAt false S' rb lo hi v' q' e'∧Only rb S S'∧Did rdN q e n q' e':=by
  refine wpF_intro (fn:=v_words_Reader_Int) (by rw [h.F]; rfl) ?_
  simp only [v_words_Reader_Int,kB,kZ,kD,kE,xp,xj,xn,xe,xf,xh,xi,xm,xl,xk,reduceIte,reduceCtorEq,yd,yc,xv]
  refine callNum h hr (fun _ _=>keptA_nil _ _ _) ?_
  intro n v' q' e' S' h1 h2 h3
  simp only [kB,kZ,kD,kE,xp,xj,xn,xe,xf,xh,xi,xm,xl,xk,reduceIte,reduceCtorEq,yd,yc,xv]
  exact ⟨_,_,_,_,rfl,h1,h2,h3⟩
theorem callInt {K : Env→St→Post3→Prop} {Q : Post3} {dst : Option Nat} {keep : List VOpd} {env : Env} (h : On X) (hr : RdAt false S rb lo hi v q e) (hk : ∀ S',Only rb S S'→keptA env S S' keep = true)
    (hK : ∀ n v' q' e' S',RdAt false S' rb lo hi v' q' e'→Only rb S S'→Did rdN q e n q' e'→K (env.put dst (iA n)) S' Q) : callO X 51 [.ptr rb 0] dst keep K env S Q:=by
  refine wpF.mono (w_IntR h hr) ?_
  rintro r S' ⟨n,v',q',e',rfl,h1,h2,h3⟩
  exact ⟨hk _ h2,hK _ _ _ _ _ h1 h2 h3⟩
theorem w_CountR (h : On X) (hr : RdAt false S rb lo hi v q e) (m : Int) (hm : 0≤m) : wpF X 50 [.ptr rb 0,iA m] S fun r S'=>∃ n v' q' e',r = .ret (iA n)∧RdAt false S' rb lo hi v' q' e'∧Only rb S S'∧Did (rdC m) q e n q' e'∧0≤n∧n≤m:=by
  refine wpF_intro (fn:=v_words_Reader_Count) (by rw [h.F]; rfl) ?_
  simp only [v_words_Reader_Count,kB,kZ,kD,kE,xp,xj,xn,xe,xf,xh,xi,xm,xl,xk,reduceIte,reduceCtorEq,yd,yc,xv]
  refine callNum h hr (fun _ _=>keptA_nil _ _ _) ?_
  intro n v1 q1 e1 S1 r1 o1 d1
  have s1:=(Sp.start (rdC m) q e).step d1
  have x1:=r1.x
  simp only [x1,kB,kZ,kD,kE,xp,xj,xn,xe,xf,xh,xi,xm,xl,xk,reduceIte,reduceCtorEq,yd,yc,xv]
  cases h0 : decide (e1 = 0)
  · have hne : decide (e1≠0) = true:=decide_eq_true (of_decide_eq_false h0)
    simp only [x1,h0,hne,kB,kZ,kD,kE,xp,xj,xn,xe,xf,xh,xi,xm,xl,xk,reduceIte,reduceCtorEq,yd,yc,xv]
    exact ⟨_,_,_,_,rfl,r1,o1,Did.ofSp s1 (fun h1=>absurd h1 (of_decide_eq_false h0)),by omega,hm⟩
  have he1:=of_decide_eq_true h0
  subst he1
  have n0 : decide ((0 : Int)≠0) = false:=by decide
  have e40 : decide ((4 : Int) = 0) = false:=by decide
  have e41 : decide ((4 : Int)≠0) = true:=by decide
  have e30 : decide ((3 : Int) = 0) = false:=by decide
  have e31 : decide ((3 : Int)≠0) = true:=by decide
  cases hn : decide (n < 0)
  · cases hg : decide (m < n)
    · simp only [x1,h0,hn,hg,n0,kB,kZ,kD,kE,xp,xj,xn,xe,xf,xh,xi,xm,xl,xk,reduceIte,reduceCtorEq,yd,yc,xv]
      refine ⟨_,_,_,_,rfl,r1,o1,Did.ofSp s1 (fun _=>?_),by have:=of_decide_eq_false hn; omega,by have:=of_decide_eq_false hg; omega⟩
      simp only [hn,hg,Bool.false_eq_true,if_false]
    · simp only [x1,h0,hn,hg,n0,kB,kZ,kD,kE,xp,xj,xn,xe,xf,xh,xi,xm,xl,xk,reduceIte,reduceCtorEq,yd,yc,xv]
      refine callFail h r1 ?_
      intro S2 r2 o2
      rw [h0,if_pos rfl] at r2
      have x2:=r2.x
      simp only [x2,e30,e31,kB,kZ,kD,kE,xp,xj,xn,xe,xf,xh,xi,xm,xl,xk,reduceIte,reduceCtorEq,yd,yc,xv]
      refine ⟨_,_,_,_,rfl,r2,o1.trans' o2,Did.ofSp (k:=rdC m) (s1.to rfl (by decide) ?_) (fun h1=>absurd h1 (by decide)),by omega,hm⟩
      simp only [hn,hg,Bool.false_eq_true,if_false,if_true]
  · simp only [x1,h0,hn,n0,kB,kZ,kD,kE,xp,xj,xn,xe,xf,xh,xi,xm,xl,xk,reduceIte,reduceCtorEq,yd,yc,xv]
    refine callFail h r1 ?_
    intro S2 r2 o2
    rw [h0,if_pos rfl] at r2
    have x2:=r2.x
    simp only [x2,e40,e41,kB,kZ,kD,kE,xp,xj,xn,xe,xf,xh,xi,xm,xl,xk,reduceIte,reduceCtorEq,yd,yc,xv]
    refine ⟨_,_,_,_,rfl,r2,o1.trans' o2,Did.ofSp (k:=rdC m) (s1.to rfl (by decide) ?_) (fun h1=>absurd h1 (by decide)),by omega,hm⟩
    simp only [hn,if_true]
theorem callCount {K : Env→St→Post3→Prop} {Q : Post3} {dst : Option Nat} {env : Env} (h : On X) (hr : RdAt false S rb lo hi v q e) {m : Int} (hm : 0≤m)
    (hK : ∀ n v' q' e' S',RdAt false S' rb lo hi v' q' e'→Only rb S S'→Did (rdC m) q e n q' e'→0≤n→n≤m→K (env.put dst (iA n)) S' Q) : callO X 50 [.ptr rb 0,iA m] dst [] K env S Q:=by
  refine wpF.mono (w_CountR h hr m hm) ?_
  rintro r S' ⟨n,v',q',e',rfl,h1,h2,h3,h4,h5⟩
  exact ⟨keptA_nil _ _ _,hK _ _ _ _ _ h1 h2 h3 h4 h5⟩
def endE (q : List Int) (e : Int) : Int:=if decide (0 < (q.length : Int)) then (if decide (e = 0) then 4 else e) else e
theorem callEnd {K : Env→St→Post3→Prop} {Q : Post3} {dst : Option Nat} {env : Env} (h : On X) (hr : RdAt false S rb lo hi v q e)
    (hK : ∀ S',RdAt false S' rb lo hi v q (endE q e)→Only rb S S'→K (env.put dst (.tup [])) S' Q) : callO X 53 [.ptr rb 0] dst [] K env S Q:=by
  suffices hs : wpF X 53 [.ptr rb 0] S fun r S'=>r = .ret (.tup [])∧RdAt false S' rb lo hi v q (endE q e)∧Only rb S S' by
    refine wpF.mono hs ?_
    rintro r S' ⟨rfl,h1,h2⟩
    exact ⟨keptA_nil _ _ _,hK S' h1 h2⟩
  refine wpF_intro (fn:=v_words_Reader_End) (by rw [h.F]; rfl) ?_
  have x1:=hr.x
  have l1:=hr.arr.len
  simp only [List.length_map] at l1
  unfold endE
  simp only [v_words_Reader_End,x1,l1,kB,kZ,kD,kE,xp,xj,xn,xe,xf,xh,xi,xm,xl,xk,reduceIte,reduceCtorEq,yd,yc,xv]
  refine condO_intro ?_ ?_<;>intro hc
  · simp only [hc,kB,kZ,kD,kE,xp,xj,xn,xe,xf,xh,xi,xm,xl,xk,reduceIte,reduceCtorEq,yd,yc,xv]
    refine callFail h hr ?_
    intro S' h1 h2
    simp only [kB,kZ,kD,kE,xp,xj,xn,xe,xf,xh,xi,xm,xl,xk,reduceIte,reduceCtorEq,yd,yc,xv]
    exact ⟨h1,h2⟩
  · simp only [hc,kB,kZ,kD,kE,xp,xj,xn,xe,xf,xh,xi,xm,xl,xk,reduceIte,reduceCtorEq,yd,yc,xv]
    exact ⟨hr,Agree.refl _ _⟩
end
end Go.VX.Seat
end
section
set_option maxRecDepth 4000
namespace Go.VX.Seat
open Go.Proofs
structure OpS (r : Bool) (S T : St) (rb lo hi : Nat) (v : AV) (q : List Int) (e : Int) (xb : Nat) (o : OpV) : Prop where
  rd : RdAt r T rb lo hi v q e
  on : Only rb S T
  res : ∃ ver,T[S.length]? = some ⟨(op0 0 0).row,0,ver⟩
  bx : ∃ ver,T[xb]? = some ⟨o.row,0,ver⟩
  hx : S.length < xb
  lt : rb < S.length
section
variable {r : Bool} {S T T' : St} {rb lo hi xb : Nat} {v v' : AV} {q q' : List Int} {e e' : Int} {o : OpV}
theorem OpS.grow (h : OpS r S T rb lo hi v q e xb o) (L : St) : OpS r S (T++L) rb lo hi v q e xb o where
  rd:=h.rd.grow L
  on:=(h.on.trans (Agree.app (fun n=>n = rb) T L)).mono fun _ _ x=>x.elim id id
  res:=let ⟨ver,hb⟩:=h.res; ⟨ver,by rw [List.getElem?_append_left (List.getElem?_eq_some_iff.1 hb).1]; exact hb⟩
  bx:=let ⟨ver,hb⟩:=h.bx; ⟨ver,by rw [List.getElem?_append_left (List.getElem?_eq_some_iff.1 hb).1]; exact hb⟩
  hx:=h.hx
  lt:=h.lt
theorem OpS.read (h : OpS r S T rb lo hi v q e xb o) (rr : RdAt r T' rb lo hi v' q' e') (a : Only rb T T') : OpS r S T' rb lo hi v' q' e' xb o where
  rd:=rr
  on:=h.on.trans' a
  res:=let ⟨ver,hb⟩:=h.res; ⟨ver,a.box hb (by have:=h.lt; omega)⟩
  bx:=let ⟨ver,hb⟩:=h.bx; ⟨ver,a.box hb (by have:=h.lt; have:=h.hx; omega)⟩
  hx:=h.hx
  lt:=h.lt
theorem OpS.put (h : OpS r S T rb lo hi v q e xb o) {k : Nat} {n : Int} {o' : OpV} (hk : k < 7) (hs : splice o.row k [iA n] = o'.row) : ∃ T',St.put T xb k [iA n] = some T'∧OpS r S T' rb lo hi v q e xb o'∧Agree (fun n=>n = xb) T T':=by
  obtain ⟨ver,hb⟩:=h.bx
  have h1:=h.lt
  have h2:=h.hx
  have hput:=put_box (o:=k) (vs:=[iA n]) hb (by simp [OpV.row]; omega) rfl
  have hag:=Agree.set T xb ⟨splice o.row k [iA n],0,ver + 1⟩
  refine ⟨_,hput,⟨h.rd.agree hag fun b hb e=>by omega,?_,?_,⟨ver + 1,?_⟩,h2,h1⟩,hag⟩
  · exact (h.on.trans hag).mono fun n hn hx=>by
      rcases hx with hx | hx
      · exact hx
      · omega
  · obtain ⟨ver2,hr⟩:=h.res
    exact ⟨ver2,hag.box hr (by omega)⟩
  · rw [List.getElem?_set_self (List.getElem?_eq_some_iff.1 hb).1,hs]
theorem OpS.out (h : OpS r S T rb lo hi v q e xb o) (o' : OpV) : ∃ T',St.put T (S.length + 0) 0 o'.row = some T'∧RdAt r T' rb lo hi v q e∧Only rb S T'∧St.atN T' (S.length + 0) 0 7 = some o'.row:=by
  rw [Nat.add_zero]
  obtain ⟨ver,hb⟩:=h.res
  have h1:=h.lt
  have hput:=put_box (o:=0) (vs:=o'.row) hb (by simp [OpV.row]) rfl
  have hag:=Agree.set T S.length ⟨splice (op0 0 0).row 0 o'.row,0,ver + 1⟩
  refine ⟨_,hput,h.rd.agree hag fun b hb e=>by omega,?_,?_⟩
  · exact (h.on.trans hag).mono fun n hn hx=>by
      rcases hx with hx | hx
      · exact hx
      · omega
  · have hb2 : (T.set S.length ⟨splice (op0 0 0).row 0 o'.row,0,ver + 1⟩)[S.length]? = some ⟨o'.row,0,ver + 1⟩:=by
      rw [List.getElem?_set_self (List.getElem?_eq_some_iff.1 hb).1]
      rfl
    rw [atN_box hb2 (by decide) 0 7 (by simp [OpV.row])]
    rfl
theorem OpS.x (h : OpS r S T rb lo hi v q e xb o) : (∀ k,St.at1 T xb k = o.row[k]?)∧St.atN T xb 0 7 = some o.row:=by
  obtain ⟨ver,hb⟩:=h.bx
  refine ⟨fun k=>at1_box hb (by decide) k,?_⟩
  rw [atN_box hb (by decide) 0 7 (by simp [OpV.row])]
  rfl
theorem OpS.bo (h : OpS r S T rb lo hi v q e xb o) : BoxAt T xb o.row:=let ⟨_,hb⟩:=h.bx; BoxAt.of (m:=0) hb (by decide)
end
theorem GB.only {S T : St} {rb : Nat} (h : GB S) (a : Only rb S T) (hr : glS.length≤rb) : GB T:=fun j x hx=>a.box (h j x hx) (by have:=(List.getElem?_eq_some_iff.1 hx).1; omega)
theorem setF_k (o : OpV) (k : Nat) (n : Int) : (setF o k n).k = o.k:=by unfold setF; split<;>(try split)<;>(try split)<;>rfl
theorem setF_row (o : OpV) {k : Nat} (n : Int) (hk : k = 1∨k = 2∨k = 3∨k = 4) : splice o.row k [iA n] = (setF o k n).row:=by
  rcases hk with rfl | rfl | rfl | rfl<;>rfl
theorem regsO_mem (o : OpV) : ∀ k ∈ regsO o,k = 1∨k = 2∨k = 3∨k = 4:=fun k hk=>by
  unfold regsO at hk
  rcases List.mem_append.1 hk with hk | hk
  · split at hk
    · exact .inl (List.mem_singleton.1 hk)
    · cases hk
  · have:=List.mem_of_mem_take hk
    simp at this
    omega
theorem bind_as {α β γ : Type} (x : Except Int α) (f : α→Except Int β) (g : β→Except Int γ) : (x.bind f).bind g = x.bind fun a=>(f a).bind g:=by cases x<;>rfl
theorem rdFlds_cons (k : Nat) (r : List Nat) (o : OpV) : rdFlds (k :: r) o = fun q=>(rdN q).bind fun x=>rdFlds r (setF o k x.1) x.2:=rfl
section
variable {X : Cx} {S : St} {rb lo hi : Nat} {v : AV} {q : List Int} {e : Int}
set_option maxHeartbeats 4000000 in
theorem w_opR (h : On X) (hg : GB S) (hrb : glS.length≤rb) (hr : RdAt false S rb lo hi v q e) :
    wpF X 52 [.ptr rb 0] S fun r S'=>∃ (o : OpV) (v' : AV) (q' : List Int) (e' : Int),r = .ret (.agg o.row)∧RdAt false S' rb lo hi v' q' e'∧Only rb S S'∧Did rdOp q e o q' e':=by
  refine wpF_go (fn:=v_words_Reader_op) (by rw [h.F]; rfl) ?_
  have hrl:=hr.lt
  simp only [v_words_Reader_op,kB,kZ,kD,kE,xp,xj,xn,xe,xf,xh,xi,xm,xl,xk,reduceIte,reduceCtorEq,yd,yc,xv]
  refine callInt h (hr.grow _) (fun _ _=>keptA_nil _ _ _) ?_
  intro n1 v1 q1 e1 S1 r1 o1 d1
  have s1:=(Sp.start rdOp q e).step d1
  have hS1:=o1.len
  simp at hS1
  simp only [kB,kZ,kD,kE,xp,xj,xn,xe,xf,xh,xi,xm,xl,xk,reduceIte,reduceCtorEq,yd,yc,xv]
  have hO : OpS false S (S1++[⟨[iA n1,iA 0,iA 0,iA 0,iA 0,iA 0,iA 0],0,1⟩]) rb lo hi v1 q1 e1 S1.length (op0 n1 0):={
    rd:=r1.grow _
    on:=(((Agree.app (fun _=>False) S [_]).trans o1).trans (Agree.app (fun _=>False) S1 _)).mono fun n _ x=>by
      rcases x with (x | x) | x
      · exact x.elim
      · exact x
      · exact x.elim
    res:=⟨0,by
      rw [List.getElem?_append_left (by omega)]
      exact o1.box (by simp; rfl) (by omega)⟩
    bx:=⟨1,by simp; rfl⟩
    hx:=by omega
    lt:=hrl }
  obtain ⟨xb,hxb⟩ : ∃ xb,S1.length = xb:=⟨_,rfl⟩
  rw [hxb] at hO
  rw [hxb]
  generalize (S1++[⟨[iA n1,iA 0,iA 0,iA 0,iA 0,iA 0,iA 0],0,1⟩] : St) = T at *
  clear hS1 r1 o1 d1 hxb
  have x1:=hO.rd.x
  have y1:=hO.x.1
  simp only [OpV.row,op0] at y1
  have zrow : (op0 0 0).row = [iA 0,iA 0,iA 0,iA 0,iA 0,iA 0,iA 0]:=rfl
  simp only [x1,kB,kZ,kD,kE,xp,xj,xn,xe,xf,xh,xi,xm,xl,xk,reduceIte,reduceCtorEq,yd,yc,xv]
  cases h0 : decide (e1 = 0)
  · have hne : decide (e1≠0) = true:=decide_eq_true (of_decide_eq_false h0)
    obtain ⟨T2,hp,hr2,hon2,ha2⟩:=hO.out (op0 0 0)
    rw [zrow] at hp ha2
    simp only [x1,h0,hne,hp,ha2,kB,kZ,kD,kE,xp,xj,xn,xe,xf,xh,xi,xm,xl,xk,reduceIte,reduceCtorEq,yd,yc,xv]
    exact ⟨op0 0 0,_,_,_,rfl,hr2,hon2,Did.ofSp s1 (fun h1=>absurd h1 (of_decide_eq_false h0))⟩
  have he1:=of_decide_eq_true h0
  subst he1
  have n0 : decide ((0 : Int)≠0) = false:=by decide
  have e41 : decide ((4 : Int)≠0) = true:=by decide
  cases hkd : decide (n1 < 1) || decide (28 < n1)
  case true =>
    have hfin : ∀ (T2 : St),OpS false S T2 rb lo hi v1 q1 4 xb (op0 n1 0)→∃ T3,St.put T2 (S.length + 0) 0 [iA 0,iA 0,iA 0,iA 0,iA 0,iA 0,iA 0] = some T3∧RdAt false T3 rb lo hi v1 q1 4∧Only rb S T3∧St.atN T3 (S.length + 0) 0 7 = some [iA 0,iA 0,iA 0,iA 0,iA 0,iA 0,iA 0]∧Did rdOp q e (op0 0 0) q1 4:=fun T2 hO2=>by
      obtain ⟨T3,hp,hr2,hon2,ha2⟩:=hO2.out (op0 0 0)
      refine ⟨T3,hp,hr2,hon2,ha2,Did.ofSp (k:=rdOp) (s1.to rfl (by decide) ?_) (fun h1=>absurd h1 (by decide))⟩
      simp only [hkd,if_true]
    clear s1
    have hgo : ∀ (K : St→Prop),(∀ T2,OpS false S T2 rb lo hi v1 q1 4 xb (op0 n1 0)→K T2)→∀ T2,RdAt false T2 rb lo hi v1 q1 (if decide ((0 : Int) = 0) then 4 else 0)→Only rb T T2→K T2:=fun K hK T2 r2 o2=>hK T2 (hO.read r2 o2)
    cases hk1 : decide (n1 < 1)
    · have hk2 : decide (28 < n1) = true:=by rw [hk1] at hkd; simpa using hkd
      simp only [x1,y1,h0,hk1,hk2,kB,kZ,kD,kE,xp,xj,xn,xe,xf,xh,xi,xm,xl,xk,reduceIte,reduceCtorEq,yd,yc,xv]
      refine callFail h hO.rd (hgo _ ?_)
      intro T2 hO2
      obtain ⟨T3,hp,hr3,hon3,ha3,hD⟩:=hfin T2 hO2
      have x2:=hO2.rd.x
      simp only [x2,e41,hp,ha3,kB,kZ,kD,kE,xp,xj,xn,xe,xf,xh,xi,xm,xl,xk,reduceIte,reduceCtorEq,yd,yc,xv]
      exact ⟨op0 0 0,_,_,_,rfl,hr3,hon3,hD⟩
    · simp only [x1,y1,h0,hk1,kB,kZ,kD,kE,xp,xj,xn,xe,xf,xh,xi,xm,xl,xk,reduceIte,reduceCtorEq,yd,yc,xv]
      refine callFail h hO.rd (hgo _ ?_)
      intro T2 hO2
      obtain ⟨T3,hp,hr3,hon3,ha3,hD⟩:=hfin T2 hO2
      have x2:=hO2.rd.x
      simp only [x2,e41,hp,ha3,kB,kZ,kD,kE,xp,xj,xn,xe,xf,xh,xi,xm,xl,xk,reduceIte,reduceCtorEq,yd,yc,xv]
      exact ⟨op0 0 0,_,_,_,rfl,hr3,hon3,hD⟩
  have hk1 : decide (n1 < 1) = false:=by cases hk1 : decide (n1 < 1); rfl; rw [hk1] at hkd; simp at hkd
  have hk2 : decide (28 < n1) = false:=by rw [hk1] at hkd; simpa using hkd
  have hkr : 1≤n1∧n1≤28:=⟨by have:=of_decide_eq_false hk1; omega,by have:=of_decide_eq_false hk2; omega⟩
  simp only [x1,y1,h0,hk1,hk2,n0,kB,kZ,kD,kE,xp,xj,xn,xe,xf,xh,xi,xm,xl,xk,reduceIte,reduceCtorEq,yd,yc,xv]
  replace s1:=s1.cast (k':=fun q=>(rdN q).bind fun g=>rdOpF n1 g.1 g.2) (by simp only [hkd,Bool.false_eq_true,if_false])
  refine callInt h hO.rd (fun _ _=>keptA_nil _ _ _) ?_
  intro n2 v2 q2 e2 T2 r2 o2 d2
  have hO2:=hO.read r2 o2
  replace s1:=s1.step d2
  obtain ⟨T3,hp3,hO3,hag3⟩:=hO2.put (k:=6) (n:=n2) (o':=op0 n1 n2) (by decide) rfl
  simp only [hp3,kB,kZ,kD,kE,xp,xj,xn,xe,xf,xh,xi,xm,xl,xk,reduceIte,reduceCtorEq,yd,yc,xv]
  clear x1 y1 hp3 hag3 hO2 r2 o2 d2 hO
  clear T2
  refine wpF.mono (w_regs h (hg.only hO3.on hrb).glob hO3.bo hkr) ?_
  rintro r S' ⟨w,m,rfl,rfl,hown⟩
  refine ⟨keptA_nil _ _ _,?_⟩
  have l5:=hown.arr.len
  simp only [List.length_map] at l5
  have hO4:=hO3.grow m
  have hrl5:=regsO_len (op0 n1 n2)
  have hmem:=regsO_mem (op0 n1 n2)
  have hwb : ∀ b,boxOf w = some b→T3.length≤b:=fun b hb=>(hown.bnd b hb).1
  have hT3 : xb < T3.length:=let ⟨_,hb⟩:=hO3.bx; (List.getElem?_eq_some_iff.1 hb).1
  replace s1:=s1.cast (k':=fun q=>(rdFlds (regsO (op0 n1 n2)) (op0 n1 n2) q).bind fun o=>rdOpN o.1 o.2) rfl
  have harr:=hown.arr
  have hk0 : (op0 n1 n2).k = n1:=rfl
  clear hown hO3
  generalize regsO (op0 n1 n2) = R at *
  generalize op0 n1 n2 = o0 at *
  generalize (T3++m : St) = T4 at *
  simp only [l5,kB,kZ,kD,kE,xp,xj,xn,xe,xf,xh,xi,xm,xl,xk,reduceIte,reduceCtorEq,yd,yc,xv]
  refine loop_inv (fun n e3 s=>∃ (j : Nat) (v3 : AV) (q3 : List Int) (er : Int) (o : OpV),j + n = R.length∧e3 0 = .ptr rb 0∧e3 2 = .ptr (S.length + 0) 0∧e3 3 = .ptr xb 0∧e3 35 = w∧e3 36 = iA R.length∧e3 37 = iA j∧OpS false S s rb lo hi v3 q3 er xb o∧Agree (fun n=>n = rb∨n = xb) T4 s∧o.k = n1∧Sp (if decide (e = 0) then rdOp q else .error e) er q3 (fun q=>(rdFlds (R.drop j) o q).bind fun o=>rdOpN o.1 o.2)) ?_ R.length ?_
  case refine_2=>exact ⟨0,v2,q2,e2,o0,by omega,rfl,rfl,rfl,rfl,rfl,rfl,hO4,Agree.refl _ _,hk0,s1⟩
  clear s1 hO4
  rintro n e3 s ⟨j,v3,q3,er,o,hjn,k0,k2,k3,k35,k36,k37,hO5,hag,hok,s5⟩
  simp only [k0,k2,k3,k35,k36,k37,kB,kZ,kD,kE,xp,xj,xn,xe,xf,xh,xi,xm,xl,xk,reduceIte,reduceCtorEq,yd,yc,xv]
  refine condO_intro ?_ ?_<;>intro hc
  · have hj : j < R.length:=by have:=of_decide_eq_true hc; omega
    have harr5:=harr.agree hag fun b hb hx=>by
      have:=hwb b hb
      have:=hO5.lt
      have:=hO5.hx
      omega
    obtain ⟨b7,o7,he7,_,ha7,_⟩:=harr5.get j (by simpa using hj)
    have p7:=ha7 [] 0 (by omega)
    simp only [List.getElem_map,Nat.add_zero,List.append_nil,List.getElem?_cons_zero] at p7
    rw [List.drop_eq_getElem_cons hj,rdFlds_cons] at s5
    have hm:=hmem _ (List.getElem_mem hj)
    obtain ⟨f,hf⟩ : ∃ f,R[j] = f:=⟨_,rfl⟩
    rw [hf] at p7 s5 hm
    simp only [k0,k2,k3,k35,k36,k37,he7,p7,kB,kZ,kD,kE,xp,xj,xn,xe,xf,xh,xi,xm,xl,xk,reduceIte,reduceCtorEq,yd,yc,xv]
    refine callInt h hO5.rd (fun _ _=>keptA_nil _ _ _) ?_
    intro n6 v6 q6 e6 T6 r6 o6 d6
    have hO6:=hO5.read r6 o6
    obtain ⟨T7,hp7,hO7,hag7⟩:=hO6.put (k:=f) (n:=n6) (o':=setF o f n6) (by omega) (setF_row o n6 hm)
    have hwr : IntKind.wrap .i64 ((j : Int) + 1) = ((j + 1 : Nat) : Int):=by rw [wrap_small (by omega) (by omega)]; omega
    simp only [k0,k2,k3,k35,k36,k37,hp7,hwr,kB,kZ,kD,kE,xp,xj,xn,xe,xf,xh,xi,xm,xl,xk,reduceIte,reduceCtorEq,yd,yc,xv]
    refine ⟨n - 1,by omega,j + 1,v6,q6,e6,setF o f n6,by omega,rfl,hO7,?_,by rw [setF_k]; exact hok,?_⟩
    · exact ((hag.trans o6).trans hag7).mono fun n _ hx=>by
        rcases hx with (hx | hx) | hx
        · exact hx
        · exact .inl hx
        · exact .inr hx
    · have s6:=Sp.step (m:=rdN) (k:=fun x=>(rdFlds (R.drop (j + 1)) (setF o f x.1) x.2).bind fun o=>rdOpN o.1 o.2) (s5.cast (bind_as (rdN q3) _ _)) d6
      exact s6
  · have hj : j = R.length:=by have:=of_decide_eq_false hc; omega
    subst hj
    rw [List.drop_length] at s5
    replace s5:=s5.cast (k':=rdOpN o) rfl
    have y5:=hO5.x.1
    have y7:=hO5.x.2
    simp only [OpV.row] at y5 y7
    simp only [k0,k2,k3,y5,hok,kB,kZ,kD,kE,xp,xj,xn,xe,xf,xh,xi,xm,xl,xk,reduceIte,reduceCtorEq,yd,yc,xv]
    refine callO_same (j_words_hasN h n1) ?_
    cases hhn : hasNW n1
    · obtain ⟨T8,hp8,hr8,hon8,ha8⟩:=hO5.out o
      simp only [OpV.row] at hp8 ha8
      simp only [hhn,k0,k2,k3,y7,hp8,ha8,kB,kZ,kD,kE,xp,xj,xn,xe,xf,xh,xi,xm,xl,xk,reduceIte,reduceCtorEq,yd,yc,xv]
      refine ⟨o,_,_,_,rfl,hr8,hon8,Did.ofSp s5 fun _=>?_⟩
      unfold rdOpN
      rw [hok,hhn]
      rfl
    · simp only [hhn,k0,k2,k3,kB,kZ,kD,kE,xp,xj,xn,xe,xf,xh,xi,xm,xl,xk,reduceIte,reduceCtorEq,yd,yc,xv]
      refine callNum h hO5.rd (fun _ _=>keptA_nil _ _ _) ?_
      intro n8 v8 q8 e8 T8 r8 o8 d8
      have s8:=(s5.cast (k':=fun q=>(rdN q).bind fun n=>.ok ({ o with n:=n.1 },n.2)) (by unfold rdOpN; rw [hok,hhn]; rfl)).step d8
      obtain ⟨T9,hp9,hO9,_⟩:=(hO5.read r8 o8).put (k:=5) (n:=n8) (o':={ o with n:=n8 }) (by decide) rfl
      obtain ⟨T10,hp10,hr10,hon10,ha10⟩:=hO9.out { o with n:=n8 }
      have y9:=hO9.x.2
      simp only [OpV.row] at hp10 ha10 y9
      simp only [k0,k2,k3,hp9,y9,hp10,ha10,kB,kZ,kD,kE,xp,xj,xn,xe,xf,xh,xi,xm,xl,xk,reduceIte,reduceCtorEq,yd,yc,xv]
      exact ⟨{ o with n:=n8 },_,_,_,rfl,hr10,hon10,Did.ofSp s8 fun _=>rfl⟩
theorem callOpR {K : Env→St→Post3→Prop} {Q : Post3} {dst : Option Nat} {keep : List VOpd} {env : Env} (h : On X) (hg : GB S) (hrb : glS.length≤rb) (hr : RdAt false S rb lo hi v q e) (hk : ∀ S',Only rb S S'→keptA env S S' keep = true)
    (hK : ∀ o v' q' e' S',RdAt false S' rb lo hi v' q' e'→Only rb S S'→Did rdOp q e o q' e'→K (env.put dst (.agg o.row)) S' Q) : callO X 52 [.ptr rb 0] dst keep K env S Q:=by
  refine wpF.mono (w_opR h hg hrb hr) ?_
  rintro r S' ⟨o,v',q',e',rfl,h1,h2,h3⟩
  exact ⟨hk _ h2,hK _ _ _ _ _ h1 h2 h3⟩
end
end Go.VX.Seat
end
section
set_option maxRecDepth 4000
namespace Go.VX.Seat
open Go.Proofs
theorem opR_mid {X : Cx} {K : Env→St→Post3→Prop} {Q : Post3} {d : Option Nat} {env : Env} {s : St} {lo hi esz i n : Nat} {x y z : VOpd} {rows : List (List AV)} {vx : AV} (ex : x.ev env = vx) (ey : asNat? (y.ev env) = some i) (ez : asNat? (z.ev env) = some n) (hx : ArrAt s lo hi vx esz rows) (hi1 : i≤n) (hn : n≤rows.length)
    (h : ∀ w,ArrAt s lo hi w esz ((rows.take n).drop i)→boxOf w = boxOf vx→K (env.put d w) s Q) : opR X K d [] env s Q (vop X.P (.slice none esz x (some y) (some z) none) env s):=by
  rw [v_slice,ex]
  rcases nil_or_sl hx.len with ⟨rfl,hz⟩ | ⟨b,o,e,f,rfl⟩
  · have hr : rows = []:=List.length_eq_zero_iff.1 hz
    subst hr
    have hn0 : n = 0:=by simpa using hn
    have hi0 : i = 0:=by omega
    subst hn0 hi0
    simp only [bnd,ey,ez]
    exact ⟨keptA_nil _ _ _,h _ (emptyArr _ _ _ _) rfl⟩
  · obtain ⟨rfl,h0⟩:=hx.size _ _ _ _ _ rfl
    simp only [bnd,ey,ez,Option.isSome_none,Bool.false_eq_true,if_false,false_implies,and_true,Nat.le_refl,true_and]
    rw [if_pos (by omega)]
    refine ⟨keptA_nil _ _ _,h _ ⟨?_,?_,?_⟩ rfl⟩
    · simp only [lenA,List.length_drop,List.length_take]
      exact congrArg some (by omega)
    · intro b' o' len' e' full' q
      cases q
      refine ⟨rfl,?_⟩
      by_cases hr : rows = []
      · subst hr
        have hn0 : n = 0:=by simpa using hn
        have hi0 : i = 0:=by omega
        subst hn0 hi0
        simpa using h0
      · obtain ⟨b',o',f',q,_,_,hw⟩:=hx.whole hr
        cases q
        exact atN_less (hw rows.length (Nat.le_refl _)) (Nat.mul_le_mul_right _ (by omega))
    · intro j hj
      simp only [List.length_drop,List.length_take] at hj
      obtain ⟨b1,o1,q1,q2,q3,q4⟩:=hx.row (i + j) (by omega)
      obtain ⟨b',o',len',full',q,_,_,hp⟩:=elemA_inv q1
      cases q
      simp only [AV.ptr.injEq,Int.toNat_natCast] at hp
      obtain ⟨rfl,rfl⟩:=hp
      refine ⟨b1,o + (i + j) * e,?_,q2,q3,?_⟩
      · simp only [elemA,Int.toNat_natCast]
        rw [if_pos ⟨by omega,by omega,trivial⟩]
        congr 2
        rw [Nat.add_mul]
        omega
      · simpa using q4
theorem agree_front (S A B : St) (hl : A.length≤B.length) : Agree (fun n=>S.length≤n) (S++A) (S++B) :=
  ⟨by simp; omega,fun n hn hx=>by rw [List.getElem?_append_left (by omega),List.getElem?_append_left (by omega)]⟩
theorem bire_str : (⟨#[66,105,114,101]⟩ : ByteArray) = bstr bire:=rfl
section
variable {X : Cx} {S : St}
set_option maxHeartbeats 1000000 in
theorem w_OpenR (h : On X) {lo hi : Nat} {v : AV} {q : List Int} (hv : ArrAt S lo hi v 1 (rowsB q)) (hq : q.length≤1000000000) (hr : ∀ b ∈ q,0≤b∧b < 256) :
    wpF X 49 [v,.sc (.string ⟨#[66,105,114,101]⟩)] S fun r S'=>∃ v' q' e',r = .ret (.ptr S.length 0)∧(∃ m,S' = S++m)∧RdAt false S' S.length lo hi v' q' e'∧Sp (loadD q) e' q' bodyD:=by
  cases hbad : sealBad q
  case true =>
    have:=w_Open_bad h [] (st:=S) (by rw [List.append_nil]; exact hv) hq hr hbad (.sc (.string ⟨#[66,105,114,101]⟩))
    simp only [List.length_nil,Nat.add_zero,List.append_nil,List.nil_append] at this
    refine wpF.mono this ?_
    rintro r S' ⟨L,rfl,rfl⟩
    refine ⟨.sc (.slice none 0 0),[],9,rfl,⟨_,rfl⟩,RdAt.mk0 ⟨1,by simp⟩ (emptyArr _ _ _ _) (fun b hb=>(by cases hb)) (fun b hb=>(by cases hb)) (by simp),⟨fun h0=>absurd h0 (by decide),fun _=>?_⟩⟩
    unfold loadD
    rw [hbad]
    rfl
  refine wpF_go (fn:=v_words_Open) (by rw [h.F]; rfl) ?_
  have l1:=hv.len
  simp only [List.length_map] at l1
  have hwr : IntKind.wrap .i64 ((q.length : Int) - 4) = (q.length : Int) - 4:=wrap_small (by omega) (by omega)
  have cv : ∀ a,closed X.P (convert 148 5 (.int .u32 a)) = some (.int .u8 (IntKind.wrap .u8 a)):=fun a=>by rw [h.P]; exact c_cv328 a
  have hld : loadD q = if decide (q.take 4≠bire) then .error 4 else bodyD ((q.take (q.length - 4)).drop 4):=by unfold loadD; rw [hbad]; rfl
  unfold sealBad at hbad
  rw [Bool.or_eq_false_iff] at hbad
  obtain ⟨hlt,hsum⟩:=hbad
  have hlt':=of_decide_eq_false hlt
  have hsum : le4 (sumP (q.take (q.length - 4))) = q.drop (q.length - 4):=by simpa using hsum
  simp only [v_words_Open,l1,hwr,hlt,kB,kZ,kD,kE,xp,xj,xn,xe,xf,xh,xi,xm,xl,xk,reduceIte,reduceCtorEq,yd,yc,xv]
  refine opR_pre (vx:=v) (n:=q.length - 4) (by simp only [kB,kZ,kD,kE,xp,xj,xn,xe,xf,xh,xi,xm,xl,xk,reduceIte,reduceCtorEq,yd,yc,xv]) (by simp only [kB,kZ,kD,kE,xp,xj,xn,xe,xf,xh,xi,xm,xl,xk,reduceIte,reduceCtorEq,yd,yc,xv]; rw [if_pos (by omega)]; exact congrArg some (by omega)) (hv.mono _) (by simp) ?_
  intro w1 hw1
  refine ⟨keptA_nil _ _ _,?_⟩
  simp only [kB,kZ,kD,kE,xp,xj,xn,xe,xf,xh,xi,xm,xl,xk,reduceIte,reduceCtorEq,yd,yc,xv]
  rw [←List.map_take] at hw1
  refine callO_same (j_words_sum h hw1 (by simp; omega)) ?_
  obtain ⟨z,hz⟩ : ∃ z,sumP (q.take (q.length - 4)) = z:=⟨_,rfl⟩
  rw [hz] at hsum ⊢
  simp only [kB,kZ,kD,kE,xp,xj,xn,xe,xf,xh,xi,xm,xl,xk,reduceIte,reduceCtorEq,yd,yc,xv]
  refine opR_suf (vx:=v) (n:=q.length - 4) (by simp only [kB,kZ,kD,kE,xp,xj,xn,xe,xf,xh,xi,xm,xl,xk,reduceIte,reduceCtorEq,yd,yc,xv]) (by simp only [kB,kZ,kD,kE,xp,xj,xn,xe,xf,xh,xi,xm,xl,xk,reduceIte,reduceCtorEq,yd,yc,xv]; rw [if_pos (by omega)]; exact congrArg some (by omega)) (hv.mono _) (by simp) ?_
  intro w2 hw2 _
  rw [←List.map_drop] at hw2
  simp only [kB,kZ,kD,kE,xp,xj,xn,xe,xf,xh,xi,xm,xl,xk,reduceIte,reduceCtorEq,yd,yc,xv]
  refine opR_b2s (by simp only [kB,kZ,kD,kE,xp,xj,xn,xe,xf,xh,xi,xm,xl,xk,reduceIte,reduceCtorEq,yd,yc,xv]) hw2 ?_
  simp only [cv,c_shr8,c_shr16,c_shr24,kB,kZ,kD,kE,xp,xj,xn,xe,xf,xh,xi,xm,xl,xk,reduceIte,reduceCtorEq,yd,yc,xv]
  have hy : ArrAt (S++[⟨[.sc (.slice none 0 0),.sc (.int .i64 0)],0,0⟩,⟨[.sc (.int .u8 (IntKind.wrap .u8 z)),.sc (.int .u8 (IntKind.wrap .u8 (z.fdiv 256))),.sc (.int .u8 (IntKind.wrap .u8 (z.fdiv 65536))),.sc (.int .u8 (IntKind.wrap .u8 (z.fdiv 16777216)))],0,0⟩]) (S.length + 1) (S.length + 2) (.sl (S.length + 1) 0 4 1 true) 1 (rowsB (le4 z)) :=
    ArrAt.ofBox (mode:=0) (ver:=0) (by rw [List.getElem?_append_right (by omega)]; simp; rfl) (by decide) (by simp) rfl
  refine opR_b2s (by simp only [kB,kZ,kD,kE,xp,xj,xn,xe,xf,xh,xi,xm,xl,xk,reduceIte,reduceCtorEq,yd,yc,xv]) hy ?_
  have hne : ((bstr (q.drop (q.length - 4))).toList == (bstr (le4 z)).toList) = true:=by
    rw [bstr_eq (fun b hb=>hr b (List.mem_of_mem_drop hb)) (le4_rng z)]
    exact decide_eq_true hsum.symm
  have e40 : (4 : Int).toNat = 4:=rfl
  simp only [c_neqs,hne,kB,kZ,kD,kE,xp,xj,xn,xe,xf,xh,xi,xm,xl,xk,reduceIte,reduceCtorEq,yd,yc,xv]
  refine opR_pre (vx:=v) (n:=4) (by simp only [kB,kZ,kD,kE,xp,xj,xn,xe,xf,xh,xi,xm,xl,xk,reduceIte,reduceCtorEq,yd,yc,xv]) (by simp only [kB,kZ,kD,kE,xp,xj,xn,xe,xf,xh,xi,xm,xl,xk,reduceIte,reduceCtorEq,yd,yc,xv]) (hv.mono _) (by simp; omega) ?_
  intro w3 hw3
  refine ⟨keptA_nil _ _ _,?_⟩
  rw [←List.map_take] at hw3
  simp only [kB,kZ,kD,kE,xp,xj,xn,xe,xf,xh,xi,xm,xl,xk,reduceIte,reduceCtorEq,yd,yc,xv]
  refine opR_b2s (by simp only [kB,kZ,kD,kE,xp,xj,xn,xe,xf,xh,xi,xm,xl,xk,reduceIte,reduceCtorEq,yd,yc,xv]) hw3 ?_
  have hnb : ((bstr (q.take 4)).toList == (bstr bire).toList) = decide (q.take 4 = bire) :=
    bstr_eq (fun b hb=>hr b (List.mem_of_mem_take hb)) (fun b hb=>by unfold bire at hb; simp only [List.mem_cons,List.not_mem_nil,or_false] at hb; omega)
  rw [bire_str]
  simp only [c_neqs,hnb,kB,kZ,kD,kE,xp,xj,xn,xe,xf,xh,xi,xm,xl,xk,reduceIte,reduceCtorEq,yd,yc,xv]
  cases hm : decide (q.take 4 = bire)
  · have hm':=of_decide_eq_false hm
    rw [if_pos (decide_eq_true hm')] at hld
    simp only [kB,kZ,kD,kE,xp,xj,xn,xe,xf,xh,xi,xm,xl,xk,reduceIte,reduceCtorEq,yd,yc,xv]
    refine wpF.mono (w_Fail0 (st:=S) h [] (b:=.sc (.slice none 0 0)) (ver:=0) _ 4) ?_
    rintro r S' ⟨rfl,rfl⟩
    refine ⟨keptA_nil _ _ _,?_⟩
    simp only [l1,hwr,kB,kZ,kD,kE,xp,xj,xn,xe,xf,xh,xi,xm,xl,xk,reduceIte,reduceCtorEq,yd,yc,xv]
    refine opR_mid (vx:=v) (i:=4) (n:=q.length - 4) (by simp only [kB,kZ,kD,kE,xp,xj,xn,xe,xf,xh,xi,xm,xl,xk,reduceIte,reduceCtorEq,yd,yc,xv]) (by simp only [kB,kZ,kD,kE,xp,xj,xn,xe,xf,xh,xi,xm,xl,xk,reduceIte,reduceCtorEq,yd,yc,xv]) (by simp only [kB,kZ,kD,kE,xp,xj,xn,xe,xf,xh,xi,xm,xl,xk,reduceIte,reduceCtorEq,yd,yc,xv]; rw [if_pos (by omega)]; exact congrArg some (by omega)) (hv.mono _) (by omega) (by simp) ?_
    intro w4 hw4 hb4
    rw [←List.map_take,← List.map_drop] at hw4
    have hcl:=cellsOf_len hw4.len
    have hcc:=isCell_len hw4.len
    simp only [hcl,hcc,kB,kZ,kD,kE,xp,xj,xn,xe,xf,xh,xi,xm,xl,xk,reduceIte,reduceCtorEq,yd,yc,xv]
    refine ⟨w4,_,4,rfl,⟨_,rfl⟩,RdAt.mk0 ⟨_,by simp; rfl⟩ (hw4.agree (agree_front S _ _ (by simp)) (fun b hb e=>by have:=hv.boxlt (by rw [←hb4]; exact hb); omega)) (fun b hb=>hv.boxlt (by rw [←hb4]; exact hb)) (fun b hb=>hr b (List.mem_of_mem_take (List.mem_of_mem_drop hb))) (by simp; omega),⟨fun h0=>absurd h0 (by decide),fun _=>hld⟩⟩
  · have hm':=of_decide_eq_true hm
    have : decide (q.take 4≠bire) = false:=decide_eq_false (fun h=>h hm')
    rw [this] at hld
    simp only [l1,hwr,kB,kZ,kD,kE,xp,xj,xn,xe,xf,xh,xi,xm,xl,xk,reduceIte,reduceCtorEq,yd,yc,xv]
    refine opR_mid (vx:=v) (i:=4) (n:=q.length - 4) (by simp only [kB,kZ,kD,kE,xp,xj,xn,xe,xf,xh,xi,xm,xl,xk,reduceIte,reduceCtorEq,yd,yc,xv]) (by simp only [kB,kZ,kD,kE,xp,xj,xn,xe,xf,xh,xi,xm,xl,xk,reduceIte,reduceCtorEq,yd,yc,xv]) (by simp only [kB,kZ,kD,kE,xp,xj,xn,xe,xf,xh,xi,xm,xl,xk,reduceIte,reduceCtorEq,yd,yc,xv]; rw [if_pos (by omega)]; exact congrArg some (by omega)) (hv.mono _) (by omega) (by simp) ?_
    intro w4 hw4 hb4
    rw [←List.map_take,← List.map_drop] at hw4
    have hcl:=cellsOf_len hw4.len
    have hcc:=isCell_len hw4.len
    simp only [hcl,hcc,kB,kZ,kD,kE,xp,xj,xn,xe,xf,xh,xi,xm,xl,xk,reduceIte,reduceCtorEq,yd,yc,xv]
    refine ⟨w4,_,0,rfl,⟨_,rfl⟩,RdAt.mk0 ⟨_,by simp; rfl⟩ (hw4.agree (agree_front S _ _ (by simp)) (fun b hb e=>by have:=hv.boxlt (by rw [←hb4]; exact hb); omega)) (fun b hb=>hv.boxlt (by rw [←hb4]; exact hb)) (fun b hb=>hr b (List.mem_of_mem_take (List.mem_of_mem_drop hb))) (by simp; omega),⟨fun _=>hld,fun h0=>absurd rfl h0⟩⟩
end
end Go.VX.Seat
end
section
set_option maxRecDepth 4000
namespace Go.VX.Seat
open Go.Proofs
theorem append_full {P : Program} {env : Env} {s : St} {lo lo' hi' esz bytes b : Nat} {z : Box} {x y : VOpd} {rows2 : List (List AV)} (hx : x.ev env = .sl b 0 0 esz true) (hb : s[b]? = some z) (hm : z.mode < 2) (hlo : lo≤b) (hy : ArrAt s lo' hi' (y.ev env) esz rows2)
    (hsz : rows2.length * (bytes + 1)≤1000000000) :
    ∃ w M,vop P (.append esz bytes x y) env s = some (.val w,s++M)∧OwnS (s++M) lo w esz rows2∧∀ n,boxOf w = some n→n = b∨s.length≤n:=by
  have l2:=hy.len
  have q2:=srcLen_len l2
  have q4:=srcCells_arr hy
  have hbl:=(List.getElem?_eq_some_iff.1 hb).1
  have q0 : srcLen (.sl b 0 0 esz true) = some 0:=rfl
  have q3 : srcCells s esz 0 (.sl b 0 0 esz true) = some []:=by
    simp [srcCells,St.atN,hb,Nat.not_le_of_lt hm]
  by_cases hne : rows2 = []
  · subst hne
    refine ⟨.sl b 0 0 esz true,[],?_,?_,fun n hn=>by cases hn; exact .inl rfl⟩
    · simp only [List.length_nil] at q2 q4
      simp only [vop,hx,q0,q2,q3,q4]
      rw [if_pos (by simp)]
      simp
    · rw [List.append_nil]
      exact own_empty hb hm hlo
  · have hm2 : rows2.length≠0:=fun h=>hne (List.length_eq_zero_iff.1 h)
    refine ⟨.sl s.length 0 (0 + rows2.length) esz false,[⟨[]++rows2.flatten,0,0⟩],?_,?_,fun n hn=>by cases hn; exact .inr (Nat.le_refl _)⟩
    · simp only [vop,hx,q0,q2,q3,q4]
      rw [if_pos (by simpa using hsz)]
      simp only [hm2,if_false,if_true]
    · have hbx : (s++[⟨[]++rows2.flatten,0,0⟩])[s.length]? = some ⟨rows2.flatten,0,0⟩:=by
        rw [List.getElem?_append_right (by omega)]; simp
      refine ⟨(ArrAt.ofBox hbx (by decide) hy.rowlen (by simp)).wide' (by omega) (by simp),fun n hn=>?_,fun b' o n e full hw=>?_⟩
      · cases hn
        simp
        omega
      · cases hw
        exact .inr (by rw [hbx]; rfl)
theorem opR_appendF {X : Cx} {K : Env→St→Post3→Prop} {Q : Post3} {d : Option Nat} {k : List VOpd} {env : Env} {s : St} {lo lo' hi' esz bytes b : Nat} {z : Box} {x y : VOpd} {rows2 : List (List AV)} {vy : AV} (ex : x.ev env = .sl b 0 0 esz true) (ey : y.ev env = vy) (hb : s[b]? = some z) (hm : z.mode < 2) (hlo : lo≤b) (hy : ArrAt s lo' hi' vy esz rows2)
    (hsz : rows2.length * (bytes + 1)≤1000000000)
    (h : ∀ w M,OwnS (s++M) lo w esz rows2→(∀ n,boxOf w = some n→n = b∨s.length≤n)→K (env.put d w) (s++M) Q) : opR X K d k env s Q (vop X.P (.append esz bytes x y) env s):=by
  subst ey
  obtain ⟨w,M,hv,h1,h2⟩:=append_full (P:=X.P) ex hb hm hlo hy hsz
  rw [hv]
  exact ⟨kept_app _ _ _ _,h w M h1 h2⟩
def cutC (C : CodV) (n k : Nat) : CodV:={ C with sizes:=C.sizes.take 17,words:=(C.words.take n).map fun w=>{ w with ops:=w.ops.take k } }
section
variable {X : Cx} {st : St}
set_option maxHeartbeats 2000000 in
theorem w_r26_Cut (h : On X) {lo hi : Nat} {v : AV} {U : CodV} (hv : CodAt st lo hi v U) (n k : Nat) (hn : n≤1000000) (hk : k≤2000000) :
    wpF X 32 [v,iA n,iA k] st fun r s=>NewC st s r (cutC U n k):=by
  refine wpF_go (fn:=v_r26_Cut) (by rw [h.F]; rfl) ?_
  obtain ⟨s,bl,rfl,hs,hb⟩:=hv
  have l1:=hs.len
  have l2 : lenA bl = some U.words.length:=by
    obtain ⟨f,hb,_⟩:=hb
    have:=hb.len
    simpa using this
  have hcs:=isCell_len l1
  have hcb:=isCell_len l2
  simp only [List.length_map] at l1
  simp only [v_r26_Cut,l1,l2,hcs,hcb,kB,kZ,kD,kE,xp,xj,xn,xe,xf,xh,xi,xm,xl,xk,reduceIte,reduceCtorEq,yd,yc,xv]
  have hmin : (min (U.sizes.length : Int) 17) = ((min U.sizes.length 17 : Nat) : Int):=by omega
  refine opR_pre (vx:=s) (n:=min U.sizes.length 17) (lo:=lo) (hi:=hi) (rows:=U.sizes.map fun n=>[iA n]) (by simp only [kB,kZ,kD,kE,xp,xj,xn,xe,xf,xh,xi,xm,xl,xk,reduceIte,reduceCtorEq,yd,yc,xv]) (by rw [hmin]; simp only [kB,kZ,kD,kE,xp,xj,xn,xe,xf,xh,xi,xm,xl,xk,reduceIte,reduceCtorEq,yd,yc,xv]; rw [if_pos (by omega)]) (hs.mono _) (by simp; omega) ?_
  intro sz1 hsz1
  have ht : U.sizes.take (min U.sizes.length 17) = U.sizes.take 17:=by
    rcases Nat.le_total U.sizes.length 17 with h | h
    · rw [Nat.min_eq_left h,List.take_length,List.take_of_length_le h]
    · rw [Nat.min_eq_right h]
  rw [←List.map_take,ht] at hsz1
  simp only [kB,kZ,kD,kE,xp,xj,xn,xe,xf,xh,xi,xm,xl,xk,reduceIte,reduceCtorEq,yd,yc,xv]
  refine opR_appendF (b:=st.length + 2) (z:=⟨[],0,0⟩) (vy:=sz1) (lo:=st.length + 2) (by simp only [kB,kZ,kD,kE,xp,xj,xn,xe,xf,xh,xi,xm,xl,xk,reduceIte,reduceCtorEq,yd,yc,xv]) (by simp only [kB,kZ,kD,kE,xp,xj,xn,xe,xf,xh,xi,xm,xl,xk,reduceIte,reduceCtorEq,yd,yc,xv]) (by simp) (by decide) (Nat.le_refl _) (rows2:=(U.sizes.take 17).map fun n=>[iA n]) (by have:=hsz1.mono [⟨[.sc (.slice none 0 0),iA 0,iA 0,iA 0,iA 0,.sc (.slice none 0 0)],0,0⟩]; simp only [List.append_assoc,List.cons_append,List.nil_append] at this; exact this) (by simp; omega) ?_
  intro sz M hown hszb
  have hcsz:=isCell_len hown.arr.len
  have hcoz:=cellsOf_len hown.arr.len
  simp only [hcsz,hcoz,List.append_assoc,List.cons_append,List.nil_append,kB,kZ,kD,kE,xp,xj,xn,xe,xf,xh,xi,xm,xl,xk,reduceIte,reduceCtorEq,yd,yc,xv]
  have hY0 : OwnS (st++(⟨[s,iA U.params,iA U.regs,iA U.code,iA U.spill,bl],0,0⟩ :: ⟨[.sc (.slice none 0 0),iA 0,iA 0,iA 0,iA 0,.sc (.slice none 0 0)],0,0⟩ :: ⟨[],0,0⟩ :: ⟨[sz,iA U.params,iA U.regs,iA U.code,iA U.spill,.sc (.slice none 0 0)],0,1⟩ :: M)) (st.length + 2) sz 1 ((U.sizes.take 17).map fun n=>[iA n]):=by
    have h1:=hown
    simp only [List.append_assoc,List.cons_append,List.nil_append] at h1
    exact h1.agree (Agree.swap st [⟨[s,iA U.params,iA U.regs,iA U.code,iA U.spill,bl],0,0⟩,⟨[.sc (.slice none 0 0),iA 0,iA 0,iA 0,iA 0,.sc (.slice none 0 0)],0,0⟩,⟨[],0,0⟩] ⟨[.sc (.slice none 0 0),iA 0,iA 0,iA 0,iA 0,.sc (.slice none 0 0)],0,0⟩ ⟨[sz,iA U.params,iA U.regs,iA U.code,iA U.spill,.sc (.slice none 0 0)],0,1⟩ M) (fun b hb h2=>by
      rcases hszb b hb with e | e<;>simp at h2 e<;>omega)
  have hszn : ∀ b,boxOf sz = some b→b≠st.length + 3:=fun b hb=>by
    rcases hszb b hb with e | e<;>(try simp only [List.length_append,List.length_cons,List.length_nil] at e)<;>omega
  clear hown hszb hsz1
  refine loop_inv (fun m e s'=>∃ (L : St) (ver : Nat) (blv : AV) (i : Nat) (f : Nat→AV),
    s' = st++(⟨[s,iA U.params,iA U.regs,iA U.code,iA U.spill,bl],0,0⟩ :: ⟨[.sc (.slice none 0 0),iA 0,iA 0,iA 0,iA 0,.sc (.slice none 0 0)],0,0⟩ :: ⟨[],0,0⟩ :: ⟨[sz,iA U.params,iA U.regs,iA U.code,iA U.spill,blv],0,ver⟩ :: L) ∧
    e 1 = iA n∧e 2 = iA k∧e 3 = .ptr (st.length + 0) 0∧e 6 = .ptr (st.length + 1) 0∧e 7 = .ptr (st.length + 3) 0∧e 8 = iA i ∧
    m + i = U.words.length∧i≤n ∧
    OwnW s' (st.length + 4) blv f ((U.words.take i).map fun w=>{ w with ops:=w.ops.take k })∧OwnY s' (st.length + 2) sz blv f (U.sizes.take 17) ((U.words.take i).map fun w=>{ w with ops:=w.ops.take k })) ?_ U.words.length ?_
  case refine_2 =>
    refine ⟨M,1,.sc (.slice none 0 0),0,fun _=>.sc (.slice none 0 0),rfl,?_,?_,?_,?_,?_,?_,by omega,by omega,?_,?_⟩
    iterate 6 (first | rfl | (simp only [kB,kZ,kD,kE,xp,xj,xn,xe,xf,xh,xi,xm,xl,xk,reduceIte,reduceCtorEq,yd,yc,xv]; done))
    · exact ⟨own_nil _ _ _,fun h=>absurd rfl h,fun i hi=>absurd hi (by simp),fun i hi=>absurd hi (by simp),fun i j hi=>absurd hi (by simp)⟩
    · exact ⟨hY0,fun b hb=>⟨by simp [boxOf],fun i hi=>absurd hi (by simp)⟩⟩
  clear hY0 M
  intro m e s' ⟨L,ver,blv,i,f,hs',k1,k2,k3,k6,k7,k8,him,hin,hB,hZ⟩
  subst hs'
  obtain ⟨f0,hb1,hbo⟩:=hb
  simp only [k1,k2,k3,k6,k7,k8,l2,kB,kZ,kD,kE,xp,xj,xn,xe,xf,xh,xi,xm,xl,xk,reduceIte,reduceCtorEq,yd,yc,xv]
  refine gO_t ?_ ?_<;>intro hc
  · have hil : i < U.words.length:=by have:=of_decide_eq_true hc; omega
    obtain ⟨b1,o1,he1,hn1,ha1,_⟩:=hb1.get i (by simpa using hil)
    simp only [List.getElem_mapIdx,WrdV.row] at hn1 ha1
    have ha0:=fun L=>ha1 L 0 (by omega)
    have haa:=fun L=>ha1 L 1 (by omega)
    simp only [kB,kZ,kD,kE,xp,xj,xn,xe,xf,xh,xi,xm,xl,xk,reduceIte,reduceCtorEq,yd,yc,xv] at ha0 haa
    have l3:=(hbo i hil).len
    simp only [List.length_map] at l3
    have hcell:=isCell_len l3
    simp only [hc,k1,k2,k3,k6,k7,k8,l2,he1,hn1,ha0,haa,l3,hcell,kB,kZ,kD,kE,xp,xj,xn,xe,xf,xh,xi,xm,xl,xk,reduceIte,reduceCtorEq,yd,yc,xv]
    refine condO_intro ?_ ?_<;>intro hc2
    · have hin2 : i < n:=by have:=of_decide_eq_true hc2; omega
      simp only [hc,k1,k2,k3,k6,k7,k8,l2,he1,hn1,ha0,haa,l3,hcell,kB,kZ,kD,kE,xp,xj,xn,xe,xf,xh,xi,xm,xl,xk,reduceIte,reduceCtorEq,yd,yc,xv]
      have hml : min (U.words[i].ops.length : Int) (k : Int) = ((min U.words[i].ops.length k : Nat) : Int):=by omega
      have hmt : U.words[i].ops.take (min U.words[i].ops.length k) = U.words[i].ops.take k:=by
        rcases Nat.le_total U.words[i].ops.length k with h | h
        · rw [Nat.min_eq_left h,List.take_length,List.take_of_length_le h]
        · rw [Nat.min_eq_right h]
      refine opR_pre (vx:=f0 i) (n:=min U.words[i].ops.length k) (lo:=lo) (hi:=hi) (rows:=U.words[i].ops.map OpV.row) (by simp only [kB,kZ,kD,kE,xp,xj,xn,xe,xf,xh,xi,xm,xl,xk,reduceIte,reduceCtorEq,yd,yc,xv]) (by rw [hml]; simp only [kB,kZ,kD,kE,xp,xj,xn,xe,xf,xh,xi,xm,xl,xk,reduceIte,reduceCtorEq,yd,yc,xv]; rw [if_pos (by omega)]) ((hbo i hil).mono _) (by simp; omega) ?_
      intro w1 hw1
      rw [←List.map_take,hmt] at hw1
      have htl : (U.words[i].ops.take k).length≤2000000:=by simp only [List.length_take]; omega
      simp only [kB,kZ,kD,kE,xp,xj,xn,xe,xf,xh,xi,xm,xl,xk,reduceIte,reduceCtorEq,yd,yc,xv]
      refine opR_appendF (b:=st.length + (L.length + 1 + 1 + 1 + 1)) (z:=⟨[],0,0⟩) (vy:=w1) (lo:=st.length + (L.length + 1 + 1 + 1 + 1)) (by simp only [kB,kZ,kD,kE,xp,xj,xn,xe,xf,xh,xi,xm,xl,xk,reduceIte,reduceCtorEq,yd,yc,xv]) (by simp only [kB,kZ,kD,kE,xp,xj,xn,xe,xf,xh,xi,xm,xl,xk,reduceIte,reduceCtorEq,yd,yc,xv]) (by simp) (by decide) (Nat.le_refl _) hw1 (by simp only [List.length_map]; omega) ?_
      intro w M2 hown hwb
      have hwl:=hown.arr.len
      simp only [List.length_map] at hwl
      have hwc:=isCell_len hwl
      have hwo:=cellsOf_len hwl
      simp only [hwc,hwo,k1,k2,k3,k6,k7,k8,List.append_assoc,List.cons_append,List.nil_append,kB,kZ,kD,kE,xp,xj,xn,xe,xf,xh,xi,xm,xl,xk,reduceIte,reduceCtorEq,yd,yc,xv]
      have hag0 : Agree (fun _=>False) (st++(⟨[s,iA U.params,iA U.regs,iA U.code,iA U.spill,bl],0,0⟩ :: ⟨[.sc (.slice none 0 0),iA 0,iA 0,iA 0,iA 0,.sc (.slice none 0 0)],0,0⟩ :: ⟨[],0,0⟩ :: ⟨[sz,iA U.params,iA U.regs,iA U.code,iA U.spill,blv],0,ver⟩ :: L)) (st++(⟨[s,iA U.params,iA U.regs,iA U.code,iA U.spill,bl],0,0⟩ :: ⟨[.sc (.slice none 0 0),iA 0,iA 0,iA 0,iA 0,.sc (.slice none 0 0)],0,0⟩ :: ⟨[],0,0⟩ :: ⟨[sz,iA U.params,iA U.regs,iA U.code,iA U.spill,blv],0,ver⟩ :: (L++(⟨[],0,0⟩ :: (M2++[⟨[w,iA U.words[i].catch_],0,0⟩]))))):=by
        simpa using Agree.app (fun _=>False) (st++(⟨[s,iA U.params,iA U.regs,iA U.code,iA U.spill,bl],0,0⟩ :: ⟨[.sc (.slice none 0 0),iA 0,iA 0,iA 0,iA 0,.sc (.slice none 0 0)],0,0⟩ :: ⟨[],0,0⟩ :: ⟨[sz,iA U.params,iA U.regs,iA U.code,iA U.spill,blv],0,ver⟩ :: L)) (⟨[],0,0⟩ :: (M2++[⟨[w,iA U.words[i].catch_],0,0⟩]))
      have hw2 : OwnS (st++(⟨[s,iA U.params,iA U.regs,iA U.code,iA U.spill,bl],0,0⟩ :: ⟨[.sc (.slice none 0 0),iA 0,iA 0,iA 0,iA 0,.sc (.slice none 0 0)],0,0⟩ :: ⟨[],0,0⟩ :: ⟨[sz,iA U.params,iA U.regs,iA U.code,iA U.spill,blv],0,ver⟩ :: (L++(⟨[],0,0⟩ :: (M2++[⟨[w,iA U.words[i].catch_],0,0⟩]))))) (st.length + (L.length + 1 + 1 + 1 + 1)) w 7 ((U.words[i].ops.take k).map OpV.row):=by
        have h1:=own_frame hown [⟨[w,iA U.words[i].catch_],0,0⟩]
        simpa using h1
      have hB2:=hB.agree hag0 (fun _ _ _ h=>h)
      have hl1 : (st++(⟨[s,iA U.params,iA U.regs,iA U.code,iA U.spill,bl],0,0⟩ :: ⟨[.sc (.slice none 0 0),iA 0,iA 0,iA 0,iA 0,.sc (.slice none 0 0)],0,0⟩ :: ⟨[],0,0⟩ :: ⟨[sz,iA U.params,iA U.regs,iA U.code,iA U.spill,blv],0,ver⟩ :: L) : St).length = st.length + (L.length + 1 + 1 + 1 + 1):=by simp
      have hl2 : (st++(⟨[s,iA U.params,iA U.regs,iA U.code,iA U.spill,bl],0,0⟩ :: ⟨[.sc (.slice none 0 0),iA 0,iA 0,iA 0,iA 0,.sc (.slice none 0 0)],0,0⟩ :: ⟨[],0,0⟩ :: ⟨[sz,iA U.params,iA U.regs,iA U.code,iA U.spill,blv],0,ver⟩ :: (L++(⟨[],0,0⟩ :: (M2++[⟨[w,iA U.words[i].catch_],0,0⟩])))) : St).length = st.length + (L.length + (M2.length + 1 + 1) + 1 + 1 + 1 + 1):=by simp
      obtain ⟨nb,hnb⟩ : ∃ nb : WrdV,nb = { U.words[i] with ops:=U.words[i].ops.take k }:=⟨_,rfl⟩
      have hrow : nb.row w = [w,iA U.words[i].catch_]:=by rw [hnb]; rfl
      have hdl : ((U.words.take i).map fun w : WrdV=>{ w with ops:=w.ops.take k }).length = i:=by simp; omega
      refine opR_append (vx:=blv) (vy:=.sl (st.length + (L.length + (M2.length + 1) + 1 + 1 + 1 + 1)) 0 1 2 true) (lo:=st.length + 4) (lo':=st.length + (L.length + (M2.length + 1) + 1 + 1 + 1 + 1)) (hi':=st.length + (L.length + (M2.length + 1) + 1 + 1 + 1 + 1) + 1) (rows:=wrdRows ((U.words.take i).map fun w=>{ w with ops:=w.ops.take k }) f) (rows2:=[nb.row w]) (by simp only [kB,kZ,kD,kE,xp,xj,xn,xe,xf,xh,xi,xm,xl,xk,reduceIte,reduceCtorEq,yd,yc,xv]) (by simp only [kB,kZ,kD,kE,xp,xj,xn,xe,xf,xh,xi,xm,xl,xk,reduceIte,reduceCtorEq,yd,yc,xv]) hB2.own (by rw [hl2]; omega) (ArrAt.ofBox (mode:=0) (ver:=0) ?_ (by decide) (by rw [hrow]; simp) rfl) ?_ (by rw [hrow]; simp only [hwc,kB,kZ,kD,kE,xp,xj,xn,xe,xf,xh,xi,xm,xl,xk,reduceIte,reduceCtorEq,yd,yc,xv]) ?_
      · rw [hrow]
        simp
      · rw [wrdRows_length,hdl]
        simp only [List.length_cons,List.length_nil]
        omega
      intro bl2 s3 hag3 hown3 hor3
      obtain ⟨_,hbox3,hex3⟩ : [nb.row w]≠[]∧boxOf bl2 = some (st++(⟨[s,iA U.params,iA U.regs,iA U.code,iA U.spill,bl],0,0⟩ :: ⟨[.sc (.slice none 0 0),iA 0,iA 0,iA 0,iA 0,.sc (.slice none 0 0)],0,0⟩ :: ⟨[],0,0⟩ :: ⟨[sz,iA U.params,iA U.regs,iA U.code,iA U.spill,blv],0,ver⟩ :: (L++(⟨[],0,0⟩ :: (M2++[⟨[w,iA U.words[i].catch_],0,0⟩])))) : St).length∧ExactBox s3 bl2 2 (wrdRows ((U.words.take i).map fun w=>{ w with ops:=w.ops.take k }) f++[nb.row w]):=by
        rcases hor3 with h | h
        · exact absurd h.1 (by simp)
        · exact h
      rw [hl2] at hbox3
      have hw3:=hw2.agree hag3 (fun b hb hx=>by
        have h1:=(hw2.bnd b hb).1
        have h2:=(hB.own.bnd b hx.2).2
        rw [hl1] at h2; omega)
      have hag4 : Agree (fun n=>boxOf blv = some n) (st++(⟨[s,iA U.params,iA U.regs,iA U.code,iA U.spill,bl],0,0⟩ :: ⟨[.sc (.slice none 0 0),iA 0,iA 0,iA 0,iA 0,.sc (.slice none 0 0)],0,0⟩ :: ⟨[],0,0⟩ :: ⟨[sz,iA U.params,iA U.regs,iA U.code,iA U.spill,blv],0,ver⟩ :: L)) s3:=(hag0.trans hag3).mono fun n _ h=>by
        rcases h with h | h
        · exact h.elim
        · exact h.2
      have hB3:=OwnW.snoc (b:=nb) hB hag4 (fun n _ h=>h) (by rw [hnb]; exact hw3.low (by omega)) (fun n hn=>by have:=(hw2.bnd n hn).1; rw [hl1]; omega) hown3 hex3 (fun n hn=>by
        rw [hbox3] at hn
        cases hn
        refine ⟨by rw [hl1]; omega,fun h=>?_⟩
        have:=(hw2.bnd _ h).2
        rw [hl2] at this
        omega)
      have hZ3:=OwnY.snoc (b:=nb) (w:=w) (bl':=bl2) hZ hag4 (fun n _ h=>h) (fun n hn=>by have:=(hw2.bnd n hn).1; rw [hl1]; omega) (fun n hn=>by
        rw [hbox3] at hn
        cases hn
        rw [hl1]; omega)
      obtain ⟨L3,rfl⟩ : ∃ L3,s3 = st++(⟨[s,iA U.params,iA U.regs,iA U.code,iA U.spill,bl],0,0⟩ :: ⟨[.sc (.slice none 0 0),iA 0,iA 0,iA 0,iA 0,.sc (.slice none 0 0)],0,0⟩ :: ⟨[],0,0⟩ :: ⟨[sz,iA U.params,iA U.regs,iA U.code,iA U.spill,blv],0,ver⟩ :: L3):=by
        have:=Agree.shape (st:=st) (M:=[⟨[s,iA U.params,iA U.regs,iA U.code,iA U.spill,bl],0,0⟩,⟨[.sc (.slice none 0 0),iA 0,iA 0,iA 0,iA 0,.sc (.slice none 0 0)],0,0⟩,⟨[],0,0⟩,⟨[sz,iA U.params,iA U.regs,iA U.code,iA U.spill,blv],0,ver⟩]) (N:=L++(⟨[],0,0⟩ :: (M2++[⟨[w,iA U.words[i].catch_],0,0⟩]))) (by simpa using hag3) (fun b hb=>by have:=(hB.own.bnd b hb).1; simp; omega)
        simpa using this
      have hbl:=hown3.arr.len
      have hblc:=isCell_len hbl
      have hblo:=cellsOf_len hbl
      have hnext : (U.words.take (i + 1)).map (fun w : WrdV=>{ w with ops:=w.ops.take k }) = (U.words.take i).map (fun w=>{ w with ops:=w.ops.take k })++[nb]:=by
        rw [hnb,← List.take_append_getElem hil,List.map_append]
        rfl
      have hwr : IntKind.wrap .i64 ((i : Int) + 1) = ((i + 1 : Nat) : Int):=by rw [wrap_small (by omega) (by omega)]; omega
      have hag5:=Agree.swap st [⟨[s,iA U.params,iA U.regs,iA U.code,iA U.spill,bl],0,0⟩,⟨[.sc (.slice none 0 0),iA 0,iA 0,iA 0,iA 0,.sc (.slice none 0 0)],0,0⟩,⟨[],0,0⟩] ⟨[sz,iA U.params,iA U.regs,iA U.code,iA U.spill,blv],0,ver⟩ ⟨[sz,iA U.params,iA U.regs,iA U.code,iA U.spill,bl2],0,(ver + 1)⟩ L3
      simp only [k1,k2,k3,k6,k7,k8,hblc,hblo,hwr,kB,kZ,kD,kE,xp,xj,xn,xe,xf,xh,xi,xm,xl,xk,reduceIte,reduceCtorEq,yd,yc,xv]
      refine ⟨m - 1,by omega,L3,ver + 1,bl2,i + 1,(fun j=>if j = ((U.words.take i).map fun w : WrdV=>{ w with ops:=w.ops.take k }).length then w else f j),rfl,rfl,by omega,by omega,?_,?_⟩
      · rw [hnext]; exact hB3.agree hag5 (fun b hb _ h=>by simp at h; omega)
      · rw [hnext]; exact ⟨hZ3.own.agree hag5 (fun b hb h=>by have:=hszn b hb; simp at h; omega),hZ3.sep⟩
    · have hin3 : i = n:=by have:=of_decide_eq_false hc2; omega
      have hout : (U.words.take i).map (fun w : WrdV=>{ w with ops:=w.ops.take k }) = (U.words.take n).map fun w=>{ w with ops:=w.ops.take k }:=by
        rw [hin3]
      have hbvc:=isCell_len hB.own.arr.len
      have hag:=Agree.swap st [⟨[s,iA U.params,iA U.regs,iA U.code,iA U.spill,bl],0,0⟩] ⟨[.sc (.slice none 0 0),iA 0,iA 0,iA 0,iA 0,.sc (.slice none 0 0)],0,0⟩ ⟨[sz,iA U.params,iA U.regs,iA U.code,iA U.spill,blv],0,1⟩ (⟨[],0,0⟩ :: ⟨[sz,iA U.params,iA U.regs,iA U.code,iA U.spill,blv],0,ver⟩ :: L)
      simp only [hc,hc2,k1,k2,k3,k6,k7,k8,l2,hcsz,hbvc,List.append_nil,kB,kZ,kD,kE,xp,xj,xn,xe,xf,xh,xi,xm,xl,xk,reduceIte,reduceCtorEq,yd,yc,xv]
      rw [hout] at hB hZ
      exact ⟨_,rfl,⟨_,rfl⟩,⟨sz,blv,f,rfl,(hZ.agree hag (fun b hb _ h=>by simp at h; omega)).low (by omega),(hB.agree hag (fun b hb _ h=>by simp at h; omega)).low (by omega)⟩⟩
  · have hi3 : i = U.words.length:=by have:=of_decide_eq_false hc; omega
    have hout : (U.words.take i).map (fun w : WrdV=>{ w with ops:=w.ops.take k }) = (U.words.take n).map fun w=>{ w with ops:=w.ops.take k }:=by
      rw [hi3,List.take_length,List.take_of_length_le (by omega)]
    have hbvc:=isCell_len hB.own.arr.len
    have hag:=Agree.swap st [⟨[s,iA U.params,iA U.regs,iA U.code,iA U.spill,bl],0,0⟩] ⟨[.sc (.slice none 0 0),iA 0,iA 0,iA 0,iA 0,.sc (.slice none 0 0)],0,0⟩ ⟨[sz,iA U.params,iA U.regs,iA U.code,iA U.spill,blv],0,1⟩ (⟨[],0,0⟩ :: ⟨[sz,iA U.params,iA U.regs,iA U.code,iA U.spill,blv],0,ver⟩ :: L)
    simp only [hc,k1,k2,k3,k6,k7,k8,l2,hcsz,hbvc,List.append_nil,kB,kZ,kD,kE,xp,xj,xn,xe,xf,xh,xi,xm,xl,xk,reduceIte,reduceCtorEq,yd,yc,xv]
    rw [hout] at hB hZ
    exact ⟨_,rfl,⟨_,rfl⟩,⟨sz,blv,f,rfl,(hZ.agree hag (fun b hb _ h=>by simp at h; omega)).low (by omega),(hB.agree hag (fun b hb _ h=>by simp at h; omega)).low (by omega)⟩⟩
end
end Go.VX.Seat
end
section
set_option maxRecDepth 4000
namespace Go.VX.Seat
open Go.Proofs
theorem OpV.eq_iff (x y : OpV) : x = y↔opEq x.k x.d x.a x.b x.c x.n x.g y.k y.d y.a y.b y.c y.n y.g = true:=by
  rw [opEq_iff]
  cases x; cases y
  simp
section
variable {X : Cx} {st : St}
theorem BlkV.eq_iff (x y : BlkV) : x = y↔(x.ops = y.ops∧endEq x.e.k x.e.a x.e.t x.e.e y.e.k y.e.a y.e.t y.e.e = true∧x.catch_ = y.catch_):=by
  rw [endEq_iff]
  cases x; cases y
  simp only [BlkV.mk.injEq]
  rename_i o1 e1 c1 o2 e2 c2
  cases e1; cases e2
  simp
end
end Go.VX.Seat
end
section
set_option maxRecDepth 4000
namespace Go.VX.Seat
open Go.Proofs
theorem cod_ext {U V : CodV} (h1 : U.sizes = V.sizes) (h2 : U.params = V.params) (h3 : U.regs = V.regs) (h4 : U.code = V.code) (h5 : U.spill = V.spill) (h6 : U.words = V.words) : U = V:=by
  cases U; cases V; simp_all
def FitsC (U : CodV) : Prop:=(U.sizes.length : Int) < 4611686018427387904∧(U.words.length : Int) < 4611686018427387904∧∀ b ∈ U.words,(b.ops.length : Int) < 4611686018427387904
section
variable {X : Cx} {st : St}
end
end Go.VX.Seat
end
section
set_option maxRecDepth 4000
namespace Go.VX.Seat
open Go.Proofs
theorem preA_box26 {v w : AV} {esz n : Nat} (h : preA v esz n = some w) : boxOf w = boxOf v:=by
  unfold preA at h
  split at h
  · split at h
    · cases h; rfl
    · cases h
  · split at h
    · cases h; rfl
    · cases h
  · cases h
theorem opR_preW {X : Cx} {K : Env→St→Post3→Prop} {Q : Post3} {d : Option Nat} {k : List VOpd} {env : Env} {s : St} {lo hi esz n : Nat} {x y : VOpd} {rows : List (List AV)} {vx : AV} (ex : x.ev env = vx) (ey : asNat? (y.ev env) = some n) (hx : ArrAt s lo hi vx esz rows) (hn : n≤rows.length)
    (h : ∀ w,ArrAt s lo hi w esz (rows.take n)→boxOf w = boxOf vx→keptA env s s k = true∧K (env.put d w) s Q) : opR X K d k env s Q (vop X.P (.slice none esz x none (some y) none) env s):=by
  subst ex
  obtain ⟨w,hw,ha⟩:=hx.pre n hn
  rw [v_slice_pre X.P env s esz x y n ey,hw]
  exact h w ha (preA_box26 hw)
structure WrdM (s : St) (lo : Nat) (bl : AV) (f : Nat→AV) (l : List WrdV) : Prop where
  arr : ArrAt s lo s.length bl 2 (wrdRows l f)
  box : ExactBox s bl 2 (wrdRows l f)
  ops : ∀ i (h : i < l.length),OpsAt s lo s.length (f i) l[i].ops
  sep : ∀ i,i < l.length→∀ b,boxOf bl = some b→boxOf (f i)≠some b
  bnd : ∀ b,boxOf bl = some b→lo≤b∧b < s.length
  fbnd : ∀ i,i < l.length→∀ b,boxOf (f i) = some b→lo≤b∧b < s.length
theorem OwnW.wm {s : St} {lo : Nat} {bl : AV} {f : Nat→AV} {l : List WrdV} (h : OwnW s lo bl f l) : WrdM s lo bl f l:=⟨h.own.arr,h.box,fun i hi=>(h.ops i hi).arr,h.sep1,h.own.bnd,fun i hi=>(h.ops i hi).bnd⟩
theorem WrdM.wrds {s : St} {lo : Nat} {bl : AV} {f : Nat→AV} {l : List WrdV} (h : WrdM s lo bl f l) : WrdsAt s lo s.length bl l:=⟨f,h.arr,h.ops⟩
theorem wrdRows_row (l : List WrdV) (f : Nat→AV) : ∀ r ∈ wrdRows l f,r.length = 2:=fun r hr=>by
  unfold wrdRows at hr
  obtain ⟨i,h,rfl⟩:=List.mem_iff_getElem.1 hr
  simp [WrdV.row]
theorem wrdRows_get (l : List WrdV) (f : Nat→AV) (i : Nat) (h : i < (wrdRows l f).length) : (wrdRows l f)[i] = (l[i]'(by rw [wrdRows_length] at h; exact h)).row (f i):=by simp [wrdRows]
theorem wrdRows_put (l : List WrdV) (f : Nat→AV) (i : Nat) (h : i < l.length) (w : AV) (o : List OpV) :
    wrdRows (l.set i { l[i] with ops:=o }) (fun j=>if j = i then w else f j) = (wrdRows l f).set i [w,iA l[i].catch_]:=by
  refine List.ext_getElem (by simp [wrdRows]) fun j h1 h2=>?_
  rw [wrdRows_get]
  simp only [List.getElem_set]
  by_cases hj : i = j
  · subst hj
    simp [WrdV.row]
  · simp only [if_neg hj,if_neg (fun e=>hj e.symm : ¬ j = i)]
    rw [wrdRows_get]
theorem WrdM.agree {X : Nat→Prop} {s s' : St} {lo : Nat} {bl : AV} {f : Nat→AV} {l : List WrdV} (h : WrdM s lo bl f l) (ha : Agree X s s') (hx : ∀ b,lo≤b→b < s.length→¬ X b) : WrdM s' lo bl f l where
  arr:=(h.arr.agree ha fun b hb=>hx b (h.bnd b hb).1 (h.bnd b hb).2).wide ha.len
  box:=h.box.agree ha fun b hb=>hx b (h.bnd b hb).1 (h.bnd b hb).2
  ops:=fun i hi=>((h.ops i hi).agree ha fun b hb=>hx b (h.fbnd i hi b hb).1 (h.fbnd i hi b hb).2).wide ha.len
  sep:=h.sep
  bnd:=fun b hb=>⟨(h.bnd b hb).1,Nat.lt_of_lt_of_le (h.bnd b hb).2 ha.len⟩
  fbnd:=fun i hi b hb=>⟨(h.fbnd i hi b hb).1,Nat.lt_of_lt_of_le (h.fbnd i hi b hb).2 ha.len⟩
theorem WrdM.put {s : St} {lo b ver : Nat} {full : Bool} {bl w : AV} {f : Nat→AV} {l : List WrdV} (h : WrdM s lo bl f l) (i : Nat) (hi : i < l.length) (hbl : bl = .sl b 0 l.length 2 full) (hb : s[b]? = some ⟨(wrdRows l f).flatten,0,ver⟩) {o : List OpV}
    (hw : OpsAt s lo s.length w o) (hwb : boxOf w = boxOf (f i)) :
    WrdM (s.set b ⟨splice (wrdRows l f).flatten (i * 2 + 0) [w],0,ver + 1⟩) lo bl (fun j=>if j = i then w else f j) (l.set i { l[i] with ops:=o }):=by
  have hbx : boxOf bl = some b:=by rw [hbl]; rfl
  have hbl2:=(h.bnd b hbx).2
  have hir : i < (wrdRows l f).length:=by rw [wrdRows_length]; exact hi
  have e1 : splice (wrdRows l f).flatten (i * 2 + 0) [w] = (wrdRows (l.set i { l[i] with ops:=o }) (fun j=>if j = i then w else f j)).flatten:=by
    rw [flatten_set (wrdRows_row l f) i 0 hir [w] (by simp),wrdRows_put l f i hi w o,wrdRows_get]
    rfl
  rw [e1]
  have hag:=Agree.set s b ⟨(wrdRows (l.set i { l[i] with ops:=o }) (fun j=>if j = i then w else f j)).flatten,0,ver + 1⟩
  have hb' : (s.set b ⟨(wrdRows (l.set i { l[i] with ops:=o }) (fun j=>if j = i then w else f j)).flatten,0,ver + 1⟩)[b]? = some ⟨(wrdRows (l.set i { l[i] with ops:=o }) (fun j=>if j = i then w else f j)).flatten,0,ver + 1⟩:=List.getElem?_set_self hbl2
  have hlen : (wrdRows (l.set i { l[i] with ops:=o }) (fun j=>if j = i then w else f j)).length = l.length:=by rw [wrdRows_length]; simp
  exact {
    arr:=by
      rw [hbl]
      exact (ArrAt.ofBox (full:=full) hb' (by decide) (wrdRows_row _ _) hlen.symm).wide' (h.bnd b hbx).1 (by simp; omega)
    box:=fun _=>⟨b,full,ver + 1,by rw [hlen]; exact hbl,hb'⟩
    ops:=fun j hj=>by
      simp only [List.length_set] at hj
      by_cases hji : j = i
      · subst hji
        simp only [if_true,List.getElem_set_self]
        exact (hw.agree hag fun c hc e=>h.sep _ hi b hbx (by rw [←hwb,hc,e])).wide (by simp)
      · simp only [if_neg hji,List.getElem_set_ne (fun e=>hji e.symm)]
        exact ((h.ops j hj).agree hag fun c hc e=>h.sep j hj b hbx (by rw [hc,e])).wide (by simp)
    sep:=fun j hj c hc=>by
      simp only [List.length_set] at hj
      by_cases hji : j = i
      · subst hji
        simp only [if_true]
        rw [hwb]
        exact h.sep _ hi c hc
      · simp only [if_neg hji]
        exact h.sep j hj c hc
    bnd:=fun c hc=>by simpa using h.bnd c hc
    fbnd:=fun j hj c hc=>by
      simp only [List.length_set] at hj
      by_cases hji : j = i
      · subst hji
        simp only [if_true] at hc
        rw [hwb] at hc
        simpa using h.fbnd _ hi c hc
      · simp only [if_neg hji] at hc
        simpa using h.fbnd j hj c hc }
end Go.VX.Seat
end
section
set_option maxRecDepth 4000
namespace Go.VX.Seat
open Go.Proofs
def trimO (l : List OpV) : List OpV:=(if decide ((l.length : Int)≤400) then l.take 20 else l).take 401
def trimW (w : WrdV) : WrdV:={ w with ops:=trimO w.ops }
def cut26 (C : CodV) : CodV :=
  if decide (40 < (C.words.length : Int)) && decide ((C.words.length : Int)≤60000) then cutC C 40 20
  else { cutC C 60001 1048576 with words:=(cutC C 60001 1048576).words.map trimW }
structure Tr26 (st : St) (C Z T : Box) (ml : Nat) (sz bl : AV) (zs : List Int) (L : St) (f : Nat→AV) (l : List WrdV) : Prop where
  t : L[ml]? = some T
  w : WrdM (st++(C :: Z :: L)) (st.length + 2) bl f l
  z : ArrAt (st++(C :: Z :: L)) (st.length + 2) (st++(C :: Z :: L)).length sz 1 (zs.map fun n=>[iA n])
theorem Tr26.get {st : St} {C Z T : Box} {ml : Nat} {sz bl : AV} {zs : List Int} {L : St} {f : Nat→AV} {l : List WrdV} (h : Tr26 st C Z T ml sz bl zs L f l) (i : Nat) (hi : i < l.length) {b : Nat} (hb : boxOf bl = some b) :
    elemA bl 2 (i : Int) = some (.ptr b (i * 2))∧St.at1 (st++(C :: Z :: L)) b (i * 2 + 0) = some (f i)∧lenA (f i) = some l[i].ops.length:=by
  have hir : i < (wrdRows l f).length:=by rw [wrdRows_length]; exact hi
  obtain ⟨b',full,ver,hbl,hbx⟩:=h.w.box (fun e=>by rw [e] at hir; simp at hir)
  have e : b' = b:=by rw [hbl] at hb; cases hb; rfl
  subst e
  obtain ⟨b1,o1,he1,_,ha1,_⟩:=h.w.arr.get i hir
  have hel : elemA bl 2 (i : Int) = some (.ptr b' (i * 2)):=by
    rw [hbl,elemA_sl,if_pos ⟨by omega,by omega,rfl⟩]
    simp
  rw [hel] at he1
  cases he1
  have h1:=ha1 [] 0 (by omega)
  rw [List.append_nil,wrdRows_get] at h1
  refine ⟨hel,h1,?_⟩
  have:=(h.w.ops i hi).len
  simpa using this
theorem Tr26.step {st : St} {C Z T : Box} {ml : Nat} {sz bl : AV} {zs : List Int} {L : St} {f : Nat→AV} {l : List WrdV} (h : Tr26 st C Z T ml sz bl zs L f l) (i : Nat) (hi : i < l.length) {b : Nat} (hb : boxOf bl = some b) (hb3 : b≠st.length + (ml + 1 + 1)) (hzb : boxOf sz≠some b)
    {w : AV} {o : List OpV} (hw : OpsAt (st++(C :: Z :: L)) (st.length + 2) (st++(C :: Z :: L)).length w o) (hwb : boxOf w = boxOf (f i)) (hwc : w.isCell = true) :
    ∃ L',St.put (st++(C :: Z :: L)) b (i * 2 + 0) [w] = some (st++(C :: Z :: L'))∧Tr26 st C Z T ml sz bl zs L' (fun j=>if j = i then w else f j) (l.set i { l[i] with ops:=o }):=by
  have hir : i < (wrdRows l f).length:=by rw [wrdRows_length]; exact hi
  obtain ⟨b',full,ver,hbl,hbx⟩:=h.w.box (fun e=>by rw [e] at hir; simp at hir)
  have e : b' = b:=by rw [hbl] at hb; cases hb; rfl
  subst e
  have hbb:=h.w.bnd b' hb
  have hfl : (wrdRows l f).flatten.length = (wrdRows l f).length * 2:=by
    have : ∀ (r : List (List AV)),(∀ x ∈ r,x.length = 2)→r.flatten.length = r.length * 2:=fun r=>by
      induction r with
      | nil=>intro _; rfl
      | cons x r ih=>intro hr; rw [List.flatten_cons,List.length_append,hr x (by simp),ih fun y hy=>hr y (by simp [hy]),List.length_cons]; omega
    exact this _ (wrdRows_row l f)
  have hput:=put_box (vs:=[w]) (o:=i * 2 + 0) hbx (by rw [hfl]; simp; omega) (by simp [hwc])
  rw [wrdRows_length] at hbl
  have hW:=h.w.put i hi hbl hbx hw hwb
  have hag:=Agree.set (st++(C :: Z :: L)) b' ⟨splice (wrdRows l f).flatten (i * 2 + 0) [w],0,ver + 1⟩
  obtain ⟨L',hL'⟩:=Agree.shape (st:=st) (M:=[C,Z]) (N:=L) hag (fun c hc=>by rw [hc]; simpa using hbb.1)
  simp only [List.cons_append,List.nil_append] at hL'
  rw [hL'] at hput hW hag
  refine ⟨L',hput,?_,hW,?_⟩
  · have hml:=(List.getElem?_eq_some_iff.1 h.t).1
    have h1:=hag.eq (st.length + (ml + 1 + 1)) (by simp; omega) (fun e=>hb3 e.symm)
    rw [List.getElem?_append_right (by omega),List.getElem?_append_right (by omega),Nat.add_sub_cancel_left,List.getElem?_cons_succ,List.getElem?_cons_succ,List.getElem?_cons_succ,List.getElem?_cons_succ] at h1
    rw [h1]
    exact h.t
  · exact (h.z.agree hag fun c hc e=>hzb (by rw [hc,e])).wide hag.len
section
variable {X : Cx} {st : St}
set_option maxHeartbeats 2000000 in
theorem w_l26_cut (h : On X) {lo hi : Nat} {v : AV} {U : CodV} (hv : CodAt st lo hi v U) :
    wpF X 10 [v] st fun r s=>∃ w,r = .ret w∧(∃ m,s = st++m)∧∃ lo hi,st.length≤lo∧CodAt s lo hi w (cut26 U):=by
  refine wpF_go (fn:=v_l26_cut) (by rw [h.F]; rfl) ?_
  have hm:=fun L=>CodAt.mono hv L
  obtain ⟨s,bl,rfl,hs,hb⟩:=hv
  have l2 : lenA bl = some U.words.length:=by
    obtain ⟨f,hb,_⟩:=hb
    have:=hb.len
    simpa using this
  clear hs hb
  simp only [v_l26_cut,l2,kB,kZ,kD,kE,xp,xj,xn,xe,xf,xh,xi,xm,xl,xk,reduceIte,reduceCtorEq,yd,yc,xv]
  have hcut : cut26 U = if decide (40 < (U.words.length : Int)) && decide ((U.words.length : Int)≤60000) then cutC U 40 20 else { cutC U 60001 1048576 with words:=(cutC U 60001 1048576).words.map trimW }:=rfl
  rw [hcut]
  clear hcut
  cases hc1 : decide (40 < (U.words.length : Int)) && decide ((U.words.length : Int)≤60000)
  case true =>
    rw [if_pos rfl]
    simp only [Bool.and_eq_true] at hc1
    simp only [hc1.1,hc1.2,l2,kB,kZ,kD,kE,xp,xj,xn,xe,xf,xh,xi,xm,xl,xk,reduceIte,reduceCtorEq,yd,yc,xv]
    refine callO_newC (w_r26_Cut h (hm _) 40 20 (by omega) (by omega)) ?_
    intro w m hw
    obtain ⟨sz,bl2,f,rfl,hz2,hb2⟩:=hw.ex
    have hszc:=isCell_len hz2.own.arr.len
    have hblc:=isCell_len hb2.own.arr.len
    simp only [hszc,hblc,kB,kZ,kD,kE,xp,xj,xn,xe,xf,xh,xi,xm,xl,xk,reduceIte,reduceCtorEq,yd,yc,xv]
    have hag:=Agree.swap st [⟨[s,iA U.params,iA U.regs,iA U.code,iA U.spill,bl],0,0⟩] ⟨[.sc (.slice none 0 0),iA 0,iA 0,iA 0,iA 0,.sc (.slice none 0 0)],0,0⟩ ⟨[sz,iA U.params,iA U.regs,iA U.code,iA U.spill,bl2],0,1⟩ m
    have hl : (st++([⟨[s,iA U.params,iA U.regs,iA U.code,iA U.spill,bl],0,0⟩,⟨[.sc (.slice none 0 0),iA 0,iA 0,iA 0,iA 0,.sc (.slice none 0 0)],0,0⟩] : St)).length = st.length + 2:=by simp
    rw [hl] at hz2 hb2
    simp only [List.append_assoc,List.cons_append,List.nil_append] at hz2 hb2
    first | refine ⟨_,rfl,⟨_,rfl⟩,?_⟩ | refine ⟨⟨_,rfl⟩,?_⟩
    have hO : OwnC (st++(⟨[s,iA U.params,iA U.regs,iA U.code,iA U.spill,bl],0,0⟩ :: ⟨[sz,iA U.params,iA U.regs,iA U.code,iA U.spill,bl2],0,1⟩ :: m)) st.length _ (cutC U 40 20):=⟨sz,bl2,f,rfl,(hz2.agree hag (fun b hb _ h=>by simp at h; omega)).low (by omega),(hb2.agree hag (fun b hb _ h=>by simp at h; omega)).low (by omega)⟩
    exact ⟨_,_,Nat.le_refl _,hO.cod⟩
  have hcond : (decide (40 < (U.words.length : Int)) = true→decide ((U.words.length : Int)≤60000) = false):=fun h=>by rw [h] at hc1; simpa using hc1
  obtain ⟨D,hD⟩ : ∃ D,cutC U 60001 1048576 = D:=⟨_,rfl⟩
  have hDl : D.words.length≤60001:=by rw [←hD]; simp [cutC]; omega
  have hwc:=w_r26_Cut (st:=st++[⟨[s,iA U.params,iA U.regs,iA U.code,iA U.spill,bl],0,0⟩,⟨[.sc (.slice none 0 0),iA 0,iA 0,iA 0,iA 0,.sc (.slice none 0 0)],0,0⟩]) h (hm _) 60001 1048576 (by omega) (by omega)
  rw [hD] at hwc
  rw [hD]
  simp only [Bool.false_eq_true,if_false]
  obtain hc2 | ⟨hc2,hc3⟩ : decide (40 < (U.words.length : Int)) = false∨(decide (40 < (U.words.length : Int)) = true∧decide ((U.words.length : Int)≤60000) = false):=by
    cases hc2 : decide (40 < (U.words.length : Int))
    · exact .inl rfl
    · exact .inr ⟨rfl,hcond hc2⟩
  · simp only [hc2,l2,kB,kZ,kD,kE,xp,xj,xn,xe,xf,xh,xi,xm,xl,xk,reduceIte,reduceCtorEq,yd,yc,xv]
    refine callO_newC hwc ?_
    intro w m hw
    obtain ⟨sz,bl2,f,rfl,hz2,hb2⟩:=hw.ex
    have hszc:=isCell_len hz2.own.arr.len
    have hblc:=isCell_len hb2.own.arr.len
    simp only [hszc,hblc,List.append_assoc,List.cons_append,List.nil_append,kB,kZ,kD,kE,xp,xj,xn,xe,xf,xh,xi,xm,xl,xk,reduceIte,reduceCtorEq,yd,yc,xv]
    have hl : (st++([⟨[s,iA U.params,iA U.regs,iA U.code,iA U.spill,bl],0,0⟩,⟨[.sc (.slice none 0 0),iA 0,iA 0,iA 0,iA 0,.sc (.slice none 0 0)],0,0⟩] : St)).length = st.length + 2:=by simp
    have hT0 : Tr26 st ⟨[s,iA U.params,iA U.regs,iA U.code,iA U.spill,bl],0,0⟩ ⟨[.sc (.slice none 0 0),iA 0,iA 0,iA 0,iA 0,.sc (.slice none 0 0)],0,0⟩ ⟨[sz,iA D.params,iA D.regs,iA D.code,iA D.spill,bl2],0,1⟩ m.length sz bl2 D.sizes (m++[⟨[sz,iA D.params,iA D.regs,iA D.code,iA D.spill,bl2],0,1⟩]) f D.words:=by
      have e : st++(⟨[s,iA U.params,iA U.regs,iA U.code,iA U.spill,bl],0,0⟩ :: ⟨[.sc (.slice none 0 0),iA 0,iA 0,iA 0,iA 0,.sc (.slice none 0 0)],0,0⟩ :: (m++[⟨[sz,iA D.params,iA D.regs,iA D.code,iA D.spill,bl2],0,1⟩])) = (st++[⟨[s,iA U.params,iA U.regs,iA U.code,iA U.spill,bl],0,0⟩,⟨[.sc (.slice none 0 0),iA 0,iA 0,iA 0,iA 0,.sc (.slice none 0 0)],0,0⟩]++m)++[⟨[sz,iA D.params,iA D.regs,iA D.code,iA D.spill,bl2],0,1⟩]:=by simp
      have hag:=Agree.app (fun _=>False) (st++[⟨[s,iA U.params,iA U.regs,iA U.code,iA U.spill,bl],0,0⟩,⟨[.sc (.slice none 0 0),iA 0,iA 0,iA 0,iA 0,.sc (.slice none 0 0)],0,0⟩]++m) [⟨[sz,iA D.params,iA D.regs,iA D.code,iA D.spill,bl2],0,1⟩]
      rw [hl] at hb2 hz2
      refine ⟨by simp,?_,?_⟩
      · rw [e]; exact hb2.wm.agree hag (fun _ _ _ h=>h)
      · rw [e]; exact (hz2.own.arr.agree hag (fun _ _ h=>h)).wide hag.len
    have hbn : ∀ b,boxOf bl2 = some b→b≠st.length + (m.length + 1 + 1)∧boxOf sz≠some b:=fun b hb=>by
      have h1:=(hb2.own.bnd b hb).2
      refine ⟨by simp at h1; omega,fun h2=>(hz2.sep b h2).1 hb⟩
    have hszl : ∀ b,boxOf sz = some b→st.length + 2≤b:=fun b hb=>by
      have h1:=(hz2.own.bnd b hb).1
      rw [hl] at h1
      exact h1
    have l4 : lenA bl2 = some D.words.length:=by
      have:=hb2.own.arr.len
      rw [wrdRows_length] at this
      exact this
    clear hz2 hb2 hw hwc
    refine loop_inv (fun n e s'=>∃ (i : Nat) (L : St) (f1 : Nat→AV),s' = st++(⟨[s,iA U.params,iA U.regs,iA U.code,iA U.spill,bl],0,0⟩ :: ⟨[.sc (.slice none 0 0),iA 0,iA 0,iA 0,iA 0,.sc (.slice none 0 0)],0,0⟩ :: L)∧e 2 = .ptr (st.length + 1) 0∧e 3 = .ptr (st.length + (m.length + 1 + 1)) 0∧e 4 = iA i∧i + n = D.words.length ∧
      Tr26 st ⟨[s,iA U.params,iA U.regs,iA U.code,iA U.spill,bl],0,0⟩ ⟨[.sc (.slice none 0 0),iA 0,iA 0,iA 0,iA 0,.sc (.slice none 0 0)],0,0⟩ ⟨[sz,iA D.params,iA D.regs,iA D.code,iA D.spill,bl2],0,1⟩ m.length sz bl2 D.sizes L f1 ((D.words.take i).map trimW++D.words.drop i)) ?_ D.words.length ?_
    case refine_2=>exact ⟨0,m++[⟨[sz,iA D.params,iA D.regs,iA D.code,iA D.spill,bl2],0,1⟩],f,rfl,rfl,rfl,rfl,by omega,by simpa using hT0⟩
    clear hT0 hl
    intro n e s' ⟨i,L,f1,hs',k2,k3,k4,him,hT⟩
    subst hs'
    have hT5 : St.at1 L m.length 5 = some bl2:=by rw [at1_box hT.t (by decide)]; rfl
    have hT6 : St.atN L m.length 0 6 = some [sz,iA D.params,iA D.regs,iA D.code,iA D.spill,bl2]:=by rw [atN_box hT.t (by decide) _ _ (by simp)]; rfl
    simp only [k2,k3,k4,hT5,l4,kB,kZ,kD,kE,xp,xj,xn,xe,xf,xh,xi,xm,xl,xk,reduceIte,reduceCtorEq,yd,yc,xv]
    refine condO_intro ?_ ?_<;>intro hc
    · have hil : i < D.words.length:=by have:=of_decide_eq_true hc; omega
      have hll : ((D.words.take i).map trimW++D.words.drop i).length = D.words.length:=by simp; omega
      have hgi : ((D.words.take i).map trimW++D.words.drop i)[i]'(by rw [hll]; exact hil) = D.words[i]:=by
        rw [List.getElem_append_right (by simp; omega)]
        simp [Nat.min_eq_left (Nat.le_of_lt hil)]
      obtain ⟨b,hb⟩ : ∃ b,boxOf bl2 = some b:=by
        obtain ⟨b,full,ver,hbl,_⟩:=hT.w.box (fun e=>by
          have h0 : D.words.length = 0:=by
            have:=congrArg List.length e
            rw [wrdRows_length,hll] at this
            exact this
          omega)
        exact ⟨b,by rw [hbl]; rfl⟩
      obtain ⟨hb3,hzb⟩:=hbn b hb
      obtain ⟨g1,g2,g3⟩:=hT.get i (by rw [hll]; exact hil) hb
      rw [hgi] at g3
      obtain ⟨l0,hl0⟩ : ∃ l0,((D.words.take i).map trimW++D.words.drop i) = l0:=⟨_,rfl⟩
      have hfin : l0.set i (trimW D.words[i]) = (D.words.take (i + 1)).map trimW++D.words.drop (i + 1):=by
        rw [←hl0,List.set_append_right _ _ (by simp; omega)]
        rw [←List.take_append_getElem hil,List.map_append]
        simp only [List.length_map,List.length_take,Nat.min_eq_left (Nat.le_of_lt hil),Nat.sub_self]
        rw [List.drop_eq_getElem_cons hil]
        simp only [List.set_cons_zero,List.map_cons,List.map_nil,List.append_assoc,List.cons_append,List.nil_append]
      have hi0 : i < l0.length:=by rw [←hl0,hll]; exact hil
      have hg0 : l0[i] = D.words[i]:=by
        have:=hgi
        simp only [hl0] at this
        exact this
      rw [hl0] at hT
      clear hgi hll hl0
      simp only [k2,k3,k4,hT5,g1,g2,g3,kB,kZ,kD,kE,xp,xj,xn,xe,xf,xh,xi,xm,xl,xk,reduceIte,reduceCtorEq,yd,yc,xv]
      refine anyCond m0 (fun e s'=>∃ (L' : St) (f2 : Nat→AV),s' = st++(⟨[s,iA U.params,iA U.regs,iA U.code,iA U.spill,bl],0,0⟩ :: ⟨[.sc (.slice none 0 0),iA 0,iA 0,iA 0,iA 0,.sc (.slice none 0 0)],0,0⟩ :: L')∧e 2 = .ptr (st.length + 1) 0∧e 3 = .ptr (st.length + (m.length + 1 + 1)) 0∧e 4 = iA i∧e 5 = .ptr b (i * 2) ∧
        Tr26 st ⟨[s,iA U.params,iA U.regs,iA U.code,iA U.spill,bl],0,0⟩ ⟨[.sc (.slice none 0 0),iA 0,iA 0,iA 0,iA 0,.sc (.slice none 0 0)],0,0⟩ ⟨[sz,iA D.params,iA D.regs,iA D.code,iA D.spill,bl2],0,1⟩ m.length sz bl2 D.sizes L' f2 (l0.set i { l0[i] with ops:=if decide ((D.words[i].ops.length : Int)≤400) then D.words[i].ops.take 20 else D.words[i].ops })) ?_ ?_
      · refine condO_intro ?_ ?_<;>intro hc4
        · have hml : min (D.words[i].ops.length : Int) 20 = ((min D.words[i].ops.length 20 : Nat) : Int):=by omega
          have hmt : D.words[i].ops.take (min D.words[i].ops.length 20) = D.words[i].ops.take 20:=by
            rcases Nat.le_total D.words[i].ops.length 20 with h | h
            · rw [Nat.min_eq_left h,List.take_length,List.take_of_length_le h]
            · rw [Nat.min_eq_right h]
          have hops:=hT.w.ops i hi0
          rw [hg0] at hops
          simp only [hc4,k2,k3,k4,hT5,g1,g2,g3,kB,kZ,kD,kE,xp,xj,xn,xe,xf,xh,xi,xm,xl,xk,reduceIte,reduceCtorEq,yd,yc,xv]
          refine opR_preW (vx:=f1 i) (n:=min D.words[i].ops.length 20) (lo:=st.length + 2) (hi:=_) (rows:=D.words[i].ops.map OpV.row) (by simp only [kB,kZ,kD,kE,xp,xj,xn,xe,xf,xh,xi,xm,xl,xk,reduceIte,reduceCtorEq,yd,yc,xv]) (by rw [hml]; simp only [kB,kZ,kD,kE,xp,xj,xn,xe,xf,xh,xi,xm,xl,xk,reduceIte,reduceCtorEq,yd,yc,xv]; rw [if_pos (by omega)]) hops (by simp; omega) ?_
          intro w1 hw1 hwb1
          rw [←List.map_take,hmt] at hw1
          have hw1l:=hw1.len
          have hwc1:=isCell_len hw1l
          have hwo1:=cellsOf_len hw1l
          obtain ⟨L',hput,hT'⟩:=hT.step i hi0 hb hb3 hzb hw1 hwb1 hwc1
          simp only [hwc1,hwo1,hput,hc4,if_true,k2,k3,k4,kB,kZ,kD,kE,xp,xj,xn,xe,xf,xh,xi,xm,xl,xk,reduceIte,reduceCtorEq,yd,yc,xv]
          exact ⟨L',_,rfl,hT'⟩
        · simp only [hc4,k2,k3,k4,Bool.false_eq_true,if_false,kB,kZ,kD,kE,xp,xj,xn,xe,xf,xh,xi,xm,xl,xk,reduceIte,reduceCtorEq,yd,yc,xv]
          have hse : l0.set i { l0[i] with ops:=D.words[i].ops } = l0:=by
            rw [show ({ l0[i] with ops:=D.words[i].ops } : WrdV) = l0[i] from by rw [hg0]]
            exact List.set_getElem_self _
          exact ⟨L,f1,rfl,by rw [hse]; exact hT⟩
      clear hT g1 g2 g3 hT5 hT6 k2 k3 k4
      rintro e s' ⟨L',f2,rfl,k2,k3,k4,k5,hT⟩
      obtain ⟨o1,ho1⟩ : ∃ o1,(if decide ((D.words[i].ops.length : Int)≤400) then D.words[i].ops.take 20 else D.words[i].ops) = o1:=⟨_,rfl⟩
      rw [ho1] at hT
      have hi1 : i < (l0.set i { l0[i] with ops:=o1 }).length:=by rw [List.length_set]; exact hi0
      obtain ⟨g1,g2,g3⟩:=hT.get i hi1 hb
      have hops:=hT.w.ops i hi1
      simp only [List.getElem_set_self] at g3 hops
      have hml : min (o1.length : Int) 401 = ((min o1.length 401 : Nat) : Int):=by omega
      have hmt : o1.take (min o1.length 401) = o1.take 401:=by
        rcases Nat.le_total o1.length 401 with h | h
        · rw [Nat.min_eq_left h,List.take_length,List.take_of_length_le h]
        · rw [Nat.min_eq_right h]
      simp only [k2,k3,k4,k5,g1,g2,g3,kB,kZ,kD,kE,xp,xj,xn,xe,xf,xh,xi,xm,xl,xk,reduceIte,reduceCtorEq,yd,yc,xv]
      refine opR_preW (vx:=f2 i) (n:=min o1.length 401) (lo:=st.length + 2) (hi:=_) (rows:=o1.map OpV.row) (by simp only [kB,kZ,kD,kE,xp,xj,xn,xe,xf,xh,xi,xm,xl,xk,reduceIte,reduceCtorEq,yd,yc,xv]) (by rw [hml]; simp only [kB,kZ,kD,kE,xp,xj,xn,xe,xf,xh,xi,xm,xl,xk,reduceIte,reduceCtorEq,yd,yc,xv]; rw [if_pos (by omega)]) hops (by simp; omega) ?_
      intro w1 hw1 hwb1
      rw [←List.map_take,hmt] at hw1
      have hw1l:=hw1.len
      have hwc1:=isCell_len hw1l
      have hwo1:=cellsOf_len hw1l
      obtain ⟨L2,hput,hT'⟩:=hT.step i hi1 hb hb3 hzb hw1 hwb1 hwc1
      have hwr : IntKind.wrap .i64 ((i : Int) + 1) = ((i + 1 : Nat) : Int):=by rw [wrap_small (by omega) (by omega)]; omega
      have hend : (l0.set i { l0[i] with ops:=o1 }).set i { (l0.set i { l0[i] with ops:=o1 })[i] with ops:=o1.take 401 } = (D.words.take (i + 1)).map trimW++D.words.drop (i + 1):=by
        rw [←hfin,List.set_set]
        congr 1
        simp only [List.getElem_set_self]
        rw [←ho1]
        unfold trimW trimO
        rw [hg0]
      rw [hend] at hT'
      simp only [hwc1,hwo1,hput,hwr,k2,k3,k4,k5,kB,kZ,kD,kE,xp,xj,xn,xe,xf,xh,xi,xm,xl,xk,reduceIte,reduceCtorEq,yd,yc,xv]
      exact ⟨n - 1,by omega,i + 1,L2,_,rfl,rfl,by omega,hT'⟩
    · have hi3 : i = D.words.length:=by have:=of_decide_eq_false hc; omega
      rw [hi3,List.take_length,List.drop_length,List.append_nil] at hT
      simp only [hc,k2,k3,k4,hT5,hT6,hszc,hblc,kB,kZ,kD,kE,xp,xj,xn,xe,xf,xh,xi,xm,xl,xk,reduceIte,reduceCtorEq,yd,yc,xv]
      have hag:=Agree.swap st [⟨[s,iA U.params,iA U.regs,iA U.code,iA U.spill,bl],0,0⟩] ⟨[.sc (.slice none 0 0),iA 0,iA 0,iA 0,iA 0,.sc (.slice none 0 0)],0,0⟩ ⟨[sz,iA D.params,iA D.regs,iA D.code,iA D.spill,bl2],0,1⟩ L
      refine ⟨⟨_,rfl⟩,st.length + 2,_,by omega,sz,bl2,rfl,?_,(hT.w.agree hag (fun b hb _ h=>by simp at h; omega)).wrds⟩
      exact (hT.z.agree hag (fun b hb h=>by
        have h1:=hszl b hb
        simp at h; omega)).wide hag.len
  · simp only [hc2,hc3,l2,kB,kZ,kD,kE,xp,xj,xn,xe,xf,xh,xi,xm,xl,xk,reduceIte,reduceCtorEq,yd,yc,xv]
    refine callO_newC hwc ?_
    intro w m hw
    obtain ⟨sz,bl2,f,rfl,hz2,hb2⟩:=hw.ex
    have hszc:=isCell_len hz2.own.arr.len
    have hblc:=isCell_len hb2.own.arr.len
    simp only [hszc,hblc,List.append_assoc,List.cons_append,List.nil_append,kB,kZ,kD,kE,xp,xj,xn,xe,xf,xh,xi,xm,xl,xk,reduceIte,reduceCtorEq,yd,yc,xv]
    have hl : (st++([⟨[s,iA U.params,iA U.regs,iA U.code,iA U.spill,bl],0,0⟩,⟨[.sc (.slice none 0 0),iA 0,iA 0,iA 0,iA 0,.sc (.slice none 0 0)],0,0⟩] : St)).length = st.length + 2:=by simp
    have hT0 : Tr26 st ⟨[s,iA U.params,iA U.regs,iA U.code,iA U.spill,bl],0,0⟩ ⟨[.sc (.slice none 0 0),iA 0,iA 0,iA 0,iA 0,.sc (.slice none 0 0)],0,0⟩ ⟨[sz,iA D.params,iA D.regs,iA D.code,iA D.spill,bl2],0,1⟩ m.length sz bl2 D.sizes (m++[⟨[sz,iA D.params,iA D.regs,iA D.code,iA D.spill,bl2],0,1⟩]) f D.words:=by
      have e : st++(⟨[s,iA U.params,iA U.regs,iA U.code,iA U.spill,bl],0,0⟩ :: ⟨[.sc (.slice none 0 0),iA 0,iA 0,iA 0,iA 0,.sc (.slice none 0 0)],0,0⟩ :: (m++[⟨[sz,iA D.params,iA D.regs,iA D.code,iA D.spill,bl2],0,1⟩])) = (st++[⟨[s,iA U.params,iA U.regs,iA U.code,iA U.spill,bl],0,0⟩,⟨[.sc (.slice none 0 0),iA 0,iA 0,iA 0,iA 0,.sc (.slice none 0 0)],0,0⟩]++m)++[⟨[sz,iA D.params,iA D.regs,iA D.code,iA D.spill,bl2],0,1⟩]:=by simp
      have hag:=Agree.app (fun _=>False) (st++[⟨[s,iA U.params,iA U.regs,iA U.code,iA U.spill,bl],0,0⟩,⟨[.sc (.slice none 0 0),iA 0,iA 0,iA 0,iA 0,.sc (.slice none 0 0)],0,0⟩]++m) [⟨[sz,iA D.params,iA D.regs,iA D.code,iA D.spill,bl2],0,1⟩]
      rw [hl] at hb2 hz2
      refine ⟨by simp,?_,?_⟩
      · rw [e]; exact hb2.wm.agree hag (fun _ _ _ h=>h)
      · rw [e]; exact (hz2.own.arr.agree hag (fun _ _ h=>h)).wide hag.len
    have hbn : ∀ b,boxOf bl2 = some b→b≠st.length + (m.length + 1 + 1)∧boxOf sz≠some b:=fun b hb=>by
      have h1:=(hb2.own.bnd b hb).2
      refine ⟨by simp at h1; omega,fun h2=>(hz2.sep b h2).1 hb⟩
    have hszl : ∀ b,boxOf sz = some b→st.length + 2≤b:=fun b hb=>by
      have h1:=(hz2.own.bnd b hb).1
      rw [hl] at h1
      exact h1
    have l4 : lenA bl2 = some D.words.length:=by
      have:=hb2.own.arr.len
      rw [wrdRows_length] at this
      exact this
    clear hz2 hb2 hw hwc
    refine loop_inv (fun n e s'=>∃ (i : Nat) (L : St) (f1 : Nat→AV),s' = st++(⟨[s,iA U.params,iA U.regs,iA U.code,iA U.spill,bl],0,0⟩ :: ⟨[.sc (.slice none 0 0),iA 0,iA 0,iA 0,iA 0,.sc (.slice none 0 0)],0,0⟩ :: L)∧e 2 = .ptr (st.length + 1) 0∧e 3 = .ptr (st.length + (m.length + 1 + 1)) 0∧e 4 = iA i∧i + n = D.words.length ∧
      Tr26 st ⟨[s,iA U.params,iA U.regs,iA U.code,iA U.spill,bl],0,0⟩ ⟨[.sc (.slice none 0 0),iA 0,iA 0,iA 0,iA 0,.sc (.slice none 0 0)],0,0⟩ ⟨[sz,iA D.params,iA D.regs,iA D.code,iA D.spill,bl2],0,1⟩ m.length sz bl2 D.sizes L f1 ((D.words.take i).map trimW++D.words.drop i)) ?_ D.words.length ?_
    case refine_2=>exact ⟨0,m++[⟨[sz,iA D.params,iA D.regs,iA D.code,iA D.spill,bl2],0,1⟩],f,rfl,rfl,rfl,rfl,by omega,by simpa using hT0⟩
    clear hT0 hl
    intro n e s' ⟨i,L,f1,hs',k2,k3,k4,him,hT⟩
    subst hs'
    have hT5 : St.at1 L m.length 5 = some bl2:=by rw [at1_box hT.t (by decide)]; rfl
    have hT6 : St.atN L m.length 0 6 = some [sz,iA D.params,iA D.regs,iA D.code,iA D.spill,bl2]:=by rw [atN_box hT.t (by decide) _ _ (by simp)]; rfl
    simp only [k2,k3,k4,hT5,l4,kB,kZ,kD,kE,xp,xj,xn,xe,xf,xh,xi,xm,xl,xk,reduceIte,reduceCtorEq,yd,yc,xv]
    refine condO_intro ?_ ?_<;>intro hc
    · have hil : i < D.words.length:=by have:=of_decide_eq_true hc; omega
      have hll : ((D.words.take i).map trimW++D.words.drop i).length = D.words.length:=by simp; omega
      have hgi : ((D.words.take i).map trimW++D.words.drop i)[i]'(by rw [hll]; exact hil) = D.words[i]:=by
        rw [List.getElem_append_right (by simp; omega)]
        simp [Nat.min_eq_left (Nat.le_of_lt hil)]
      obtain ⟨b,hb⟩ : ∃ b,boxOf bl2 = some b:=by
        obtain ⟨b,full,ver,hbl,_⟩:=hT.w.box (fun e=>by
          have h0 : D.words.length = 0:=by
            have:=congrArg List.length e
            rw [wrdRows_length,hll] at this
            exact this
          omega)
        exact ⟨b,by rw [hbl]; rfl⟩
      obtain ⟨hb3,hzb⟩:=hbn b hb
      obtain ⟨g1,g2,g3⟩:=hT.get i (by rw [hll]; exact hil) hb
      rw [hgi] at g3
      obtain ⟨l0,hl0⟩ : ∃ l0,((D.words.take i).map trimW++D.words.drop i) = l0:=⟨_,rfl⟩
      have hfin : l0.set i (trimW D.words[i]) = (D.words.take (i + 1)).map trimW++D.words.drop (i + 1):=by
        rw [←hl0,List.set_append_right _ _ (by simp; omega)]
        rw [←List.take_append_getElem hil,List.map_append]
        simp only [List.length_map,List.length_take,Nat.min_eq_left (Nat.le_of_lt hil),Nat.sub_self]
        rw [List.drop_eq_getElem_cons hil]
        simp only [List.set_cons_zero,List.map_cons,List.map_nil,List.append_assoc,List.cons_append,List.nil_append]
      have hi0 : i < l0.length:=by rw [←hl0,hll]; exact hil
      have hg0 : l0[i] = D.words[i]:=by
        have:=hgi
        simp only [hl0] at this
        exact this
      rw [hl0] at hT
      clear hgi hll hl0
      simp only [k2,k3,k4,hT5,g1,g2,g3,kB,kZ,kD,kE,xp,xj,xn,xe,xf,xh,xi,xm,xl,xk,reduceIte,reduceCtorEq,yd,yc,xv]
      refine anyCond m0 (fun e s'=>∃ (L' : St) (f2 : Nat→AV),s' = st++(⟨[s,iA U.params,iA U.regs,iA U.code,iA U.spill,bl],0,0⟩ :: ⟨[.sc (.slice none 0 0),iA 0,iA 0,iA 0,iA 0,.sc (.slice none 0 0)],0,0⟩ :: L')∧e 2 = .ptr (st.length + 1) 0∧e 3 = .ptr (st.length + (m.length + 1 + 1)) 0∧e 4 = iA i∧e 5 = .ptr b (i * 2) ∧
        Tr26 st ⟨[s,iA U.params,iA U.regs,iA U.code,iA U.spill,bl],0,0⟩ ⟨[.sc (.slice none 0 0),iA 0,iA 0,iA 0,iA 0,.sc (.slice none 0 0)],0,0⟩ ⟨[sz,iA D.params,iA D.regs,iA D.code,iA D.spill,bl2],0,1⟩ m.length sz bl2 D.sizes L' f2 (l0.set i { l0[i] with ops:=if decide ((D.words[i].ops.length : Int)≤400) then D.words[i].ops.take 20 else D.words[i].ops })) ?_ ?_
      · refine condO_intro ?_ ?_<;>intro hc4
        · have hml : min (D.words[i].ops.length : Int) 20 = ((min D.words[i].ops.length 20 : Nat) : Int):=by omega
          have hmt : D.words[i].ops.take (min D.words[i].ops.length 20) = D.words[i].ops.take 20:=by
            rcases Nat.le_total D.words[i].ops.length 20 with h | h
            · rw [Nat.min_eq_left h,List.take_length,List.take_of_length_le h]
            · rw [Nat.min_eq_right h]
          have hops:=hT.w.ops i hi0
          rw [hg0] at hops
          simp only [hc4,k2,k3,k4,hT5,g1,g2,g3,kB,kZ,kD,kE,xp,xj,xn,xe,xf,xh,xi,xm,xl,xk,reduceIte,reduceCtorEq,yd,yc,xv]
          refine opR_preW (vx:=f1 i) (n:=min D.words[i].ops.length 20) (lo:=st.length + 2) (hi:=_) (rows:=D.words[i].ops.map OpV.row) (by simp only [kB,kZ,kD,kE,xp,xj,xn,xe,xf,xh,xi,xm,xl,xk,reduceIte,reduceCtorEq,yd,yc,xv]) (by rw [hml]; simp only [kB,kZ,kD,kE,xp,xj,xn,xe,xf,xh,xi,xm,xl,xk,reduceIte,reduceCtorEq,yd,yc,xv]; rw [if_pos (by omega)]) hops (by simp; omega) ?_
          intro w1 hw1 hwb1
          rw [←List.map_take,hmt] at hw1
          have hw1l:=hw1.len
          have hwc1:=isCell_len hw1l
          have hwo1:=cellsOf_len hw1l
          obtain ⟨L',hput,hT'⟩:=hT.step i hi0 hb hb3 hzb hw1 hwb1 hwc1
          simp only [hwc1,hwo1,hput,hc4,if_true,k2,k3,k4,kB,kZ,kD,kE,xp,xj,xn,xe,xf,xh,xi,xm,xl,xk,reduceIte,reduceCtorEq,yd,yc,xv]
          exact ⟨L',_,rfl,hT'⟩
        · simp only [hc4,k2,k3,k4,Bool.false_eq_true,if_false,kB,kZ,kD,kE,xp,xj,xn,xe,xf,xh,xi,xm,xl,xk,reduceIte,reduceCtorEq,yd,yc,xv]
          have hse : l0.set i { l0[i] with ops:=D.words[i].ops } = l0:=by
            rw [show ({ l0[i] with ops:=D.words[i].ops } : WrdV) = l0[i] from by rw [hg0]]
            exact List.set_getElem_self _
          exact ⟨L,f1,rfl,by rw [hse]; exact hT⟩
      clear hT g1 g2 g3 hT5 hT6 k2 k3 k4
      rintro e s' ⟨L',f2,rfl,k2,k3,k4,k5,hT⟩
      obtain ⟨o1,ho1⟩ : ∃ o1,(if decide ((D.words[i].ops.length : Int)≤400) then D.words[i].ops.take 20 else D.words[i].ops) = o1:=⟨_,rfl⟩
      rw [ho1] at hT
      have hi1 : i < (l0.set i { l0[i] with ops:=o1 }).length:=by rw [List.length_set]; exact hi0
      obtain ⟨g1,g2,g3⟩:=hT.get i hi1 hb
      have hops:=hT.w.ops i hi1
      simp only [List.getElem_set_self] at g3 hops
      have hml : min (o1.length : Int) 401 = ((min o1.length 401 : Nat) : Int):=by omega
      have hmt : o1.take (min o1.length 401) = o1.take 401:=by
        rcases Nat.le_total o1.length 401 with h | h
        · rw [Nat.min_eq_left h,List.take_length,List.take_of_length_le h]
        · rw [Nat.min_eq_right h]
      simp only [k2,k3,k4,k5,g1,g2,g3,kB,kZ,kD,kE,xp,xj,xn,xe,xf,xh,xi,xm,xl,xk,reduceIte,reduceCtorEq,yd,yc,xv]
      refine opR_preW (vx:=f2 i) (n:=min o1.length 401) (lo:=st.length + 2) (hi:=_) (rows:=o1.map OpV.row) (by simp only [kB,kZ,kD,kE,xp,xj,xn,xe,xf,xh,xi,xm,xl,xk,reduceIte,reduceCtorEq,yd,yc,xv]) (by rw [hml]; simp only [kB,kZ,kD,kE,xp,xj,xn,xe,xf,xh,xi,xm,xl,xk,reduceIte,reduceCtorEq,yd,yc,xv]; rw [if_pos (by omega)]) hops (by simp; omega) ?_
      intro w1 hw1 hwb1
      rw [←List.map_take,hmt] at hw1
      have hw1l:=hw1.len
      have hwc1:=isCell_len hw1l
      have hwo1:=cellsOf_len hw1l
      obtain ⟨L2,hput,hT'⟩:=hT.step i hi1 hb hb3 hzb hw1 hwb1 hwc1
      have hwr : IntKind.wrap .i64 ((i : Int) + 1) = ((i + 1 : Nat) : Int):=by rw [wrap_small (by omega) (by omega)]; omega
      have hend : (l0.set i { l0[i] with ops:=o1 }).set i { (l0.set i { l0[i] with ops:=o1 })[i] with ops:=o1.take 401 } = (D.words.take (i + 1)).map trimW++D.words.drop (i + 1):=by
        rw [←hfin,List.set_set]
        congr 1
        simp only [List.getElem_set_self]
        rw [←ho1]
        unfold trimW trimO
        rw [hg0]
      rw [hend] at hT'
      simp only [hwc1,hwo1,hput,hwr,k2,k3,k4,k5,kB,kZ,kD,kE,xp,xj,xn,xe,xf,xh,xi,xm,xl,xk,reduceIte,reduceCtorEq,yd,yc,xv]
      exact ⟨n - 1,by omega,i + 1,L2,_,rfl,rfl,by omega,hT'⟩
    · have hi3 : i = D.words.length:=by have:=of_decide_eq_false hc; omega
      rw [hi3,List.take_length,List.drop_length,List.append_nil] at hT
      simp only [hc,k2,k3,k4,hT5,hT6,hszc,hblc,kB,kZ,kD,kE,xp,xj,xn,xe,xf,xh,xi,xm,xl,xk,reduceIte,reduceCtorEq,yd,yc,xv]
      have hag:=Agree.swap st [⟨[s,iA U.params,iA U.regs,iA U.code,iA U.spill,bl],0,0⟩] ⟨[.sc (.slice none 0 0),iA 0,iA 0,iA 0,iA 0,.sc (.slice none 0 0)],0,0⟩ ⟨[sz,iA D.params,iA D.regs,iA D.code,iA D.spill,bl2],0,1⟩ L
      refine ⟨⟨_,rfl⟩,st.length + 2,_,by omega,sz,bl2,rfl,?_,(hT.w.agree hag (fun b hb _ h=>by simp at h; omega)).wrds⟩
      exact (hT.z.agree hag (fun b hb h=>by
        have h1:=hszl b hb
        simp at h; omega)).wide hag.len
end
end Go.VX.Seat
end
section
set_option maxRecDepth 4000
namespace Go.VX.Seat
open Go.Proofs
section
variable {X : Cx} {st : St}
set_option maxHeartbeats 2000000 in
theorem j_r26_Same (h : On X) {lo hi lo' hi' : Nat} {v w : AV} {U V : CodV} (hv : CodAt st lo hi v U) (hw : CodAt st lo' hi' w V) (hf : FitsC U) :
    J X.P X.F X.H (.call 23 [v,w] st (.ret (bA (decide (U = V)))) st):=by
  refine pure_intro (by rw [h.F]; rfl) rfl ?_
  obtain ⟨s,bl,rfl,hs,fb,hb,hbo⟩:=hv
  obtain ⟨s',bl',rfl,hs',fb',hb',hbo'⟩:=hw
  have l1:=hs.len
  have l2:=hs'.len
  have l3:=hb.len
  have l4:=hb'.len
  simp only [List.length_map,List.length_mapIdx] at l1 l2 l3 l4
  have fin : ∀ (h : U≠V),decide (U = V) = false:=fun h=>decide_eq_false h
  simp only [v_r26_Same,kB,kZ,kD,kE,xp,xj,xn,xe,xf,xh,xi,xm,xl,xk,reduceIte,reduceCtorEq,yd,yc,xv]
  by_cases h1 : U.params = V.params
  case neg =>
    simp only [fin (fun e=>h1 (by rw [e])),ne_eq,h1,not_false_eq_true,not_true_eq_false,decide_true,decide_false,l1,l2,l3,l4,kB,kZ,kD,kE,xp,xj,xn,xe,xf,xh,xi,xm,xl,xk,reduceIte,reduceCtorEq,yd,yc,xv]
    first | exact ⟨_,rfl⟩ | exact ⟨rfl,_,rfl⟩ | exact ⟨trivial,_,rfl⟩ | exact ⟨[],(List.append_nil _).symm⟩
  by_cases h2 : U.regs = V.regs
  case neg =>
    simp only [fin (fun e=>h2 (by rw [e])),ne_eq,h1,h2,not_false_eq_true,not_true_eq_false,decide_true,decide_false,l1,l2,l3,l4,kB,kZ,kD,kE,xp,xj,xn,xe,xf,xh,xi,xm,xl,xk,reduceIte,reduceCtorEq,yd,yc,xv]
    first | exact ⟨_,rfl⟩ | exact ⟨rfl,_,rfl⟩ | exact ⟨trivial,_,rfl⟩ | exact ⟨[],(List.append_nil _).symm⟩
  by_cases h3 : U.code = V.code
  case neg =>
    simp only [fin (fun e=>h3 (by rw [e])),ne_eq,h1,h2,h3,not_false_eq_true,not_true_eq_false,decide_true,decide_false,l1,l2,l3,l4,kB,kZ,kD,kE,xp,xj,xn,xe,xf,xh,xi,xm,xl,xk,reduceIte,reduceCtorEq,yd,yc,xv]
    first | exact ⟨_,rfl⟩ | exact ⟨rfl,_,rfl⟩ | exact ⟨trivial,_,rfl⟩ | exact ⟨[],(List.append_nil _).symm⟩
  by_cases h4 : U.spill = V.spill
  case neg =>
    simp only [fin (fun e=>h4 (by rw [e])),ne_eq,h1,h2,h3,h4,not_false_eq_true,not_true_eq_false,decide_true,decide_false,l1,l2,l3,l4,kB,kZ,kD,kE,xp,xj,xn,xe,xf,xh,xi,xm,xl,xk,reduceIte,reduceCtorEq,yd,yc,xv]
    first | exact ⟨_,rfl⟩ | exact ⟨rfl,_,rfl⟩ | exact ⟨trivial,_,rfl⟩ | exact ⟨[],(List.append_nil _).symm⟩
  by_cases h5 : (U.sizes.length : Int) = (V.sizes.length : Int)
  case neg =>
    simp only [fin (fun e=>h5 (by rw [e])),ne_eq,h1,h2,h3,h4,h5,not_false_eq_true,not_true_eq_false,decide_true,decide_false,l1,l2,l3,l4,kB,kZ,kD,kE,xp,xj,xn,xe,xf,xh,xi,xm,xl,xk,reduceIte,reduceCtorEq,yd,yc,xv]
    first | exact ⟨_,rfl⟩ | exact ⟨rfl,_,rfl⟩ | exact ⟨trivial,_,rfl⟩ | exact ⟨[],(List.append_nil _).symm⟩
  by_cases h6 : (U.words.length : Int) = (V.words.length : Int)
  case neg =>
    simp only [fin (fun e=>h6 (by rw [e])),ne_eq,h1,h2,h3,h4,h5,h6,not_false_eq_true,not_true_eq_false,decide_true,decide_false,l1,l2,l3,l4,kB,kZ,kD,kE,xp,xj,xn,xe,xf,xh,xi,xm,xl,xk,reduceIte,reduceCtorEq,yd,yc,xv]
    first | exact ⟨_,rfl⟩ | exact ⟨rfl,_,rfl⟩ | exact ⟨trivial,_,rfl⟩ | exact ⟨[],(List.append_nil _).symm⟩
  simp only [ne_eq,h1,h2,h3,h4,h5,h6,not_false_eq_true,not_true_eq_false,decide_true,decide_false,l1,l2,l3,l4,kB,kZ,kD,kE,xp,xj,xn,xe,xf,xh,xi,xm,xl,xk,reduceIte,reduceCtorEq,yd,yc,xv]
  have n5 : U.sizes.length = V.sizes.length:=by omega
  have n6 : U.words.length = V.words.length:=by omega
  refine cutLoop (mB m0) [2,3] (fun _=>U.sizes = V.sizes) ?_ ?_
  · refine loop_live [2,3] (fun m e=>∃ i : Nat,i + m = U.sizes.length∧e 5 = iA i∧∀ j (h1 : j < U.sizes.length) (h2 : j < V.sizes.length),j < i→U.sizes[j] = V.sizes[j]) U.sizes.length ?_ ?_
    · exact ⟨0,by omega,by simp only [kB,kZ,kD,kE,xp,xj,xn,xe,xf,xh,xi,xm,xl,xk,reduceIte,reduceCtorEq,yd,yc,xv],fun j _ _ hj=>absurd hj (by omega)⟩
    · intro m e hL ⟨i,him,k5,hpre⟩
      simp only [kB,kZ,kD,kE,xp,xj,xn,xe,xf,xh,xi,xm,xl,xk,reduceIte,reduceCtorEq,yd,yc,xv] at hL
      obtain ⟨k2,k3⟩:=hL
      simp only [k2,k3,k5,l1,l2,kB,kZ,kD,kE,xp,xj,xn,xe,xf,xh,xi,xm,xl,xk,reduceIte,reduceCtorEq,yd,yc,xv]
      refine condO_intro ?_ ?_<;>intro hc
      · have hi : i < U.sizes.length:=by have:=of_decide_eq_true hc; omega
        have hi2 : i < V.sizes.length:=by omega
        obtain ⟨b1,o1,he1,hn1,ha1,hm1⟩:=hs.get i (by simpa using hi)
        obtain ⟨b2,o2,he2,hn2,ha2,hm2⟩:=hs'.get i (by simpa using hi2)
        have p1:=fun L=>ha1 L 0 (by omega)
        have p2:=fun L=>ha2 L 0 (by omega)
        simp only [List.getElem_map,Nat.add_zero,kB,kZ,kD,kE,xp,xj,xn,xe,xf,xh,xi,xm,xl,xk,reduceIte,reduceCtorEq,yd,yc,xv] at p1 p2
        simp only [k2,k3,k5,l1,l2,he1,he2,p1,p2,kB,kZ,kD,kE,xp,xj,xn,xe,xf,xh,xi,xm,xl,xk,reduceIte,reduceCtorEq,yd,yc,xv]
        refine condO_intro ?_ ?_<;>intro hq
        · have hne2 : U≠V:=fun e=>by
            subst e
            have:=of_decide_eq_true hq
            simp at this
          simp only [fin hne2,k2,k3,k5,l1,l2,kB,kZ,kD,kE,xp,xj,xn,xe,xf,xh,xi,xm,xl,xk,reduceIte,reduceCtorEq,yd,yc,xv]
          first | exact ⟨_,rfl⟩ | exact ⟨rfl,_,rfl⟩ | exact ⟨trivial,_,rfl⟩ | exact ⟨[],(List.append_nil _).symm⟩
        · have hwr : IntKind.wrap .i64 ((i : Int) + 1) = ((i + 1 : Nat) : Int):=by have:=hf.1; rw [wrap_small (by omega) (by omega)]; omega
          simp only [k2,k3,k5,l1,l2,hwr,kB,kZ,kD,kE,xp,xj,xn,xe,xf,xh,xi,xm,xl,xk,reduceIte,reduceCtorEq,yd,yc,xv]
          refine ⟨m - 1,by omega,i + 1,by omega,rfl,fun j h1 h2 hj=>?_⟩
          by_cases hji : j = i
          · subst hji
            have:=of_decide_eq_false hq
            omega
          · exact hpre j (by omega) h2 (by omega)
      · have hi : i = U.sizes.length:=by have:=of_decide_eq_false hc; omega
        have hss : U.sizes = V.sizes:=List.ext_getElem n5 fun j h1 h2=>hpre j h1 h2 (by omega)
        simp only [k2,k3,k5,l1,l2,kB,kZ,kD,kE,xp,xj,xn,xe,xf,xh,xi,xm,xl,xk,reduceIte,reduceCtorEq,yd,yc,xv]
        first | exact hss | exact ⟨trivial,hss⟩ | simpa using hss
  intro e0 hL hss
  simp only [kB,kZ,kD,kE,xp,xj,xn,xe,xf,xh,xi,xm,xl,xk,reduceIte,reduceCtorEq,yd,yc,xv] at hL
  obtain ⟨k2,k3⟩:=hL
  simp only [k2,k3,kB,kZ,kD,kE,xp,xj,xn,xe,xf,xh,xi,xm,xl,xk,reduceIte,reduceCtorEq,yd,yc,xv]
  refine loop_live [2,3] (fun m e=>∃ i : Nat,i + m = U.words.length∧e 6 = iA i∧∀ j (h1 : j < U.words.length) (h2 : j < V.words.length),j < i→U.words[j] = V.words[j]) U.words.length ?_ ?_
  · exact ⟨0,by omega,by simp only [kB,kZ,kD,kE,xp,xj,xn,xe,xf,xh,xi,xm,xl,xk,reduceIte,reduceCtorEq,yd,yc,xv],fun j _ _ hj=>absurd hj (by omega)⟩
  · intro m e hL ⟨i,him,k6,hpre⟩
    simp only [k2,k3,kB,kZ,kD,kE,xp,xj,xn,xe,xf,xh,xi,xm,xl,xk,reduceIte,reduceCtorEq,yd,yc,xv] at hL
    obtain ⟨q2,q3⟩:=hL
    simp only [q2,q3,k6,l3,l4,kB,kZ,kD,kE,xp,xj,xn,xe,xf,xh,xi,xm,xl,xk,reduceIte,reduceCtorEq,yd,yc,xv]
    refine condO_intro ?_ ?_<;>intro hc
    · have hi : i < U.words.length:=by have:=of_decide_eq_true hc; omega
      have hi2 : i < V.words.length:=by omega
      obtain ⟨b1,o1,he1,hn1,ha1,hm1⟩:=hb.get i (by simpa using hi)
      obtain ⟨b2,o2,he2,hn2,ha2,hm2⟩:=hb'.get i (by simpa using hi2)
      have p1:=fun L=>ha1 L 0 (by omega)
      have p2:=fun L=>ha2 L 0 (by omega)
      have r1:=fun L=>ha1 L 1 (by omega)
      have r2:=fun L=>ha2 L 1 (by omega)
      simp only [List.getElem_mapIdx,WrdV.row,kB,kZ,kD,kE,xp,xj,xn,xe,xf,xh,xi,xm,xl,xk,reduceIte,reduceCtorEq,yd,yc,xv] at p1 p2 r1 r2
      have m1:=(hbo i hi).len
      have m2:=(hbo' i hi2).len
      simp only [List.length_map] at m1 m2
      by_cases g1 : U.words[i].catch_ = V.words[i].catch_
      case neg =>
        have hne2 : U≠V:=fun e=>by subst e; exact g1 rfl
        simp only [fin hne2,ne_eq,g1,not_false_eq_true,not_true_eq_false,decide_true,decide_false,q2,q3,k6,l3,l4,he1,he2,p1,p2,r1,r2,m1,m2,kB,kZ,kD,kE,xp,xj,xn,xe,xf,xh,xi,xm,xl,xk,reduceIte,reduceCtorEq,yd,yc,xv]
        first | exact ⟨_,rfl⟩ | exact ⟨rfl,_,rfl⟩ | exact ⟨trivial,_,rfl⟩ | exact ⟨[],(List.append_nil _).symm⟩
      by_cases g2 : (U.words[i].ops.length : Int) = (V.words[i].ops.length : Int)
      case neg =>
        have hne2 : U≠V:=fun e=>by subst e; exact g2 rfl
        simp only [fin hne2,ne_eq,g1,g2,not_false_eq_true,not_true_eq_false,decide_true,decide_false,q2,q3,k6,l3,l4,he1,he2,p1,p2,r1,r2,m1,m2,kB,kZ,kD,kE,xp,xj,xn,xe,xf,xh,xi,xm,xl,xk,reduceIte,reduceCtorEq,yd,yc,xv]
        first | exact ⟨_,rfl⟩ | exact ⟨rfl,_,rfl⟩ | exact ⟨trivial,_,rfl⟩ | exact ⟨[],(List.append_nil _).symm⟩
      have hg2 : U.words[i].ops.length = V.words[i].ops.length:=by omega
      simp only [ne_eq,g1,g2,not_false_eq_true,not_true_eq_false,decide_true,decide_false,q2,q3,k6,l3,l4,he1,he2,p1,p2,r1,r2,m1,m2,kB,kZ,kD,kE,xp,xj,xn,xe,xf,xh,xi,xm,xl,xk,reduceIte,reduceCtorEq,yd,yc,xv]
      have hlenx:=hf.2.2 U.words[i] (List.getElem_mem hi)
      refine cutLoop (mB (mB m0)) [2,3,6] (fun _=>U.words[i].ops = V.words[i].ops) ?_ ?_
      · refine loop_live [2,3,6] (fun m e=>∃ k : Nat,k + m = U.words[i].ops.length∧e 7 = iA k∧∀ j (h1 : j < U.words[i].ops.length) (h2 : j < V.words[i].ops.length),j < k→U.words[i].ops[j] = V.words[i].ops[j]) U.words[i].ops.length ?_ ?_
        · exact ⟨0,by omega,by simp only [kB,kZ,kD,kE,xp,xj,xn,xe,xf,xh,xi,xm,xl,xk,reduceIte,reduceCtorEq,yd,yc,xv],fun j _ _ hj=>absurd hj (by omega)⟩
        · intro m e hL ⟨k,hkm,k7,hpre2⟩
          simp only [q2,q3,k6,kB,kZ,kD,kE,xp,xj,xn,xe,xf,xh,xi,xm,xl,xk,reduceIte,reduceCtorEq,yd,yc,xv] at hL
          obtain ⟨y2,y3,y6⟩:=hL
          simp only [y2,y3,y6,k7,l3,l4,he1,he2,p1,p2,m1,m2,kB,kZ,kD,kE,xp,xj,xn,xe,xf,xh,xi,xm,xl,xk,reduceIte,reduceCtorEq,yd,yc,xv]
          refine condO_intro ?_ ?_<;>intro hc3
          · have hk1 : k < U.words[i].ops.length:=by have:=of_decide_eq_true hc3; omega
            have hk2 : k < V.words[i].ops.length:=by omega
            obtain ⟨b3,o3,he3,hn3,_,_⟩:=(hbo i hi).get k (by simpa using hk1)
            obtain ⟨b4,o4,he4,hn4,_,_⟩:=(hbo' i hi2).get k (by simpa using hk2)
            simp only [List.getElem_map,OpV.row] at hn3 hn4
            simp only [y2,y3,y6,k7,l3,l4,he1,he2,p1,p2,m1,m2,he3,he4,hn3,hn4,h.P,c_neq_op,kB,kZ,kD,kE,xp,xj,xn,xe,xf,xh,xi,xm,xl,xk,reduceIte,reduceCtorEq,yd,yc,xv]
            refine condO_intro ?_ ?_<;>intro hq
            · have hne2 : U≠V:=fun e=>by
                subst e
                rw [(OpV.eq_iff _ _).1 rfl] at hq
                cases hq
              simp only [fin hne2,y2,y3,y6,k7,kB,kZ,kD,kE,xp,xj,xn,xe,xf,xh,xi,xm,xl,xk,reduceIte,reduceCtorEq,yd,yc,xv]
              first | exact ⟨_,rfl⟩ | exact ⟨rfl,_,rfl⟩ | exact ⟨trivial,_,rfl⟩ | exact ⟨[],(List.append_nil _).symm⟩
            · have he : U.words[i].ops[k] = V.words[i].ops[k]:=(OpV.eq_iff _ _).2 (by simpa using hq)
              have hwr : IntKind.wrap .i64 ((k : Int) + 1) = ((k + 1 : Nat) : Int):=by rw [wrap_small (by omega) (by omega)]; omega
              simp only [y2,y3,y6,k7,hwr,q2,q3,k6,kB,kZ,kD,kE,xp,xj,xn,xe,xf,xh,xi,xm,xl,xk,reduceIte,reduceCtorEq,yd,yc,xv]
              refine ⟨m - 1,by omega,k + 1,by omega,rfl,fun j h1 h2 hj=>?_⟩
              by_cases hji : j = k
              · subst hji; exact he
              · exact hpre2 j (by omega) h2 (by omega)
          · have hk1 : k = U.words[i].ops.length:=by have:=of_decide_eq_false hc3; omega
            have hoo : U.words[i].ops = V.words[i].ops:=List.ext_getElem hg2 fun j h1 h2=>hpre2 j h1 h2 (by omega)
            simp only [y2,y3,y6,k7,q2,q3,k6,kB,kZ,kD,kE,xp,xj,xn,xe,xf,xh,xi,xm,xl,xk,reduceIte,reduceCtorEq,yd,yc,xv]
            first | exact hoo | simpa using hoo
      intro e1 hL hoo
      simp only [q2,q3,k6,kB,kZ,kD,kE,xp,xj,xn,xe,xf,xh,xi,xm,xl,xk,reduceIte,reduceCtorEq,yd,yc,xv] at hL
      obtain ⟨y2,y3,y6⟩:=hL
      have hwr : IntKind.wrap .i64 ((i : Int) + 1) = ((i + 1 : Nat) : Int):=by have:=hf.2.1; rw [wrap_small (by omega) (by omega)]; omega
      have hwe : U.words[i] = V.words[i]:=by
        have a1:=g1
        have a2:=hoo
        generalize U.words[i] = x at *
        generalize V.words[i] = y at *
        cases x; cases y
        simp_all
      simp only [y2,y3,y6,hwr,k2,k3,kB,kZ,kD,kE,xp,xj,xn,xe,xf,xh,xi,xm,xl,xk,reduceIte,reduceCtorEq,yd,yc,xv]
      refine ⟨m - 1,by omega,i + 1,by omega,rfl,fun j h1 h2 hj=>?_⟩
      by_cases hji : j = i
      · subst hji; exact hwe
      · exact hpre j (by omega) h2 (by omega)
    · have hi : i = U.words.length:=by have:=of_decide_eq_false hc; omega
      have hww : U.words = V.words:=List.ext_getElem n6 fun j h1 h2=>hpre j h1 h2 (by omega)
      have heq : decide (U = V) = true:=decide_eq_true (cod_ext hss h1 h2 h3 h4 hww)
      simp only [heq,q2,q3,k6,l3,l4,kB,kZ,kD,kE,xp,xj,xn,xe,xf,xh,xi,xm,xl,xk,reduceIte,reduceCtorEq,yd,yc,xv]
      first | exact ⟨_,rfl⟩ | exact ⟨rfl,_,rfl⟩ | exact ⟨trivial,_,rfl⟩ | exact ⟨[],(List.append_nil _).symm⟩
end
end Go.VX.Seat
end
section
set_option maxRecDepth 4000
namespace Go.VX.Seat
open Go.Proofs
theorem cut26_fits (U : CodV) : FitsC (cut26 U):=by
  have hc : ∀ (n k : Nat),n≤1000000→k≤2000000→FitsC (cutC U n k):=fun n k hn hk=>by
    refine ⟨by simp [cutC]; omega,by simp [cutC]; omega,fun b hb=>?_⟩
    simp only [cutC,List.mem_map] at hb
    obtain ⟨w,_,rfl⟩:=hb
    simp
    omega
  unfold cut26
  split
  · exact hc 40 20 (by omega) (by omega)
  · obtain ⟨h1,h2,h3⟩:=hc 60001 1048576 (by omega) (by omega)
    refine ⟨h1,by simpa using h2,fun b hb=>?_⟩
    simp only [List.mem_map] at hb
    obtain ⟨w,hw,rfl⟩:=hb
    show ((trimO w.ops).length : Int) < _
    unfold trimO
    simp
    omega
theorem callO_codB {X : Cx} {env : Env} {st : St} {Q : Post3} {K : Env→St→Post3→Prop} {f : FuncId} {args : List AV} {dst : Option Nat} {keep : List VOpd} {C : CodV} (hw : wpF X f args st fun r s=>∃ w,r = .ret w∧(∃ m,s = st++m)∧∃ lo hi,st.length≤lo∧CodAt s lo hi w C)
    (h : ∀ w m lo hi,st.length≤lo→CodAt (st++m) lo hi w C→K (env.put dst w) (st++m) Q) : callO X f args dst keep K env st Q:=by
  refine wpF.mono hw ?_
  rintro r s ⟨w,rfl,⟨m,rfl⟩,lo,hi,h0,h1⟩
  exact ⟨kept_app _ _ _ _,h w m lo hi h0 h1⟩
section
variable {X : Cx} {st : St}
end
end Go.VX.Seat
end
section
set_option maxRecDepth 4000
namespace Go.VX.Seat
open Go.Proofs
abbrev Z6 : List AV:=[.sc (.slice none 0 0),iA 0,iA 0,iA 0,iA 0,.sc (.slice none 0 0)]
def codRow (sz : AV) (C : CodV) (bl : AV) : List AV:=[sz,iA C.params,iA C.regs,iA C.code,iA C.spill,bl]
structure LdB (r : Bool) (st T : St) (rb cb lo hi : Nat) (v : AV) (q : List Int) (e : Int) (cs : List AV) : Prop where
  rd : RdAt r T rb lo hi v q e
  res : ∃ ver,T[st.length]? = some ⟨Z6,0,ver⟩
  box : ∃ ver,T[cb]? = some ⟨cs,0,ver⟩
  pre : ∃ m,T = st++m
  lt : st.length < rb
  lt2 : rb < cb
section
variable {r : Bool} {st T T' : St} {rb cb lo hi : Nat} {v v' : AV} {q q' : List Int} {e e' : Int} {cs : List AV}
theorem LdB.len (h : LdB r st T rb cb lo hi v q e cs) : cb < T.length:=let ⟨_,hb⟩:=h.box; (List.getElem?_eq_some_iff.1 hb).1
theorem LdB.move {Y : Nat→Prop} (h : LdB r st T rb cb lo hi v q e cs) (a : Agree Y T T') (hY : ∀ b,b≤cb→Y b→b = rb) (rr : RdAt r T' rb lo hi v' q' e') : LdB r st T' rb cb lo hi v' q' e' cs where
  rd:=rr
  res:=let ⟨ver,hb⟩:=h.res; ⟨ver,a.box hb fun y=>by have:=h.lt; have:=h.lt2; have:=hY _ (by omega) y; omega⟩
  box:=let ⟨ver,hb⟩:=h.box; ⟨ver,a.box hb fun y=>by have:=h.lt2; have:=hY _ (Nat.le_refl _) y; omega⟩
  pre:=a.ext h.pre fun b hb y=>by have:=h.lt; have:=h.lt2; have:=hY b (by omega) y; omega
  lt:=h.lt
  lt2:=h.lt2
theorem LdB.grow (h : LdB r st T rb cb lo hi v q e cs) (L : St) : LdB r st (T++L) rb cb lo hi v q e cs:=h.move (Agree.app (fun _=>False) T L) (fun _ _ y=>y.elim) (h.rd.grow L)
theorem LdB.far {Y : Nat→Prop} (h : LdB r st T rb cb lo hi v q e cs) (a : Agree Y T T') (hY : ∀ b,b≤cb→¬ Y b) : LdB r st T' rb cb lo hi v q e cs :=
  h.move a (fun b hb y=>absurd y (hY b hb)) (h.rd.agree a fun b hb=>hY b (by have:=h.lt2; omega))
theorem LdB.put (h : LdB r st T rb cb lo hi v q e cs) {k : Nat} {vs cs' : List AV} (hk : k + vs.length≤cs.length) (hv : vs.all AV.isCell = true) (hs : splice cs k vs = cs') : ∃ T',St.put T cb k vs = some T'∧LdB r st T' rb cb lo hi v q e cs'∧Agree (fun n=>n = cb) T T':=by
  obtain ⟨ver,hb⟩:=h.box
  have h1:=h.lt
  have h2:=h.lt2
  have hput:=put_box hb hk hv
  have hag:=Agree.set T cb ⟨splice cs k vs,0,ver + 1⟩
  refine ⟨_,hput,⟨h.rd.agree hag fun b hb e=>by omega,?_,⟨ver + 1,?_⟩,hag.ext h.pre fun b hb e=>by omega,h1,h2⟩,hag⟩
  · obtain ⟨ver2,hr⟩:=h.res
    exact ⟨ver2,hag.box hr (by omega)⟩
  · rw [List.getElem?_set_self h.len,hs]
theorem LdB.x (h : LdB r st T rb cb lo hi v q e cs) (k : Nat) : St.at1 T cb k = cs[k]?:=let ⟨_,hb⟩:=h.box; at1_box hb (by decide) k
theorem LdB.xN (h : LdB r st T rb cb lo hi v q e cs) (hl : cs.length = 6) : St.atN T cb 0 6 = some cs:=by
  obtain ⟨_,hb⟩:=h.box
  rw [atN_box hb (by decide) 0 6 (by omega),List.drop_zero,← hl,List.take_length]
theorem LdB.out (h : LdB r st T rb cb lo hi v q e cs) {ws : List AV} (hl : ws.length = 6) (hc : ws.all AV.isCell = true) : ∃ T',St.put T (st.length + 0) 0 ws = some T'∧(∃ m,T' = st++m)∧St.atN T' (st.length + 0) 0 6 = some ws∧Agree (fun n=>n = st.length) T T':=by
  rw [Nat.add_zero]
  obtain ⟨ver,hb⟩:=h.res
  have hput:=put_box (o:=0) (vs:=ws) hb (by simp [hl]) hc
  have hsp : splice Z6 0 ws = ws:=by
    have : Z6.length = ws.length:=by rw [hl]; rfl
    simp [splice,this]
  rw [hsp] at hput
  have hag:=Agree.set T st.length ⟨ws,0,ver + 1⟩
  refine ⟨_,hput,hag.ext h.pre fun b hb e=>by omega,?_,hag⟩
  have hb2 : (T.set st.length ⟨ws,0,ver + 1⟩)[st.length]? = some ⟨ws,0,ver + 1⟩:=List.getElem?_set_self (List.getElem?_eq_some_iff.1 hb).1
  rw [atN_box hb2 (by decide) 0 6 (by omega),List.drop_zero,← hl,List.take_length]
end
theorem kept_at {env : Env} {s s' : St} {x : VOpd} {b o : Nat} (hx : x.ev env = .ptr b o) (h : s'[b]? = s[b]?) : keptA env s s' [x] = true:=by
  unfold keptA
  simp only [List.all_cons,List.all_nil,Bool.and_true,hx,h,adrBox]
  cases s[b]? with
  | none=>rfl
  | some x=>simp
theorem rep_step {α β : Type} (m : Rd α) (n : Nat) (l : List α) (K : List α→List Int→Except Int β) (q : List Int) :
    ((rdRep m (n + 1) q).bind fun y=>K (l++y.1) y.2) = (m q).bind fun x=>(rdRep m n x.2).bind fun y=>K ((l++[x.1])++y.1) y.2:=by
  have e : rdRep m (n + 1) q = (m q).bind fun x=>(rdRep m n x.2).bind fun y=>.ok (x.1 :: y.1,y.2):=rfl
  rw [e]
  cases m q with
  | error a=>rfl
  | ok x =>
    show ((rdRep m n x.2).bind _).bind _ = (rdRep m n x.2).bind _
    cases rdRep m n x.2 with
    | error a=>rfl
    | ok y =>
      show K (l++x.1 :: y.1) y.2 = K ((l++[x.1])++y.1) y.2
      rw [List.append_assoc]
      rfl
theorem rep_zero {α β : Type} (m : Rd α) (l : List α) (K : List α→List Int→Except Int β) (q : List Int) : ((rdRep m 0 q).bind fun y=>K (l++y.1) y.2) = K l q:=by
  show K (l++[]) q = _
  rw [List.append_nil]
def kW (n : Nat) (C : CodV) (x : WrdV × List Int) : Except Int CodV:=(rdRep rdWrd n x.2).bind fun l=>endD { C with words:=(C.words++[x.1])++l.1 } l.2
theorem wrd_step (n : Nat) (C : CodV) (q : List Int) : ((rdRep rdWrd (n + 1) q).bind fun l=>endD { C with words:=C.words++l.1 } l.2) = (rdN q).bind fun c=>(rdC 400 c.2).bind fun m=>(rdRep rdOp m.1.toNat m.2).bind fun l=>kW n C (⟨[]++l.1,c.1⟩,l.2):=by
  rw [rep_step rdWrd n C.words (fun l q=>endD { C with words:=l } q) q]
  have e : rdWrd q = (rdN q).bind fun c=>(rdC 400 c.2).bind fun n=>(rdRep rdOp n.1.toNat n.2).bind fun l=>.ok (⟨l.1,c.1⟩,l.2):=rfl
  rw [e]
  cases rdN q with
  | error a=>rfl
  | ok c =>
    show ((rdC 400 c.2).bind _).bind _ = (rdC 400 c.2).bind _
    cases rdC 400 c.2 with
    | error a=>rfl
    | ok m =>
      show ((rdRep rdOp m.1.toNat m.2).bind _).bind _ = (rdRep rdOp m.1.toNat m.2).bind _
      cases rdRep rdOp m.1.toNat m.2<;>rfl
theorem OwnW.snocL {X : Nat→Prop} {s s3 : St} {lo : Nat} {bl bl' w : AV} {f : Nat→AV} {l : List WrdV} {b : WrdV} (hB : OwnW s lo bl f l) (ha : Agree X s s3) (hX : ∀ n,lo≤n→n < s.length→X n→boxOf bl = some n) (hw : OwnS s3 lo w 7 (b.ops.map OpV.row)) (hwn : ∀ n,boxOf w = some n→s.length≤n)
    (hown : OwnS s3 lo bl' 2 (wrdRows l f++[b.row w])) (hex : ExactBox s3 bl' 2 (wrdRows l f++[b.row w])) (hbl : ∀ n,boxOf bl' = some n→s.length≤n∧boxOf w≠some n) : OwnW s3 lo bl' (fun j=>if j = l.length then w else f j) (l++[b]) where
  own:=by rw [wrdRows_snoc]; exact hown
  box:=by rw [wrdRows_snoc]; exact hex
  ops:=fun i hi=>by
    by_cases h : i < l.length
    · simp only [List.getElem_append_left h]
      rw [if_neg (by omega)]
      exact (hB.ops i h).agree ha fun n hn hx=>hB.sep1 i h n (hX n ((hB.ops i h).bnd n hn).1 ((hB.ops i h).bnd n hn).2 hx) hn
    · simp at hi
      have : i = l.length:=by omega
      subst this
      simpa using hw
  sep1:=fun i hi n hn=>by
    have h1:=hbl n hn
    by_cases h : i < l.length
    · rw [if_neg (by omega)]
      intro h2
      have:=((hB.ops i h).bnd n h2).2
      omega
    · simp at hi
      rw [if_pos (by omega)]
      exact h1.2
  sep2:=fun i j hi hj hij n hn=>by
    simp at hi hj
    by_cases h : i < l.length<;>by_cases h' : j < l.length
    · rw [if_neg (by omega)] at hn ⊢
      exact hB.sep2 i j h h' hij n hn
    · rw [if_neg (by omega)] at hn
      rw [if_pos (by omega)]
      intro h2
      have:=((hB.ops i h).bnd n hn).2
      have:=hwn n h2
      omega
    · rw [if_pos (by omega)] at hn
      rw [if_neg (by omega)]
      intro h2
      have:=((hB.ops j h').bnd n h2).2
      have:=hwn n hn
      omega
    · omega
theorem OwnY.snocL {X : Nat→Prop} {s s3 : St} {lo : Nat} {sz bl bl' w : AV} {f : Nat→AV} {zs : List Int} {l : List WrdV} {b : WrdV} (hZ : OwnY s lo sz bl f zs l) (ha : Agree X s s3) (hX : ∀ n,lo≤n→n < s.length→X n→boxOf bl = some n) (hwn : ∀ n,boxOf w = some n→s.length≤n) (hbl : ∀ n,boxOf bl' = some n→s.length≤n) :
    OwnY s3 lo sz bl' (fun j=>if j = l.length then w else f j) zs (l++[b]) where
  own:=hZ.own.agree ha fun n hn hx=>(hZ.sep n hn).1 (hX n (hZ.own.bnd n hn).1 (hZ.own.bnd n hn).2 hx)
  sep:=fun n hn=>by
    have h0:=(hZ.own.bnd n hn).2
    refine ⟨fun h=>by have:=hbl n h; omega,fun i hi h=>?_⟩
    simp at hi
    by_cases h' : i < l.length
    · rw [if_neg (by omega)] at h
      exact (hZ.sep n hn).2 i h' h
    · rw [if_pos (by omega)] at h
      have:=hwn n h
      omega
end Go.VX.Seat
end
section
set_option maxRecDepth 4000
namespace Go.VX.Seat
open Go.Proofs
section
variable {X : Cx} {st : St}
theorem one_row (s : St) (r : List AV) : ArrAt (s++[⟨r,0,0⟩]) s.length (s.length + 1) (.sl s.length 0 1 r.length true) r.length [r] :=
  ArrAt.ofBox (mode:=0) (ver:=0) (by simp) (by decide) (by simp) rfl
theorem gb_len {st : St} (hg : GB st) : glS.length≤st.length:=by
  by_cases h : glS.length = 0
  · omega
  · have hj : glS.length - 1 < glS.length:=by omega
    have:=(List.getElem?_eq_some_iff.1 (hg (glS.length - 1) _ (List.getElem?_eq_getElem hj))).1
    omega
def LdR (st S : St) (T : Except Int CodV) (r : CRes) : Prop :=
  (∃ e,T = .error e∧r = .ret (.tup [.agg Z6,iA e]))∨(∃ C lo w,T = .ok C∧chkR C = 0∧st.length≤lo∧OwnC S lo w C∧r = .ret (.tup [w,iA 0]))
set_option maxHeartbeats 8000000 in
theorem w_Load (h : OnH X) (hg : GB st) {lo hi : Nat} {v : AV} {q0 : List Int} (hv : ArrAt st lo hi v 1 (rowsB q0)) (hq : q0.length≤1000000000) (hr : ∀ b ∈ q0,0≤b∧b < 256) :
    wpF X 21 [v] st fun r s=>(∃ m,s = st++m)∧LdR st s (loadD q0) r:=by
  refine wpF_go (fn:=v_words_Load) (by rw [h.F]; rfl) ?_
  simp only [v_words_Load,kB,kZ,kD,kE,xp,xj,xn,xe,xf,xh,xi,xm,xl,xk,reduceIte,reduceCtorEq,yd,yc,xv]
  refine wpF.mono (w_OpenR h.toOn (hv.mono _) hq hr) ?_
  rintro r S1 ⟨v1,q1,e1,rfl,⟨m1,rfl⟩,r1,s1⟩
  refine ⟨keptA_nil _ _ _,?_⟩
  have hgl:=gb_len hg
  have hL0 : LdB false st ((st++[⟨Z6,0,0⟩]++m1)++[⟨Z6,0,0⟩]) (st++[⟨Z6,0,0⟩] : St).length (st++[⟨Z6,0,0⟩]++m1 : St).length lo hi v1 q1 e1 Z6:={
    rd:=r1.grow _
    res:=⟨0,by simp⟩
    box:=⟨0,by simp⟩
    pre:=⟨_,by rw [List.append_assoc,List.append_assoc]⟩
    lt:=by simp
    lt2:=by have:=r1.lt; omega }
  obtain ⟨rb,hrb⟩ : ∃ rb,(st++[⟨Z6,0,0⟩] : St).length = rb:=⟨_,rfl⟩
  obtain ⟨T1,hT1⟩ : ∃ T1,(st++[⟨Z6,0,0⟩]++m1 : St) = T1:=⟨_,rfl⟩
  rw [hrb,hT1] at hL0
  change xO _ _ _ (st++[⟨Z6,0,0⟩]++m1) _
  rw [hT1]
  change xO _ _ (Env.put _ _ (.ptr (st++[⟨Z6,0,0⟩] : St).length 0)) _ _
  rw [hrb]
  clear r1 hT1
  have hrbg : glS.length≤rb:=by have:=hL0.lt; omega
  clear hrb
  simp only [kB,kZ,kD,kE,xp,xj,xn,xe,xf,xh,xi,xm,xl,xk,reduceIte,reduceCtorEq,yd,yc,xv]
  generalize (T1++[⟨Z6,0,0⟩] : St) = T at *
  generalize T1.length = cb at *
  refine callCount h.toOn hL0.rd (by decide) ?_
  intro N v2 q2 e2 S2 r2 o2 d2 hN0 hN16
  replace s1:=s1.step d2
  have hL2:=hL0.move o2 (fun _ _ y=>y) r2
  clear hL0 r2 o2 d2
  obtain ⟨N,rfl⟩ : ∃ k : Nat,N = k:=⟨N.toNat,by omega⟩
  simp only [kB,kZ,kD,kE,xp,xj,xn,xe,xf,xh,xi,xm,xl,xk,reduceIte,reduceCtorEq,yd,yc,xv]
  refine anyLoop (mB m0) (fun e' s=>∃ v q e sz zs,e' 2 = .ptr (st.length + 0) 0∧e' 4 = .ptr rb 0∧e' 5 = .ptr cb 0∧LdB false st s rb cb lo hi v q e [sz,iA 0,iA 0,iA 0,iA 0,.sc (.slice none 0 0)]∧OwnS s (cb + 1) sz 1 (zs.map fun n=>[iA n])∧Sp (loadD q0) e q (fourD zs)) ?_ ?_
  · refine loop_inv (fun n e' s=>∃ (i : Nat) (v : AV) (q : List Int) (e : Int) (sz : AV) (zs : List Int),i + n = N∧zs.length = i∧e' 2 = .ptr (st.length + 0) 0∧e' 4 = .ptr rb 0∧e' 5 = .ptr cb 0∧e' 10 = iA N∧e' 11 = iA i∧LdB false st s rb cb lo hi v q e [sz,iA 0,iA 0,iA 0,iA 0,.sc (.slice none 0 0)]∧OwnS s (cb + 1) sz 1 (zs.map fun n=>[iA n])∧Sp (loadD q0) e q (fun q=>(rdRep rdN n q).bind fun l=>fourD (zs++l.1) l.2)) ?_ N ?_
    case refine_2=>exact ⟨0,v2,q2,e2,_,[],by omega,rfl,rfl,rfl,rfl,rfl,rfl,hL2,own_nil _ _ _,s1.cast rfl⟩
    clear s1 hL2
    rintro n e' s ⟨i,v,q,e,sz,zs,hin,hzl,k2,k4,k5,k10,k11,hL,hown,hs⟩
    have x0:=hL.x 0
    simp only [List.getElem?_cons_zero] at x0
    simp only [k2,k4,k5,k10,k11,kB,kZ,kD,kE,xp,xj,xn,xe,xf,xh,xi,xm,xl,xk,reduceIte,reduceCtorEq,yd,yc,xv]
    refine condO_intro ?_ ?_<;>intro hc
    · have hil : i < N:=by have:=of_decide_eq_true hc; omega
      obtain ⟨n,rfl⟩ : ∃ k,n = k + 1:=⟨n - 1,by omega⟩
      simp only [k2,k4,k5,k10,k11,x0,kB,kZ,kD,kE,xp,xj,xn,xe,xf,xh,xi,xm,xl,xk,reduceIte,reduceCtorEq,yd,yc,xv]
      refine callInt h.toOn hL.rd (fun S' a=>kept_at (b:=cb) (o:=0) (by simp only [kB,kZ,kD,kE,xp,xj,xn,xe,xf,xh,xi,xm,xl,xk,reduceIte,reduceCtorEq,yd,yc,xv]) (a.eq cb hL.len (by have:=hL.lt2; omega))) ?_
      intro n6 v6 q6 e6 S6 r6 o6 d6
      have hL6:=hL.move o6 (fun _ _ y=>y) r6
      have hlt2:=hL.lt2
      have hown6:=hown.agree o6 (fun b hb y=>by have:=(hown.bnd b hb).1; omega)
      have hs6:=(hs.cast (rep_step rdN n zs fourD q)).step d6
      have hrow:=one_row S6 [iA n6]
      have hlen:=hL6.len
      simp only [k2,k4,k5,k10,k11,kB,kZ,kD,kE,xp,xj,xn,xe,xf,xh,xi,xm,xl,xk,reduceIte,reduceCtorEq,yd,yc,xv]
      refine opR_append (vx:=sz) (vy:=.sl S6.length 0 1 1 true) (rows2:=[[iA n6]]) (by simp only [kB,kZ,kD,kE,xp,xj,xn,xe,xf,xh,xi,xm,xl,xk,reduceIte,reduceCtorEq,yd,yc,xv]) (by simp only [kB,kZ,kD,kE,xp,xj,xn,xe,xf,xh,xi,xm,xl,xk,reduceIte,reduceCtorEq,yd,yc,xv]) (own_frame hown6 _) (by simp; omega) hrow (by simp; omega) (by rfl) ?_
      intro w s' hag hown' hcase
      refine ⟨keptA_nil _ _ _,?_⟩
      have hL7:=(hL6.grow [⟨[iA n6],0,0⟩]).far hag (fun b hb y=>by have:=(hown6.bnd b y.2).1; omega)
      have hcc:=isCell_len hown'.arr.len
      have hcl:=cellsOf_len hown'.arr.len
      obtain ⟨s8,hp8,hL8,hag8⟩:=hL7.put (k:=0) (vs:=[w]) (cs':=[w,iA 0,iA 0,iA 0,iA 0,.sc (.slice none 0 0)]) (by simp) (by simp [hcc]) rfl
      have hwr : IntKind.wrap .i64 ((i : Int) + 1) = ((i + 1 : Nat) : Int):=by rw [wrap_small (by omega) (by omega)]; omega
      simp only [k2,k4,k5,k10,k11,hcl,hp8,hwr,kB,kZ,kD,kE,xp,xj,xn,xe,xf,xh,xi,xm,xl,xk,reduceIte,reduceCtorEq,yd,yc,xv]
      refine ⟨n,by omega,i + 1,v6,q6,e6,w,zs++[n6],by omega,by simp [hzl],rfl,hL8,?_,hs6⟩
      rw [List.map_append]
      exact hown'.agree hag8 fun b hb y=>by have:=(hown'.bnd b hb).1; omega
    · have hi2 : i = N:=by have:=of_decide_eq_false hc; omega
      have hn : n = 0:=by omega
      subst hn
      simp only [k2,k4,k5,kB,kZ,kD,kE,xp,xj,xn,xe,xf,xh,xi,xm,xl,xk,reduceIte,reduceCtorEq,yd,yc,xv]
      exact ⟨v,q,e,sz,zs,hL,hown,hs.cast (rep_zero rdN zs fourD q)⟩
  clear s1 hL2
  rintro e' s ⟨v3,q3,e3,sz,zs,k2,k4,k5,hL,hown,hs⟩
  simp only [k2,k4,k5,kB,kZ,kD,kE,xp,xj,xn,xe,xf,xh,xi,xm,xl,xk,reduceIte,reduceCtorEq,yd,yc,xv]
  refine callInt h.toOn hL.rd (fun _ _=>keptA_nil _ _ _) ?_
  intro na va qa ea Sa ra oa da
  have hla:=hL.move oa (fun _ _ y=>y) ra
  have hsa:=hs.step da
  dsimp only at hsa
  have hlt2:=hL.lt2
  simp only [k2,k4,k5,kB,kZ,kD,kE,xp,xj,xn,xe,xf,xh,xi,xm,xl,xk,reduceIte,reduceCtorEq,yd,yc,xv]
  refine callInt h.toOn hla.rd (fun _ _=>keptA_nil _ _ _) ?_
  intro nb vb qb eb Sb rb' ob db
  have hlb:=hla.move ob (fun _ _ y=>y) rb'
  have hsb:=hsa.step db
  dsimp only at hsb
  simp only [k2,k4,k5,kB,kZ,kD,kE,xp,xj,xn,xe,xf,xh,xi,xm,xl,xk,reduceIte,reduceCtorEq,yd,yc,xv]
  refine callInt h.toOn hlb.rd (fun _ _=>keptA_nil _ _ _) ?_
  intro nc vc qc ec Sc rc oc dc
  have hlc:=hlb.move oc (fun _ _ y=>y) rc
  have hsc:=hsb.step dc
  dsimp only at hsc
  simp only [k2,k4,k5,kB,kZ,kD,kE,xp,xj,xn,xe,xf,xh,xi,xm,xl,xk,reduceIte,reduceCtorEq,yd,yc,xv]
  refine callInt h.toOn hlc.rd (fun _ _=>keptA_nil _ _ _) ?_
  intro nd vd qd ed Sd rd od dd
  have hld:=hlc.move od (fun _ _ y=>y) rd
  have hsd:=hsc.step dd
  dsimp only at hsd
  have hownd:=hown.agree (((oa.trans' ob).trans' oc).trans' od) (fun b hb y=>by have:=(hown.bnd b hb).1; omega)
  obtain ⟨s1,hp1,hl1,ha1⟩:=hld.put (k:=1) (vs:=[iA na]) (cs':=[sz,iA na,iA 0,iA 0,iA 0,.sc (.slice none 0 0)]) (by simp) rfl rfl
  obtain ⟨s2,hp2,hl2,ha2⟩:=hl1.put (k:=2) (vs:=[iA nb]) (cs':=[sz,iA na,iA nb,iA 0,iA 0,.sc (.slice none 0 0)]) (by simp) rfl rfl
  obtain ⟨s3,hp3,hl3,ha3⟩:=hl2.put (k:=3) (vs:=[iA nc]) (cs':=[sz,iA na,iA nb,iA nc,iA 0,.sc (.slice none 0 0)]) (by simp) rfl rfl
  obtain ⟨s4,hp4,hl4,ha4⟩:=hl3.put (k:=4) (vs:=[iA nd]) (cs':=[sz,iA na,iA nb,iA nc,iA nd,.sc (.slice none 0 0)]) (by simp) rfl rfl
  have hown4:=(((hownd.agree ha1 fun b hb y=>by have:=(hownd.bnd b hb).1; omega).agree ha2 fun b hb y=>by have:=(hownd.bnd b hb).1; omega).agree ha3 fun b hb y=>by have:=(hownd.bnd b hb).1; omega).agree ha4 fun b hb y=>by have:=(hownd.bnd b hb).1; omega
  simp only [k2,k4,k5,hp1,hp2,hp3,hp4,kB,kZ,kD,kE,xp,xj,xn,xe,xf,xh,xi,xm,xl,xk,reduceIte,reduceCtorEq,yd,yc,xv]
  clear hla hlb hlc hld hl1 hl2 hl3 hp1 hp2 hp3 hp4 ha1 ha2 ha3 ha4 hsa hsb hsc hs hown hownd hL ra rb' rc rd da db dc dd oa ob oc od
  refine callCount h.toOn hl4.rd (by decide) ?_
  intro N v5 q5 e5 S5 r5 o5 d5 hN0 hN6
  have hL5:=hl4.move o5 (fun _ _ y=>y) r5
  have hs5:=hsd.step d5
  dsimp only at hs5
  have hown5:=hown4.agree o5 (fun b hb y=>by have:=(hown4.bnd b hb).1; omega)
  clear hl4 hsd hown4 r5 o5 d5
  obtain ⟨N,rfl⟩ : ∃ k : Nat,N = k:=⟨N.toNat,by omega⟩
  simp only [k2,k4,k5,kB,kZ,kD,kE,xp,xj,xn,xe,xf,xh,xi,xm,xl,xk,reduceIte,reduceCtorEq,yd,yc,xv]
  have hY5 : OwnY S5 (cb + 1) sz (.sc (.slice none 0 0)) (fun _=>.sc (.slice none 0 0)) zs []:=⟨hown5,fun b hb=>⟨fun e=>(by cases e),fun i hi=>absurd hi (by simp)⟩⟩
  have hW5 : OwnW S5 (cb + 1) (.sc (.slice none 0 0)) (fun _=>.sc (.slice none 0 0)) []:=⟨own_nil _ _ _,fun e=>absurd rfl e,fun i hi=>absurd hi (by simp),fun i hi=>absurd hi (by simp),fun i _ hi=>absurd hi (by simp)⟩
  clear hown5
  refine anyLoop (mB m0) (fun e' s=>∃ v q e sz bl f C,e' 2 = .ptr (st.length + 0) 0∧e' 4 = .ptr rb 0∧e' 5 = .ptr cb 0∧LdB false st s rb cb lo hi v q e (codRow sz C bl)∧OwnY s (cb + 1) sz bl f C.sizes C.words∧OwnW s (cb + 1) bl f C.words∧Sp (loadD q0) e q (endD C)) ?_ ?_
  · refine loop_inv (fun n e' s=>∃ (i : Nat) (v : AV) (q : List Int) (e : Int) (sz bl : AV) (f : Nat→AV) (C : CodV),i + n = N∧C.words.length = i∧e' 2 = .ptr (st.length + 0) 0∧e' 4 = .ptr rb 0∧e' 5 = .ptr cb 0∧e' 34 = iA N∧e' 35 = iA i∧LdB false st s rb cb lo hi v q e (codRow sz C bl)∧OwnY s (cb + 1) sz bl f C.sizes C.words∧OwnW s (cb + 1) bl f C.words∧Sp (loadD q0) e q (fun q=>(rdRep rdWrd n q).bind fun l=>endD { C with words:=C.words++l.1 } l.2)) ?_ N ?_
    case refine_2=>exact ⟨0,v5,q5,e5,sz,_,_,⟨zs,na,nb,nc,nd,[]⟩,by omega,rfl,by simp only [k2,kB,kZ,kD,kE,xp,xj,xn,xe,xf,xh,xi,xm,xl,xk,reduceIte,reduceCtorEq,yd,yc,xv],by simp only [k4,kB,kZ,kD,kE,xp,xj,xn,xe,xf,xh,xi,xm,xl,xk,reduceIte,reduceCtorEq,yd,yc,xv],by simp only [k5,kB,kZ,kD,kE,xp,xj,xn,xe,xf,xh,xi,xm,xl,xk,reduceIte,reduceCtorEq,yd,yc,xv],rfl,rfl,hL5,hY5,hW5,hs5.cast rfl⟩
    clear hs5 hL5 hY5 hW5 k2 k4 k5
    rintro n e' s ⟨i,v,q,e,sz,bl,f,C,hin,hcl,k2,k4,k5,k34,k35,hL,hY,hW,hs⟩
    have y1:=hL.rd.x 1
    simp only [List.getElem?_cons_succ,List.getElem?_cons_zero] at y1
    simp only [k2,k4,k5,k34,k35,kB,kZ,kD,kE,xp,xj,xn,xe,xf,xh,xi,xm,xl,xk,reduceIte,reduceCtorEq,yd,yc,xv]
    refine condO_intro ?_ ?_<;>intro hc
    · have hil : i < N:=by have:=of_decide_eq_true hc; omega
      obtain ⟨n,rfl⟩ : ∃ k,n = k + 1:=⟨n - 1,by omega⟩
      simp only [k2,k4,k5,k34,k35,y1,kB,kZ,kD,kE,xp,xj,xn,xe,xf,xh,xi,xm,xl,xk,reduceIte,reduceCtorEq,yd,yc,xv]
      refine condO_intro ?_ ?_<;>intro hc2
      · simp only [k2,k4,k5,kB,kZ,kD,kE,xp,xj,xn,xe,xf,xh,xi,xm,xl,xk,reduceIte,reduceCtorEq,yd,yc,xv]
        exact ⟨v,q,e,sz,bl,f,C,hL,hY,hW,hs.stay (of_decide_eq_true hc2)⟩
      simp only [k2,k4,k5,k34,k35,kB,kZ,kD,kE,xp,xj,xn,xe,xf,xh,xi,xm,xl,xk,reduceIte,reduceCtorEq,yd,yc,xv]
      have hs0:=hs.cast (k':=fun q=>(rdN q).bind fun c=>(rdC 400 c.2).bind fun m=>(rdRep rdOp m.1.toNat m.2).bind fun l=>kW n C (⟨[]++l.1,c.1⟩,l.2)) (wrd_step n C q)
      have hlt2:=hL.lt2
      refine callInt h.toOn hL.rd (fun _ _=>keptA_nil _ _ _) ?_
      intro ct v6 q6 e6 S6 r6 o6 d6
      have hL6:=hL.move o6 (fun _ _ y=>y) r6
      have hs6:=hs0.step d6
      dsimp only at hs6
      have hY6:=hY.agree o6 (fun b hb _ y=>by omega)
      have hW6:=hW.agree o6 (fun b hb _ y=>by omega)
      clear hs hs0 hL hY hW r6 o6 d6 y1
      simp only [k2,k4,k5,k34,k35,kB,kZ,kD,kE,xp,xj,xn,xe,xf,xh,xi,xm,xl,xk,reduceIte,reduceCtorEq,yd,yc,xv]
      have hL7:=hL6.grow [⟨[.sc (.slice none 0 0),iA ct],0,1⟩]
      have hwb7 : (S6++[⟨[.sc (.slice none 0 0),iA ct],0,1⟩] : St)[S6.length]? = some ⟨[.sc (.slice none 0 0),iA ct],0,1⟩:=by simp
      have hlen6:=hL6.len
      have hag7 : Agree (fun n=>n = rb∨S6.length≤n) S6 (S6++[⟨[.sc (.slice none 0 0),iA ct],0,1⟩]):=Agree.app _ _ _
      generalize (S6++[⟨[.sc (.slice none 0 0),iA ct],0,1⟩] : St) = T7 at *
      obtain ⟨wb,hwb⟩ : ∃ wb,S6.length = wb:=⟨_,rfl⟩
      rw [hwb] at hwb7 hlen6 hag7 ⊢
      refine callCount h.toOn hL7.rd (by decide) ?_
      intro Mn v8 q8 e8 S8 r8 o8 d8 hM0 hM4
      have hL8:=hL7.move o8 (fun _ _ y=>y) r8
      have hs8:=hs6.step d8
      dsimp only at hs8
      have hb8:=o8.box hwb7 (by omega)
      have hag8 : Agree (fun n=>n = rb∨wb≤n) S6 S8:=(hag7.trans o8).mono fun n _ y=>by
        rcases y with y | y
        · exact y
        · exact .inl y
      obtain ⟨Mn,rfl⟩ : ∃ k : Nat,Mn = k:=⟨Mn.toNat,by omega⟩
      clear hs6 hL7 hag7 hwb7 r8 o8 d8
      simp only [k2,k4,k5,k34,k35,kB,kZ,kD,kE,xp,xj,xn,xe,xf,xh,xi,xm,xl,xk,reduceIte,reduceCtorEq,yd,yc,xv]
      refine anyLoop (mB m0) (fun e' s=>∃ v q e ow ops ver,e' 2 = .ptr (st.length + 0) 0∧e' 4 = .ptr rb 0∧e' 5 = .ptr cb 0∧e' 6 = .ptr wb 0∧e' 34 = iA N∧e' 35 = iA i∧LdB false st s rb cb lo hi v q e (codRow sz C bl)∧s[wb]? = some ⟨[ow,iA ct],0,ver⟩∧OwnS s (wb + 1) ow 7 (ops.map OpV.row)∧Agree (fun n=>n = rb∨wb≤n) S6 s∧Sp (loadD q0) e q (fun q=>kW n C (⟨ops,ct⟩,q))) ?_ ?_
      · refine loop_inv (fun m e' s=>∃ (k : Nat) (v : AV) (q : List Int) (e : Int) (ow : AV) (ops : List OpV) (ver : Nat),k + m = Mn∧ops.length = k∧e' 2 = .ptr (st.length + 0) 0∧e' 4 = .ptr rb 0∧e' 5 = .ptr cb 0∧e' 6 = .ptr wb 0∧e' 34 = iA N∧e' 35 = iA i∧e' 46 = iA Mn∧e' 47 = iA k∧LdB false st s rb cb lo hi v q e (codRow sz C bl)∧s[wb]? = some ⟨[ow,iA ct],0,ver⟩∧OwnS s (wb + 1) ow 7 (ops.map OpV.row)∧Agree (fun n=>n = rb∨wb≤n) S6 s∧Sp (loadD q0) e q (fun q=>(rdRep rdOp m q).bind fun l=>kW n C (⟨ops++l.1,ct⟩,l.2))) ?_ Mn ?_
        case refine_2=>exact ⟨0,v8,q8,e8,_,[],1,by omega,rfl,by simp only [k2,kB,kZ,kD,kE,xp,xj,xn,xe,xf,xh,xi,xm,xl,xk,reduceIte,reduceCtorEq,yd,yc,xv],by simp only [k4,kB,kZ,kD,kE,xp,xj,xn,xe,xf,xh,xi,xm,xl,xk,reduceIte,reduceCtorEq,yd,yc,xv],by simp only [k5,kB,kZ,kD,kE,xp,xj,xn,xe,xf,xh,xi,xm,xl,xk,reduceIte,reduceCtorEq,yd,yc,xv],rfl,by simp only [k34,kB,kZ,kD,kE,xp,xj,xn,xe,xf,xh,xi,xm,xl,xk,reduceIte,reduceCtorEq,yd,yc,xv],by simp only [k35,kB,kZ,kD,kE,xp,xj,xn,xe,xf,xh,xi,xm,xl,xk,reduceIte,reduceCtorEq,yd,yc,xv],rfl,rfl,hL8,hb8,own_nil _ _ _,hag8,hs8.cast rfl⟩
        clear hs8 hL8 hag8 hb8 k2 k4 k5 k34 k35
        rintro m e' s ⟨k,v,q,e,ow,ops,ver,hkm,hol,k2,k4,k5,k6,k34,k35,k46,k47,hL,hwbx,hown,hag,hs⟩
        have y1:=hL.rd.x 1
        simp only [List.getElem?_cons_succ,List.getElem?_cons_zero] at y1
        have yw:=at1_box hwbx (by decide) 0
        simp only [List.getElem?_cons_zero] at yw
        simp only [k2,k4,k5,k6,k34,k35,k46,k47,kB,kZ,kD,kE,xp,xj,xn,xe,xf,xh,xi,xm,xl,xk,reduceIte,reduceCtorEq,yd,yc,xv]
        refine condO_intro ?_ ?_<;>intro hc3
        · have hkl : k < Mn:=by have:=of_decide_eq_true hc3; omega
          obtain ⟨m,rfl⟩ : ∃ j,m = j + 1:=⟨m - 1,by omega⟩
          simp only [k2,k4,k5,k6,k34,k35,k46,k47,y1,kB,kZ,kD,kE,xp,xj,xn,xe,xf,xh,xi,xm,xl,xk,reduceIte,reduceCtorEq,yd,yc,xv]
          refine condO_intro ?_ ?_<;>intro hc4
          · simp only [k2,k4,k5,k6,k34,k35,kB,kZ,kD,kE,xp,xj,xn,xe,xf,xh,xi,xm,xl,xk,reduceIte,reduceCtorEq,yd,yc,xv]
            exact ⟨v,q,e,ow,ops,ver,hL,hwbx,hown,hag,hs.stay (of_decide_eq_true hc4)⟩
          have hs1:=hs.cast (k':=fun q=>(rdOp q).bind fun x=>(rdRep rdOp m x.2).bind fun y=>kW n C (⟨(ops++[x.1])++y.1,ct⟩,y.2)) (rep_step rdOp m ops (fun l q=>kW n C (⟨l,ct⟩,q)) q)
          obtain ⟨mm,hmm⟩:=hL.pre
          have hgs : GB s:=by rw [hmm]; exact hg.app _
          simp only [k2,k4,k5,k6,k34,k35,k46,k47,yw,kB,kZ,kD,kE,xp,xj,xn,xe,xf,xh,xi,xm,xl,xk,reduceIte,reduceCtorEq,yd,yc,xv]
          refine callOpR h.toOn hgs hrbg hL.rd (fun S' a=>kept_at (b:=wb) (o:=0) (by simp only [kB,kZ,kD,kE,xp,xj,xn,xe,xf,xh,xi,xm,xl,xk,reduceIte,reduceCtorEq,yd,yc,xv]) (a.eq wb (List.getElem?_eq_some_iff.1 hwbx).1 (by omega))) ?_
          intro o v9 q9 e9 S9 r9 o9 d9
          have hL9:=hL.move o9 (fun _ _ y=>y) r9
          have hs9:=hs1.step d9
          dsimp only at hs9
          have hwb9:=o9.box hwbx (by omega)
          have hwl9:=(List.getElem?_eq_some_iff.1 hwb9).1
          have hown9:=hown.agree o9 (fun b hb y=>by have:=(hown.bnd b hb).1; omega)
          have hrow:=one_row S9 o.row
          have hagr : Agree (fun n=>n = rb∨wb≤n) S6 S9:=(hag.trans o9).mono fun n _ y=>by
            rcases y with y | y
            · exact y
            · exact .inl y
          simp only [OpV.row] at hrow
          simp only [k2,k4,k5,k6,k34,k35,k46,k47,OpV.row,kB,kZ,kD,kE,xp,xj,xn,xe,xf,xh,xi,xm,xl,xk,reduceIte,reduceCtorEq,yd,yc,xv]
          refine opR_append (vx:=ow) (vy:=.sl S9.length 0 1 7 true) (rows:=ops.map OpV.row) (rows2:=[o.row]) (lo:=wb + 1) (lo':=S9.length) (hi':=S9.length + 1) (by simp only [kB,kZ,kD,kE,xp,xj,xn,xe,xf,xh,xi,xm,xl,xk,reduceIte,reduceCtorEq,yd,yc,xv]) (by simp only [kB,kZ,kD,kE,xp,xj,xn,xe,xf,xh,xi,xm,xl,xk,reduceIte,reduceCtorEq,yd,yc,xv]) (own_frame hown9 _) (by simp; omega) hrow (by simp; omega) (by rfl) ?_
          intro w s' hag' hown' hcase
          refine ⟨keptA_nil _ _ _,?_⟩
          have hL10:=(hL9.grow [⟨[iA o.k,iA o.d,iA o.a,iA o.b,iA o.c,iA o.n,iA o.g],0,0⟩]).far hag' (fun b hb y=>by have:=(hown9.bnd b y.2).1; omega)
          have hwb10:=hag'.box (b:=wb) (by rw [List.getElem?_append_left hwl9]; exact hwb9) (fun y=>by have:=(hown9.bnd wb y.2).1; omega)
          have hcc:=isCell_len hown'.arr.len
          have hcl:=cellsOf_len hown'.arr.len
          have hp10:=put_box (o:=0) (vs:=[w]) hwb10 (by simp) (by simp [hcc])
          have ha10:=Agree.set s' wb ⟨splice [ow,iA ct] 0 [w],0,ver + 1⟩
          have hwb11 : (s'.set wb ⟨splice [ow,iA ct] 0 [w],0,ver + 1⟩)[wb]? = some ⟨[w,iA ct],0,ver + 1⟩:=by
            rw [List.getElem?_set_self (List.getElem?_eq_some_iff.1 hwb10).1]
            rfl
          have hL11:=hL10.far ha10 (fun b hb y=>by omega)
          have hown11:=hown'.agree ha10 (fun b hb y=>by have:=(hown'.bnd b hb).1; omega)
          have hag11 : Agree (fun n=>n = rb∨wb≤n) S6 (s'.set wb ⟨splice [ow,iA ct] 0 [w],0,ver + 1⟩):=(((hagr.trans (Agree.app (fun _=>False) S9 _)).trans hag').trans ha10).mono fun n _ y=>by
            rcases y with ((y | y) | y) | y
            · exact y
            · exact y.elim
            · have:=(hown9.bnd n y.2).1
              exact .inr (by omega)
            · exact .inr (by omega)
          generalize (s'.set wb ⟨splice [ow,iA ct] 0 [w],0,ver + 1⟩ : St) = s11 at *
          have hwr : IntKind.wrap .i64 ((k : Int) + 1) = ((k + 1 : Nat) : Int):=by rw [wrap_small (by omega) (by omega)]; omega
          simp only [k2,k4,k5,k6,k34,k35,k46,k47,hcl,hp10,hwr,kB,kZ,kD,kE,xp,xj,xn,xe,xf,xh,xi,xm,xl,xk,reduceIte,reduceCtorEq,yd,yc,xv]
          refine ⟨m,by omega,k + 1,v9,q9,e9,w,ops++[o],ver + 1,by omega,by simp [hol],rfl,hL11,hwb11,?_,hag11,hs9⟩
          rw [List.map_append]
          exact hown11
        · have hk2 : k = Mn:=by have:=of_decide_eq_false hc3; omega
          have hm : m = 0:=by omega
          subst hm
          simp only [k2,k4,k5,k6,k34,k35,kB,kZ,kD,kE,xp,xj,xn,xe,xf,xh,xi,xm,xl,xk,reduceIte,reduceCtorEq,yd,yc,xv]
          exact ⟨v,q,e,ow,ops,ver,hL,hwbx,hown,hag,hs.cast (rep_zero rdOp ops (fun l q=>kW n C (⟨l,ct⟩,q)) q)⟩
      clear hs8 hL8 hag8 hb8 k2 k4 k5 k34 k35
      rintro e' s ⟨v,q,e,ow,ops,ver,k2,k4,k5,k6,k34,k35,hL,hwbx,hown,hag,hs⟩
      have yb:=hL.x 5
      simp only [codRow,List.getElem?_cons_succ,List.getElem?_cons_zero] at yb
      have yw:=atN_box hwbx (by decide) 0 2 (by simp)
      simp only [List.drop_zero,List.take_succ_cons,List.take_zero,List.take_nil] at yw
      have hsl : wb < s.length:=(List.getElem?_eq_some_iff.1 hwbx).1
      have hrow:=one_row s [ow,iA ct]
      have hfar : ∀ b,cb + 1≤b→b < S6.length→¬ (b = rb∨wb≤b):=fun b h1 h2 y=>by omega
      have hbS:=hW6.own.agree hag (fun b hb=>hfar b (hW6.own.bnd b hb).1 (hW6.own.bnd b hb).2)
      have hcow:=isCell_len hown.arr.len
      have hccow:=cellsOf_len hown.arr.len
      simp only [k2,k4,k5,k6,k34,k35,yb,yw,hcow,hccow,kB,kZ,kD,kE,xp,xj,xn,xe,xf,xh,xi,xm,xl,xk,reduceIte,reduceCtorEq,yd,yc,xv]
      refine opR_append (vx:=bl) (vy:=.sl s.length 0 1 2 true) (rows:=wrdRows C.words f) (rows2:=[[ow,iA ct]]) (lo:=cb + 1) (lo':=s.length) (hi':=s.length + 1) (by simp only [kB,kZ,kD,kE,xp,xj,xn,xe,xf,xh,xi,xm,xl,xk,reduceIte,reduceCtorEq,yd,yc,xv]) (by simp only [kB,kZ,kD,kE,xp,xj,xn,xe,xf,xh,xi,xm,xl,xk,reduceIte,reduceCtorEq,yd,yc,xv]) (own_frame hbS _) (by simp; omega) hrow (by rw [wrdRows_length]; simp; omega) (by simp [hcow]; rfl) ?_
      intro w9 s9 hag9 hown9 hcase9
      refine ⟨keptA_nil _ _ _,?_⟩
      rcases hcase9 with ⟨ee,_⟩ | ⟨_,hb9,hex9⟩
      · cases ee
      have hb9' : ∀ n,boxOf w9 = some n→n = s.length + 1:=fun n hn=>by rw [hb9] at hn; cases hn; simp
      have hL10:=(hL.grow [⟨[ow,iA ct],0,0⟩]).far hag9 (fun b hb y=>by have:=(hW6.own.bnd b y.2).1; omega)
      have hblw : ∀ b,boxOf bl = some b→b < wb:=fun b hb=>by have:=(hW6.own.bnd b hb).2; omega
      have hagA : Agree (fun n=>((n = rb∨wb≤n)∨False)∨([[ow,iA ct]]≠[]∧boxOf bl = some n)) S6 s9:=(hag.trans (Agree.app (fun _=>False) s _)).trans hag9
      have hXA : ∀ n,cb + 1≤n→n < S6.length→(((n = rb∨wb≤n)∨False)∨([[ow,iA ct]]≠[]∧boxOf bl = some n))→boxOf bl = some n:=fun n h1 h2 y=>by
        rcases y with (y | y) | y
        · exact absurd y (hfar n h1 h2)
        · exact y.elim
        · exact y.2
      have how9 : OwnS s9 (cb + 1) ow 7 (ops.map OpV.row):=((own_frame hown [⟨[ow,iA ct],0,0⟩]).agree hag9 (fun b hb y=>by have:=(hown.bnd b hb).1; have:=hblw b y.2; omega)).low (by omega)
      have hown1 : ∀ n,boxOf ow = some n→S6.length≤n:=fun n hn=>by have:=(hown.bnd n hn).1; omega
      have hW9:=hW6.snocL (b:=⟨ops,ct⟩) hagA hXA how9 hown1 hown9 hex9 (fun n hn=>⟨by have:=hb9' n hn; omega,fun e=>by have:=(hown.bnd n e).2; have:=hb9' n hn; omega⟩)
      have hY9:=hY6.snocL (b:=⟨ops,ct⟩) hagA hXA hown1 (fun n hn=>by have:=hb9' n hn; omega)
      have hcc:=isCell_len hown9.arr.len
      have hcl9:=cellsOf_len hown9.arr.len
      obtain ⟨s10,hp10,hL11,ha10⟩:=hL10.put (k:=5) (vs:=[w9]) (cs':=codRow sz { C with words:=C.words++[⟨ops,ct⟩] } w9) (by simp [codRow]) (by simp [hcc]) rfl
      have hW10:=hW9.agree ha10 (fun b hb _ y=>by omega)
      have hY10:=hY9.agree ha10 (fun b hb _ y=>by omega)
      have hwr : IntKind.wrap .i64 ((i : Int) + 1) = ((i + 1 : Nat) : Int):=by rw [wrap_small (by omega) (by omega)]; omega
      simp only [k2,k4,k5,k6,k34,k35,hcl9,hp10,hwr,kB,kZ,kD,kE,xp,xj,xn,xe,xf,xh,xi,xm,xl,xk,reduceIte,reduceCtorEq,yd,yc,xv]
      exact ⟨n,by omega,i + 1,v,q,e,sz,w9,_,{ C with words:=C.words++[⟨ops,ct⟩] },by omega,by simp [hcl],rfl,hL11,hY10,hW10,hs⟩
    · have hi2 : i = N:=by have:=of_decide_eq_false hc; omega
      have hn : n = 0:=by omega
      subst hn
      simp only [k2,k4,k5,kB,kZ,kD,kE,xp,xj,xn,xe,xf,xh,xi,xm,xl,xk,reduceIte,reduceCtorEq,yd,yc,xv]
      exact ⟨v,q,e,sz,bl,f,C,hL,hY,hW,hs.cast (rep_zero rdWrd C.words (fun l q=>endD { C with words:=l } q) q)⟩
  clear hs5 hL5 hY5 hW5 k2 k4 k5
  rintro e' s ⟨v6,q6,e6,sz6,bl,f,C,k2,k4,k5,hL,hY,hW,hs⟩
  simp only [k2,k4,k5,kB,kZ,kD,kE,xp,xj,xn,xe,xf,xh,xi,xm,xl,xk,reduceIte,reduceCtorEq,yd,yc,xv]
  have hlt:=hL.lt
  have hlt2:=hL.lt2
  refine callEnd h.toOn hL.rd ?_
  intro S7 r7 o7
  have hL7:=hL.move o7 (fun _ _ y=>y) r7
  have hY7:=hY.agree o7 (fun b hb _ y=>by omega)
  have hW7:=hW.agree o7 (fun b hb _ y=>by omega)
  have hcsz:=isCell_len hY7.own.arr.len
  have hcbl:=isCell_len hW7.own.arr.len
  have hT : (endE q6 e6≠0→loadD q0 = .error (endE q6 e6))∧(endE q6 e6 = 0→loadD q0 = if decide (chkR C≠0) then .error (chkR C) else .ok C):=by
    unfold endE
    cases hl : decide (0 < (q6.length : Int))
    · have hl2 : decide (0 < q6.length) = false:=decide_eq_false (by have:=of_decide_eq_false hl; omega)
      refine ⟨fun h0=>hs.bad h0,fun h0=>?_⟩
      rw [hs.ok h0]
      unfold endD
      rw [hl2]
      rfl
    · have hl2 : decide (0 < q6.length) = true:=decide_eq_true (by have:=of_decide_eq_true hl; omega)
      refine ⟨fun h0=>hs.fail (by unfold endD; rw [hl2]; rfl),fun h0=>?_⟩
      exfalso
      by_cases h1 : e6 = 0
      · rw [if_pos rfl,decide_eq_true h1] at h0; have h4 : (4 : Int) = 0:=h0
        omega
      · rw [if_pos rfl,decide_eq_false h1] at h0; exact h1 h0
  obtain ⟨e7,he7⟩ : ∃ e7,endE q6 e6 = e7:=⟨_,rfl⟩
  rw [he7] at hT hL7
  clear hL hY hW hs r7 o7 he7
  have y1:=hL7.rd.x 1
  simp only [List.getElem?_cons_succ,List.getElem?_cons_zero] at y1
  simp only [k2,k4,k5,y1,kB,kZ,kD,kE,xp,xj,xn,xe,xf,xh,xi,xm,xl,xk,reduceIte,reduceCtorEq,yd,yc,xv]
  cases h0 : decide (e7 = 0)
  · have hne:=of_decide_eq_false h0
    have hn1 : decide (e7≠0) = true:=decide_eq_true hne
    obtain ⟨s8,hp8,hpre8,ha8,hg8⟩:=hL7.out (ws:=Z6) rfl rfl
    simp only [k2,k4,k5,y1,h0,hn1,hp8,ha8,kB,kZ,kD,kE,xp,xj,xn,xe,xf,xh,xi,xm,xl,xk,reduceIte,reduceCtorEq,yd,yc,xv]
    refine ⟨kept_at (b:=rb) (o:=1) (by simp only [k4,kB,kZ,kD,kE,xp,xj,xn,xe,xf,xh,xi,xm,xl,xk,reduceIte,reduceCtorEq,yd,yc,xv]) (hg8.eq rb hL7.rd.lt (by omega)),hpre8,.inl ⟨e7,hT.1 hne,rfl⟩⟩
  have he0:=of_decide_eq_true h0
  subst he0
  have hC : OwnC S7 (cb + 1) (.agg (codRow sz6 C bl)) C:=⟨sz6,bl,f,rfl,hY7,hW7⟩
  obtain ⟨mm,hmm⟩:=hL7.pre
  have hg7 : GB S7:=by rw [hmm]; exact hg.app _
  have xN:=hL7.xN rfl
  have j1:=j_words_Check h hg7 hC.cod
  rw [chk_eq] at j1
  simp only [codRow] at xN j1
  simp only [k2,k4,k5,y1,h0,xN,hcsz,hcbl,kB,kZ,kD,kE,xp,xj,xn,xe,xf,xh,xi,xm,xl,xk,reduceIte,reduceCtorEq,yd,yc,xv]
  refine callO_same j1 ?_
  obtain ⟨S8,hp8,r8,o8⟩:=hL7.rd.setE (chkR C)
  have hL8:=hL7.move o8 (fun _ _ y=>y) r8
  have y8:=hL8.rd.x 1
  have x8:=hL8.xN rfl
  have hC8:=hC.agree o8 (fun b hb _ y=>by omega)
  simp only [List.getElem?_cons_succ,List.getElem?_cons_zero] at y8
  simp only [codRow] at x8
  simp only [k2,k4,k5,hp8,y8,kB,kZ,kD,kE,xp,xj,xn,xe,xf,xh,xi,xm,xl,xk,reduceIte,reduceCtorEq,yd,yc,xv]
  cases hc : decide (chkR C≠0)
  · obtain ⟨s9,hp9,hpre9,ha9,hg9⟩:=hL8.out (ws:=codRow sz6 C bl) rfl (by simp [codRow,hcsz,hcbl]; exact ⟨rfl,rfl,rfl,rfl⟩)
    simp only [codRow] at hp9 ha9
    simp only [k2,k4,k5,hc,x8,hp9,ha9,hcsz,hcbl,kB,kZ,kD,kE,xp,xj,xn,xe,xf,xh,xi,xm,xl,xk,reduceIte,reduceCtorEq,yd,yc,xv]
    refine ⟨hpre9,.inr ⟨C,cb + 1,_,?_,Classical.byContradiction fun e=>of_decide_eq_false hc e,by omega,hC8.agree hg9 (fun b hb _ y=>by omega),rfl⟩⟩
    rw [hT.2 rfl,hc]
    rfl
  · obtain ⟨s9,hp9,hpre9,ha9,hg9⟩:=hL8.out (ws:=Z6) rfl rfl
    simp only [k2,k4,k5,hc,y8,hp9,ha9,kB,kZ,kD,kE,xp,xj,xn,xe,xf,xh,xi,xm,xl,xk,reduceIte,reduceCtorEq,yd,yc,xv]
    refine ⟨kept_at (b:=rb) (o:=1) (by simp only [k4,kB,kZ,kD,kE,xp,xj,xn,xe,xf,xh,xi,xm,xl,xk,reduceIte,reduceCtorEq,yd,yc,xv]) (hg9.eq rb hL8.rd.lt (by omega)),hpre9,.inl ⟨chkR C,?_,rfl⟩⟩
    rw [hT.2 rfl,hc]
    rfl
end
end Go.VX.Seat
end
section
set_option maxRecDepth 4000
namespace Go.VX.Seat
open Go.Proofs
theorem or8_all : ((List.range 256).all fun a=>decide (or8 (a : Int) = ((a % 128 + 128 : Nat) : Int))) = true:=by decide +kernel
theorem or8_eq (u : Nat) : or8 (IntKind.wrap .u8 (u : Int)) = IntKind.wrap .u8 (IntKind.wrap .u8 ((u : Int).tmod 128) + 128):=by
  have hw : ∀ n : Int,IntKind.wrap .u8 n = n % 256:=fun _=>rfl
  have h1 : IntKind.wrap .u8 (u : Int) = ((u % 256 : Nat) : Int):=by rw [hw]; omega
  have h2:=List.all_eq_true.1 or8_all (u % 256) (List.mem_range.2 (Nat.mod_lt _ (by decide)))
  rw [h1,of_decide_eq_true h2,hw,hw,Int.tmod_eq_emod_of_nonneg (by omega)]
  omega
theorem wrap64_eq (n : Int) : IntKind.wrap .u64 n = n % 18446744073709551616:=rfl
theorem wrapi_mod (n : Int) : IntKind.wrap .i64 n % 18446744073709551616 = n % 18446744073709551616:=by
  unfold IntKind.wrap
  simp only [IntKind.bits,IntKind.signed]
  simp
  split<;>omega
theorem not64_eq {a : Int} (h : 0≤a∧a < 18446744073709551616) : not64 a = 18446744073709551615 - a:=by
  obtain ⟨m,rfl⟩ : ∃ m : Nat,a = m:=⟨a.toNat,by omega⟩
  have h0 : BitVec.ofInt 64 18446744073709551615 = BitVec.allOnes 64:=by decide
  have h1 : (BitVec.ofInt 64 (m : Int)).toNat = m:=by simp [BitVec.toNat_ofInt]; omega
  unfold not64
  rw [h0,BitVec.allOnes_xor,BitVec.toNat_not,h1,wrap64_eq]
  omega
theorem zigR_eq (n : Int) (h : n < 0) : IntKind.wrap .u64 (IntKind.wrap .u64 (IntKind.wrap .u64 (IntKind.wrap .i64 (0 - IntKind.wrap .i64 (n + 1))) * 2) + 1) = zigP n:=by
  unfold zigP
  rw [decide_eq_true h,if_pos rfl,not64_eq (wrap64_bnd _)]
  have h1:=wrapi_mod (n + 1)
  have h2:=wrapi_mod (0 - IntKind.wrap .i64 (n + 1))
  generalize IntKind.wrap .i64 (0 - IntKind.wrap .i64 (n + 1)) = b at *
  generalize IntKind.wrap .i64 (n + 1) = a at *
  rw [wrap64_eq,wrap64_eq,wrap64_eq,wrap64_eq,wrap64_eq]
  omega
theorem zigR_pos (n : Int) (h : ¬ n < 0) : IntKind.wrap .u64 (IntKind.wrap .u64 n * 2) = zigP n:=by
  unfold zigP
  rw [decide_eq_false h]
  rfl
structure NbTo (S S' : St) (lo : Nat) (v w : AV) (p : List Int) : Prop where
  own : OwnS S' lo w 1 (rowsB p)
  ag : Agree (fun k=>boxOf v = some k) S S'
  nw : w = v∨∀ k,boxOf w = some k→S.length≤k
theorem NbTo.trans {S S1 S2 : St} {lo : Nat} {v v1 v2 : AV} {p1 p2 : List Int} (h : NbTo S S1 lo v v1 p1) (h2 : NbTo S1 S2 lo v1 v2 p2) : NbTo S S2 lo v v2 p2 where
  own:=h2.own
  ag:=(h.ag.trans h2.ag).mono fun n hn hx=>by
    rcases hx with hx | hx
    · exact hx
    · rcases h.nw with e | e
      · rw [e] at hx; exact hx
      · have:=e n hx; omega
  nw:=by
    rcases h2.nw with e | e
    · subst e
      exact h.nw
    · exact .inr fun n hn=>Nat.le_trans h.ag.len (e n hn)
theorem NbTo.grow {S : St} {lo : Nat} {v : AV} {p : List Int} (h : OwnS S lo v 1 (rowsB p)) (L : St) : NbTo S (S++L) lo v v p:=⟨own_frame h L,Agree.app _ _ _,.inl rfl⟩
theorem NbTo.refl {S : St} {lo : Nat} {v : AV} {p : List Int} (h : OwnS S lo v 1 (rowsB p)) : NbTo S S lo v v p:=⟨h,Agree.refl _ _,.inl rfl⟩
theorem NbTo.box {S S' : St} {lo : Nat} {v w : AV} {p : List Int} (h : NbTo S S' lo v w p) {b : Nat} {x : Box} (hb : S[b]? = some x) (hv : boxOf v≠some b) : S'[b]? = some x:=h.ag.box hb hv
theorem NbTo.sep {S S' : St} {lo : Nat} {v w : AV} {p : List Int} (h : NbTo S S' lo v w p) {b : Nat} (hb : b < S.length) (hv : boxOf v≠some b) : boxOf w≠some b:=fun e=>by
  rcases h.nw with q | q
  · rw [q] at e; exact hv e
  · have:=q b e; omega
theorem NbTo.arr {S S' : St} {lo : Nat} {v w : AV} {p : List Int} (h : NbTo S S' lo v w p) {l h2 esz : Nat} {a : AV} {rows : List (List AV)} (ha : ArrAt S l h2 a esz rows) (hs : ∀ b,boxOf a = some b→boxOf v≠some b) : ArrAt S' l h2 a esz rows:=ha.agree h.ag hs
theorem kept_list {env : Env} {s s' : St} {l : List VOpd} {b : Nat} (hx : ∀ x ∈ l,∃ o,x.ev env = .ptr b o) (h : s'[b]? = s[b]?) : keptA env s s' l = true:=by
  unfold keptA
  rw [List.all_eq_true]
  intro x hm
  obtain ⟨o,e⟩:=hx x hm
  simp only [e,h,adrBox]
  cases s[b]? with
  | none=>rfl
  | some x=>simp
theorem c_remu (P : Program) (t : TypeId) (ox oy : Operand) (a : Int) : closed P (do eqGuard .rem t ox oy (.int .u64 a) (.int .u64 128); binOp .rem t (.int .u64 a) (.int .u64 128)) = some (.int .u64 (a.tmod 128)):=by kernel_rfl
theorem c_quou (P : Program) (t : TypeId) (ox oy : Operand) (a : Int) : closed P (do eqGuard .quo t ox oy (.int .u64 a) (.int .u64 128); binOp .quo t (.int .u64 a) (.int .u64 128)) = some (.int .u64 (IntKind.wrap .u64 (a.tdiv 128))):=by kernel_rfl
theorem c_neg (P : Program) (a : Int) : closed P (Op.unary .neg (.int .i64 a)) = some (.int .i64 (IntKind.wrap .i64 (0 - a))):=rfl
section
variable {X : Cx}
theorem opR_pushB {K : Env→St→Post3→Prop} {Q : Post3} {d : Option Nat} {env : Env} {s : St} {lo : Nat} {v : AV} {p : List Int} (b : Int) {x y : VOpd} (hw : OwnS s lo v 1 (rowsB p)) (hlo : lo≤s.length) (hp : p.length≤200000000) (ex : x.ev env = v) (ey : y.ev env = .sl s.length 0 1 1 true)
    (h : ∀ w s',NbTo s s' lo v w (p++[b])→(∀ k,boxOf w = some k→s.length≤k)→K (env.put d w) s' Q) :
    opR X K d [] env (s++[⟨[.sc (.int .u8 b)],0,0⟩]) Q (vop X.P (.append 1 1 x y) env (s++[⟨[.sc (.int .u8 b)],0,0⟩])):=by
  have hy : ArrAt (s++[⟨[.sc (.int .u8 b)],0,0⟩]) s.length (s.length + 1) (.sl s.length 0 1 1 true) 1 (rowsB [b]):=ArrAt.ofBox (mode:=0) (ver:=0) (by simp) (by decide) (by simp) (by simp)
  refine opR_append (vx:=v) (rows:=rowsB p) (rows2:=rowsB [b]) (lo:=lo) ex ey (own_frame hw _) (by simp; omega) hy (by simp; omega) (by rfl) ?_
  intro w s' hag hown hcase
  refine ⟨keptA_nil _ _ _,?_⟩
  rcases hcase with ⟨e,_⟩ | ⟨_,hb,_⟩
  · simp at e
  · have hn : ∀ k,boxOf w = some k→s.length≤k:=fun k hk=>by rw [hb] at hk; cases hk; simp
    refine h w s' ⟨?_,?_,.inr hn⟩ hn
    · show OwnS _ _ _ 1 ((p++[b]).map _)
      rw [List.map_append]; exact hown
    · exact ((Agree.app (fun _=>False) s _).trans hag).mono fun n _ y=>y.elim (fun y=>y.elim) fun y=>y.2
set_option maxHeartbeats 2000000 in
theorem w_r26_Number (h : On X) {S : St} {lo : Nat} {v : AV} {p : List Int} (hw : OwnS S lo v 1 (rowsB p)) (hlo : lo≤S.length) (hp : p.length≤100000000) (n : Int) :
    wpF X 46 [v,iA n] S fun r S'=>∃ w,r = .ret w∧NbTo S S' lo v w (p++numP n):=by
  refine wpF_go (fn:=v_r26_Number) (by rw [h.F]; rfl) ?_
  have cv64 : ∀ a,closed X.P (convert 2 146 (.int .i64 a)) = some (.int .u64 (IntKind.wrap .u64 a)):=fun a=>by rw [h.P]; exact c_cv64 a
  have cv8 : ∀ a,closed X.P (convert 146 5 (.int .u64 a)) = some (.int .u8 (IntKind.wrap .u8 a)):=fun a=>by rw [h.P]; exact c_cv8 a
  simp only [v_r26_Number,cv64,kB,kZ,kD,kE,xp,xj,xn,xe,xf,xh,xi,xm,xl,xk,reduceIte,reduceCtorEq,yd,yc,xv]
  refine anyCond m0 (fun e s=>s = S++[]∧e 0 = v∧e 5 = .sc (.int .u64 (zigP n))) ?_ ?_
  · cases hn : decide (n < 0)
    · simp only [hn,zigR_pos n (of_decide_eq_false hn),kB,kZ,kD,kE,xp,xj,xn,xe,xf,xh,xi,xm,xl,xk,reduceIte,reduceCtorEq,yd,yc,xv]
    · simp only [hn,cv64,c_neg,zigR_eq n (of_decide_eq_true hn),kB,kZ,kD,kE,xp,xj,xn,xe,xf,xh,xi,xm,xl,xk,reduceIte,reduceCtorEq,yd,yc,xv]
  rintro e s ⟨rfl,k0,k5⟩
  have hz:=zigP_bnd n
  have hlen:=numP_len n
  unfold numP at *
  obtain ⟨u,hu⟩ : ∃ u : Nat,zigP n = (u : Int):=⟨(zigP n).toNat,by omega⟩
  rw [hu] at k5 hlen ⊢
  rw [Int.toNat_natCast] at hlen ⊢
  have hub : u < 18446744073709551616:=by omega
  clear hz hu
  refine anyLoop (mB m0) (fun e s=>∃ (v1 : AV) (p1 : List Int) (u1 : Nat),e 0 = v1∧e 5 = .sc (.int .u64 (u1 : Int))∧NbTo S s lo v v1 (p++p1)∧p1++[IntKind.wrap .u8 (u1 : Int)] = vlP u) ?_ ?_
  · refine loop_inv (fun m e s=>∃ (v1 : AV) (p1 : List Int) (u1 : Nat),m = u1∧u1 < 18446744073709551616∧e 0 = v1∧e 5 = .sc (.int .u64 (u1 : Int))∧NbTo S s lo v v1 (p++p1)∧p1++vlP u1 = vlP u) ?_ u ?_
    case refine_2=>exact ⟨v,[],u,rfl,hub,k0,k5,by rw [List.append_nil,List.append_nil]; exact NbTo.refl hw,rfl⟩
    clear k0 k5 e
    rintro m e s ⟨v1,p1,u1,rfl,hmb,k0,k5,hto,hpp⟩
    simp only [k0,k5,kB,kZ,kD,kE,xp,xj,xn,xe,xf,xh,xi,xm,xl,xk,reduceIte,reduceCtorEq,yd,yc,xv]
    refine condO_intro ?_ ?_<;>intro hc
    · have h128 : 128≤m:=by have:=of_decide_eq_true hc; omega
      rw [vlP_ge h128,or8_eq] at hpp
      have hl1 : p1.length≤10:=by
        have:=congrArg List.length hpp
        simp at this
        omega
      have hq : IntKind.wrap .u64 ((m : Int).tdiv 128) = ((m / 128 : Nat) : Int):=by
        rw [wrap64_eq,Int.tdiv_eq_ediv_of_nonneg (by omega)]
        omega
      have hsl:=hto.ag.len
      simp only [k0,k5,c_remu,c_quou,cv8,kB,kZ,kD,kE,xp,xj,xn,xe,xf,xh,xi,xm,xl,xk,reduceIte,reduceCtorEq,yd,yc,xv]
      refine opR_pushB (v:=v1) _ hto.own (by omega) (by simp; omega) (by simp only [kB,kZ,kD,kE,xp,xj,xn,xe,xf,xh,xi,xm,xl,xk,reduceIte,reduceCtorEq,yd,yc,xv]) (by simp only [kB,kZ,kD,kE,xp,xj,xn,xe,xf,xh,xi,xm,xl,xk,reduceIte,reduceCtorEq,yd,yc,xv]) ?_
      intro w s' hto2 _
      simp only [k5,c_quou,hq,kB,kZ,kD,kE,xp,xj,xn,xe,xf,xh,xi,xm,xl,xk,reduceIte,reduceCtorEq,yd,yc,xv]
      refine ⟨m / 128,by omega,w,p1++[IntKind.wrap .u8 (IntKind.wrap .u8 ((m : Int).tmod 128) + 128)],by omega,rfl,rfl,?_,?_⟩
      · rw [←List.append_assoc]
        exact hto.trans hto2
      · rw [List.append_assoc]
        exact hpp
    · have h128 : ¬ 128≤m:=by have:=of_decide_eq_false hc; omega
      rw [vlP_lt h128] at hpp
      simp only [k0,k5,kB,kZ,kD,kE,xp,xj,xn,xe,xf,xh,xi,xm,xl,xk,reduceIte,reduceCtorEq,yd,yc,xv]
      exact ⟨v1,p1,m,rfl,rfl,hto,hpp⟩
  clear k0 k5
  rintro e s ⟨v1,p1,u1,k0,k5,hto,hpp⟩
  have hl1 : p1.length≤10:=by
    have:=congrArg List.length hpp
    simp at this
    omega
  have hsl:=hto.ag.len
  simp only [k0,k5,cv8,kB,kZ,kD,kE,xp,xj,xn,xe,xf,xh,xi,xm,xl,xk,reduceIte,reduceCtorEq,yd,yc,xv]
  refine opR_pushB (v:=v1) _ hto.own (by omega) (by simp; omega) (by simp only [kB,kZ,kD,kE,xp,xj,xn,xe,xf,xh,xi,xm,xl,xk,reduceIte,reduceCtorEq,yd,yc,xv]) (by simp only [kB,kZ,kD,kE,xp,xj,xn,xe,xf,xh,xi,xm,xl,xk,reduceIte,reduceCtorEq,yd,yc,xv]) ?_
  intro w s' hto2 _
  simp only [kB,kZ,kD,kE,xp,xj,xn,xe,xf,xh,xi,xm,xl,xk,reduceIte,reduceCtorEq,yd,yc,xv]
  have:=hto.trans hto2
  rw [List.append_assoc,hpp] at this
  exact this
theorem callNb {K : Env→St→Post3→Prop} {Q : Post3} {dst : Option Nat} {keep : List VOpd} {env : Env} {S : St} {lo : Nat} {v : AV} {p : List Int} {n : Int} (h : On X) (hw : OwnS S lo v 1 (rowsB p)) (hlo : lo≤S.length) (hp : p.length≤100000000)
    (hk : ∀ S',Agree (fun k=>boxOf v = some k) S S'→keptA env S S' keep = true) (hK : ∀ w S',NbTo S S' lo v w (p++numP n)→K (env.put dst w) S' Q) : callO X 46 [v,iA n] dst keep K env S Q:=by
  refine wpF.mono (w_r26_Number h hw hlo hp n) ?_
  rintro r S' ⟨w,rfl,hto⟩
  exact ⟨hk _ hto.ag,hK w S' hto⟩
theorem j_r26_Sum (h : On X) {st : St} {lo hi : Nat} {v : AV} {p : List Int} (hv : ArrAt st lo hi v 1 (rowsB p)) (hp : p.length≤1000000000) :
    J X.P X.F X.H (.call 93 [v] st (.ret (.sc (.int .u32 (sumP p)))) st):=by
  refine pure_intro (by rw [h.F]; rfl) rfl ?_
  have cv : ∀ a,closed X.P (convert 5 148 (.int .u8 a)) = some (.int .u32 (IntKind.wrap .u32 a)):=fun a=>by rw [h.P]; exact c_cv32 a
  have l1:=hv.len
  simp only [List.length_map] at l1
  simp only [v_r26_Sum,l1,kB,kZ,kD,kE,xp,xj,xn,xe,xf,xh,xi,xm,xl,xk,reduceIte,reduceCtorEq,yd,yc,xv]
  refine loop_live [0] (fun m e=>∃ i : Nat,i + m = p.length∧e 4 = iA i∧e 3 = .sc (.int .u32 ((p.take i).foldl stepS 1))) p.length ?_ ?_
  · exact ⟨0,by omega,rfl,rfl⟩
  · intro m e hL ⟨i,him,k4,k3⟩
    simp only [kB,kZ,kD,kE,xp,xj,xn,xe,xf,xh,xi,xm,xl,xk,reduceIte,reduceCtorEq,yd,yc,xv] at hL
    simp only [k3,k4,hL,l1,kB,kZ,kD,kE,xp,xj,xn,xe,xf,xh,xi,xm,xl,xk,reduceIte,reduceCtorEq,yd,yc,xv]
    refine condO_intro ?_ ?_<;>intro hc
    · have hil : i < p.length:=by have:=of_decide_eq_true hc; omega
      obtain ⟨b1,o1,he1,_,ha1,_⟩:=hv.get i (by simpa using hil)
      have p1:=ha1 [] 0 (by omega)
      simp only [List.getElem_map,Nat.add_zero,List.getElem?_cons_zero] at p1
      have hwr : IntKind.wrap .i64 ((i : Int) + 1) = ((i + 1 : Nat) : Int):=by rw [wrap_small (by omega) (by omega)]; omega
      simp only [k3,k4,hL,he1,p1,cv,hwr,kB,kZ,kD,kE,xp,xj,xn,xe,xf,xh,xi,xm,xl,xk,reduceIte,reduceCtorEq,yd,yc,xv]
      refine ⟨m - 1,by omega,i + 1,by omega,rfl,?_⟩
      rw [←List.take_append_getElem hil,List.foldl_append]
      rfl
    · have hi : i = p.length:=by have:=of_decide_eq_false hc; omega
      subst hi
      rw [List.take_length] at k3
      simp only [k3,k4,kB,kZ,kD,kE,xp,xj,xn,xe,xf,xh,xi,xm,xl,xk,reduceIte,reduceCtorEq,yd,yc,xv]
      first | exact ⟨_,rfl⟩ | exact ⟨rfl,_,rfl⟩ | exact ⟨trivial,_,rfl⟩ | exact ⟨[],(List.append_nil _).symm⟩
theorem w_r26_Sealed (h : On X) {S : St} {lo : Nat} {v : AV} {p : List Int} (hw : OwnS S lo v 1 (rowsB p)) (hlo : lo≤S.length) (hp : p.length≤100000000) :
    wpF X 48 [v] S fun r S'=>∃ w,r = .ret w∧NbTo S S' lo v w (p++le4 (sumP p)):=by
  refine wpF_go (fn:=v_r26_Sealed) (by rw [h.F]; rfl) ?_
  have cv : ∀ a,closed X.P (convert 148 5 (.int .u32 a)) = some (.int .u8 (IntKind.wrap .u8 a)):=fun a=>by rw [h.P]; exact c_cv328 a
  simp only [v_r26_Sealed,kB,kZ,kD,kE,xp,xj,xn,xe,xf,xh,xi,xm,xl,xk,reduceIte,reduceCtorEq,yd,yc,xv]
  refine callO_same (j_r26_Sum h (hw.arr.mono _) (by omega)) ?_
  obtain ⟨z,hz⟩ : ∃ z,sumP p = z:=⟨_,rfl⟩
  rw [hz]
  simp only [cv,c_shr8,c_shr16,c_shr24,kB,kZ,kD,kE,xp,xj,xn,xe,xf,xh,xi,xm,xl,xk,reduceIte,reduceCtorEq,yd,yc,xv]
  refine opR_append (vx:=v) (vy:=.sl (S.length + 0) 0 4 1 true) (rows:=rowsB p) (rows2:=rowsB (le4 z)) (lo:=lo) (lo':=S.length) (hi':=S.length + 1) (by simp only [kB,kZ,kD,kE,xp,xj,xn,xe,xf,xh,xi,xm,xl,xk,reduceIte,reduceCtorEq,yd,yc,xv]) (by simp only [kB,kZ,kD,kE,xp,xj,xn,xe,xf,xh,xi,xm,xl,xk,reduceIte,reduceCtorEq,yd,yc,xv]) (own_frame hw _) (by simp; omega) (ArrAt.ofBox (mode:=0) (ver:=0) (by simp; rfl) (by decide) (by simp) rfl) (by simp [le4]; omega) (by rfl) ?_
  intro w s' hag hown hcase
  refine ⟨keptA_nil _ _ _,?_⟩
  simp only [kB,kZ,kD,kE,xp,xj,xn,xe,xf,xh,xi,xm,xl,xk,reduceIte,reduceCtorEq,yd,yc,xv]
  rcases hcase with ⟨e,_⟩ | ⟨_,hb,hex⟩
  · cases e
  refine ⟨?_,?_,.inr fun n hn=>?_⟩
  · show OwnS _ _ _ 1 ((p++le4 z).map _)
    rw [List.map_append]; exact hown
  · exact ((Agree.app (fun _=>False) S _).trans hag).mono fun n hn hx=>by
      rcases hx with hx | hx
      · exact hx.elim
      · exact hx.2
  · rw [hb] at hn
    cases hn
    simp
end
end Go.VX.Seat
end
section
set_option maxRecDepth 4000
namespace Go.VX.Seat
open Go.Proofs
theorem kind_cases {k : Int} (h : 1≤k∧k≤28) : k = 1∨k = 2∨k = 3∨k = 4∨k = 5∨k = 6∨k = 7∨k = 8∨k = 9∨k = 10∨k = 11∨k = 12∨k = 13∨k = 14∨k = 15∨k = 16∨k = 17∨k = 18∨k = 19∨k = 20∨k = 21∨k = 22∨k = 23∨k = 24∨k = 25∨k = 26∨k = 27∨k = 28:=by omega
theorem regsO_us (o : OpV) (h : 1≤o.k∧o.k≤28) : regsO o = (if usD o.k then [1] else [])++(if usA o.k then [2] else [])++(if usB o.k then [3] else [])++(if usC o.k then [4] else []):=by
  obtain ⟨k,d,a,b,c,n,g⟩:=o
  rcases kind_cases h with rfl | rfl | rfl | rfl | rfl | rfl | rfl | rfl | rfl | rfl | rfl | rfl | rfl | rfl | rfl | rfl | rfl | rfl | rfl | rfl | rfl | rfl | rfl | rfl | rfl | rfl | rfl | rfl<;>rfl
theorem hasNW_us {k : Int} (h : 1≤k∧k≤28) : hasNW k = usN k:=by
  rcases kind_cases h with rfl | rfl | rfl | rfl | rfl | rfl | rfl | rfl | rfl | rfl | rfl | rfl | rfl | rfl | rfl | rfl | rfl | rfl | rfl | rfl | rfl | rfl | rfl | rfl | rfl | rfl | rfl | rfl<;>rfl
theorem opBy_us (o : OpV) (h : 1≤o.k∧o.k≤28) : opBy o = numP o.k++numP o.g++(if usD o.k then numP o.d else [])++(if usA o.k then numP o.a else [])++(if usB o.k then numP o.b else [])++(if usC o.k then numP o.c else [])++(if usN o.k then numP o.n else []):=by
  unfold opBy
  rw [regsO_us o h,hasNW_us h]
  cases usD o.k<;>cases usA o.k<;>cases usB o.k<;>cases usC o.k<;>simp [numsP,fldO]
section
variable {X : Cx}
set_option maxHeartbeats 2000000 in
theorem w_r26_operation (h : On X) {S : St} {lo : Nat} {v : AV} {p : List Int} (hw : OwnS S lo v 1 (rowsB p)) (hlo : lo≤S.length) (hp : p.length≤90000000) (o : OpV) (hk : 1≤o.k∧o.k≤28) :
    wpF X 47 [v,.agg o.row] S fun r S'=>∃ w,r = .ret w∧NbTo S S' lo v w (p++opBy o):=by
  refine wpF_go (fn:=v_r26_operation) (by rw [h.F]; rfl) ?_
  rw [opBy_us o hk]
  have hD:=numP_len o.d
  have hA:=numP_len o.a
  have hB:=numP_len o.b
  have hC:=numP_len o.c
  have hG:=numP_len o.g
  have hK:=numP_len o.k
  have hcell : ([bA (usD o.k),bA (usA o.k),bA (usB o.k),bA (usC o.k),bA (usN o.k)].all AV.isCell) = true:=rfl
  simp only [v_r26_operation,OpV.row,kB,kZ,kD,kE,xp,xj,xn,xe,xf,xh,xi,xm,xl,xk,reduceIte,reduceCtorEq,yd,yc,xv]
  refine callO_same (j_r26_Uses h o.k) ?_
  simp only [usRow,kB,kZ,kD,kE,xp,xj,xn,xe,xf,xh,xi,xm,xl,xk,reduceIte,reduceCtorEq,yd,yc,xv]
  generalize usD o.k = uD at *
  generalize usA o.k = uA at *
  generalize usB o.k = uB at *
  generalize usC o.k = uC at *
  generalize usN o.k = uN at *
  have hob : (S++[⟨[iA o.k,iA o.d,iA o.a,iA o.b,iA o.c,iA o.n,iA o.g],0,0⟩,⟨[bA uD,bA uA,bA uB,bA uC,bA uN],0,1⟩] : St)[S.length + 0]? = some ⟨[iA o.k,iA o.d,iA o.a,iA o.b,iA o.c,iA o.n,iA o.g],0,0⟩:=by simp
  have hub : (S++[⟨[iA o.k,iA o.d,iA o.a,iA o.b,iA o.c,iA o.n,iA o.g],0,0⟩,⟨[bA uD,bA uA,bA uB,bA uC,bA uN],0,1⟩] : St)[S.length + 1]? = some ⟨[bA uD,bA uA,bA uB,bA uC,bA uN],0,1⟩:=by simp
  have hn0:=NbTo.grow hw [⟨[iA o.k,iA o.d,iA o.a,iA o.b,iA o.c,iA o.n,iA o.g],0,0⟩,⟨[bA uD,bA uA,bA uB,bA uC,bA uN],0,1⟩]
  have hv1 : boxOf v≠some (S.length + 0):=fun e=>by have:=(hw.bnd _ e).2; omega
  have hv2 : boxOf v≠some (S.length + 1):=fun e=>by have:=(hw.bnd _ e).2; omega
  have hST:=hn0.ag.len
  generalize (S++[⟨[iA o.k,iA o.d,iA o.a,iA o.b,iA o.c,iA o.n,iA o.g],0,0⟩,⟨[bA uD,bA uA,bA uB,bA uC,bA uN],0,1⟩] : St) = T at *
  generalize S.length + 0 = ob at *
  generalize S.length + 1 = ub at *
  have fx : ∀ {s : St} {v1 : AV} {p1 : List Int},NbTo T s lo v v1 p1→(∀ k,St.at1 s ob k = [iA o.k,iA o.d,iA o.a,iA o.b,iA o.c,iA o.n,iA o.g][k]?)∧(∀ k,St.at1 s ub k = [bA uD,bA uA,bA uB,bA uC,bA uN][k]?)∧lo≤s.length:=fun hN =>
    ⟨fun k=>at1_box (hN.box hob hv1) (by decide) k,fun k=>at1_box (hN.box hub hv2) (by decide) k,by have:=hN.ag.len; omega⟩
  have hobl:=(List.getElem?_eq_some_iff.1 hob).1
  have hnT:=NbTo.refl hn0.own
  obtain ⟨x0,y0,l0⟩:=fx hnT
  try simp only [x0,y0,kB,kZ,kD,kE,xp,xj,xn,xe,xf,xh,xi,xm,xl,xk,reduceIte,reduceCtorEq,yd,yc,xv]
  refine callNb h hnT.own l0 (by omega) (fun S' a=>kept_at (b:=ob) (o:=6) (by simp only [kB,kZ,kD,kE,xp,xj,xn,xe,xf,xh,xi,xm,xl,xk,reduceIte,reduceCtorEq,yd,yc,xv]) (a.eq ob hobl hv1)) ?_
  intro w1 s1 t1
  obtain ⟨x1,y1,l1⟩:=fx t1
  simp only [x1,y1,kB,kZ,kD,kE,xp,xj,xn,xe,xf,xh,xi,xm,xl,xk,reduceIte,reduceCtorEq,yd,yc,xv]
  refine callNb h t1.own l1 (by simp; omega) (fun _ _=>keptA_nil _ _ _) ?_
  intro w2 s2 t2'
  have t2:=t1.trans t2'
  clear t1 t2' x0 y0 x1 y1
  obtain ⟨x2,y2,l2⟩:=fx t2
  simp only [x2,y2,kB,kZ,kD,kE,xp,xj,xn,xe,xf,xh,xi,xm,xl,xk,reduceIte,reduceCtorEq,yd,yc,xv]
  have hl2 : (p++numP o.k++numP o.g).length≤90000020:=by simp; omega
  generalize hP2 : p++numP o.k++numP o.g = P2 at *
  refine anyCond m0 (fun e s=>∃ v1,e 0 = v1∧e 3 = .ptr ob 0∧e 5 = .ptr ub 0∧NbTo T s lo v v1 (P2++(if uD then numP o.d else []))) ?_ ?_
  · cases uD
    · simp only [kB,kZ,kD,kE,xp,xj,xn,xe,xf,xh,xi,xm,xl,xk,reduceIte,reduceCtorEq,yd,yc,xv]
      simpa using t2
    · simp only [x2,kB,kZ,kD,kE,xp,xj,xn,xe,xf,xh,xi,xm,xl,xk,reduceIte,reduceCtorEq,yd,yc,xv]
      refine callNb h t2.own l2 (by omega) (fun _ _=>keptA_nil _ _ _) ?_
      intro w s t'
      simp only [kB,kZ,kD,kE,xp,xj,xn,xe,xf,xh,xi,xm,xl,xk,reduceIte,reduceCtorEq,yd,yc,xv]
      simpa using t2.trans t'
  rintro e3 s3 ⟨w3,k0,k3,k5,t3⟩
  obtain ⟨x3,y3,l3⟩:=fx t3
  simp only [k0,k3,k5,x3,y3,kB,kZ,kD,kE,xp,xj,xn,xe,xf,xh,xi,xm,xl,xk,reduceIte,reduceCtorEq,yd,yc,xv]
  have hl3 : (P2++(if uD then numP o.d else [])).length≤90000030:=by rw [List.length_append]; cases uD<;>simp<;>omega
  generalize hP3 : P2++(if uD then numP o.d else []) = P3 at *
  refine anyCond m0 (fun e s=>∃ v1,e 0 = v1∧e 3 = .ptr ob 0∧e 5 = .ptr ub 0∧NbTo T s lo v v1 (P3++(if uA then numP o.a else []))) ?_ ?_
  · cases uA
    · simp only [k0,k3,k5,kB,kZ,kD,kE,xp,xj,xn,xe,xf,xh,xi,xm,xl,xk,reduceIte,reduceCtorEq,yd,yc,xv]
      simpa using t3
    · simp only [k0,k3,k5,x3,kB,kZ,kD,kE,xp,xj,xn,xe,xf,xh,xi,xm,xl,xk,reduceIte,reduceCtorEq,yd,yc,xv]
      refine callNb h t3.own l3 (by omega) (fun _ _=>keptA_nil _ _ _) ?_
      intro w s t'
      simp only [k0,k3,k5,kB,kZ,kD,kE,xp,xj,xn,xe,xf,xh,xi,xm,xl,xk,reduceIte,reduceCtorEq,yd,yc,xv]
      simpa using t3.trans t'
  clear k0 k3 k5
  rintro e4 s4 ⟨w4,k0,k3,k5,t4⟩
  obtain ⟨x4,y4,l4⟩:=fx t4
  simp only [k0,k3,k5,x4,y4,kB,kZ,kD,kE,xp,xj,xn,xe,xf,xh,xi,xm,xl,xk,reduceIte,reduceCtorEq,yd,yc,xv]
  have hl4 : (P3++(if uA then numP o.a else [])).length≤90000040:=by rw [List.length_append]; cases uA<;>simp<;>omega
  generalize hP4 : P3++(if uA then numP o.a else []) = P4 at *
  refine anyCond m0 (fun e s=>∃ v1,e 0 = v1∧e 3 = .ptr ob 0∧e 5 = .ptr ub 0∧NbTo T s lo v v1 (P4++(if uB then numP o.b else []))) ?_ ?_
  · cases uB
    · simp only [k0,k3,k5,kB,kZ,kD,kE,xp,xj,xn,xe,xf,xh,xi,xm,xl,xk,reduceIte,reduceCtorEq,yd,yc,xv]
      simpa using t4
    · simp only [k0,k3,k5,x4,kB,kZ,kD,kE,xp,xj,xn,xe,xf,xh,xi,xm,xl,xk,reduceIte,reduceCtorEq,yd,yc,xv]
      refine callNb h t4.own l4 (by omega) (fun _ _=>keptA_nil _ _ _) ?_
      intro w s t'
      simp only [k0,k3,k5,kB,kZ,kD,kE,xp,xj,xn,xe,xf,xh,xi,xm,xl,xk,reduceIte,reduceCtorEq,yd,yc,xv]
      simpa using t4.trans t'
  clear k0 k3 k5
  rintro e5 s5 ⟨w5,k0,k3,k5,t5⟩
  obtain ⟨x5,y5,l5⟩:=fx t5
  simp only [k0,k3,k5,x5,y5,kB,kZ,kD,kE,xp,xj,xn,xe,xf,xh,xi,xm,xl,xk,reduceIte,reduceCtorEq,yd,yc,xv]
  have hl5 : (P4++(if uB then numP o.b else [])).length≤90000050:=by rw [List.length_append]; cases uB<;>simp<;>omega
  generalize hP5 : P4++(if uB then numP o.b else []) = P5 at *
  refine anyCond m0 (fun e s=>∃ v1,e 0 = v1∧e 3 = .ptr ob 0∧e 5 = .ptr ub 0∧NbTo T s lo v v1 (P5++(if uC then numP o.c else []))) ?_ ?_
  · cases uC
    · simp only [k0,k3,k5,kB,kZ,kD,kE,xp,xj,xn,xe,xf,xh,xi,xm,xl,xk,reduceIte,reduceCtorEq,yd,yc,xv]
      simpa using t5
    · simp only [k0,k3,k5,x5,kB,kZ,kD,kE,xp,xj,xn,xe,xf,xh,xi,xm,xl,xk,reduceIte,reduceCtorEq,yd,yc,xv]
      refine callNb h t5.own l5 (by omega) (fun _ _=>keptA_nil _ _ _) ?_
      intro w s t'
      simp only [k0,k3,k5,kB,kZ,kD,kE,xp,xj,xn,xe,xf,xh,xi,xm,xl,xk,reduceIte,reduceCtorEq,yd,yc,xv]
      simpa using t5.trans t'
  clear k0 k3 k5
  rintro e6 s6 ⟨w6,k0,k3,k5,t6⟩
  obtain ⟨x6,y6,l6⟩:=fx t6
  simp only [k0,k3,k5,x6,y6,kB,kZ,kD,kE,xp,xj,xn,xe,xf,xh,xi,xm,xl,xk,reduceIte,reduceCtorEq,yd,yc,xv]
  have hl6 : (P5++(if uC then numP o.c else [])).length≤90000060:=by rw [List.length_append]; cases uC<;>simp<;>omega
  generalize hP6 : P5++(if uC then numP o.c else []) = P6 at *
  refine anyCond m0 (fun e s=>∃ v1,e 0 = v1∧e 3 = .ptr ob 0∧e 5 = .ptr ub 0∧NbTo T s lo v v1 (P6++(if uN then numP o.n else []))) ?_ ?_
  · cases uN
    · simp only [k0,k3,k5,kB,kZ,kD,kE,xp,xj,xn,xe,xf,xh,xi,xm,xl,xk,reduceIte,reduceCtorEq,yd,yc,xv]
      simpa using t6
    · simp only [k0,k3,k5,x6,kB,kZ,kD,kE,xp,xj,xn,xe,xf,xh,xi,xm,xl,xk,reduceIte,reduceCtorEq,yd,yc,xv]
      refine callNb h t6.own l6 (by omega) (fun _ _=>keptA_nil _ _ _) ?_
      intro w s t'
      simp only [k0,k3,k5,kB,kZ,kD,kE,xp,xj,xn,xe,xf,xh,xi,xm,xl,xk,reduceIte,reduceCtorEq,yd,yc,xv]
      simpa using t6.trans t'
  clear k0 k3 k5
  rintro e7 s7 ⟨w7,k0,k3,k5,t7⟩
  obtain ⟨x7,y7,l7⟩:=fx t7
  simp only [k0,k3,k5,x7,y7,kB,kZ,kD,kE,xp,xj,xn,xe,xf,xh,xi,xm,xl,xk,reduceIte,reduceCtorEq,yd,yc,xv]
  have hfin:=hn0.trans t7
  rw [←hP6,← hP5,← hP4,← hP3,← hP2] at hfin
  simp only [List.append_assoc] at hfin ⊢
  exact hfin
theorem callOpN {K : Env→St→Post3→Prop} {Q : Post3} {dst : Option Nat} {env : Env} {S : St} {lo : Nat} {v : AV} {p : List Int} {o : OpV} (h : On X) (hw : OwnS S lo v 1 (rowsB p)) (hlo : lo≤S.length) (hp : p.length≤90000000) (hk : 1≤o.k∧o.k≤28)
    (hK : ∀ w S',NbTo S S' lo v w (p++opBy o)→K (env.put dst w) S' Q) : callO X 47 [v,.agg o.row] dst [] K env S Q:=by
  refine wpF.mono (w_r26_operation h hw hlo hp o hk) ?_
  rintro r S' ⟨w,rfl,hto⟩
  exact ⟨keptA_nil _ _ _,hK w S' hto⟩
end
end Go.VX.Seat
end
section
set_option maxRecDepth 4000
namespace Go.VX.Seat
open Go.Proofs
section
variable {X : Cx} {st : St}
set_option maxHeartbeats 4000000 in
theorem w_r26_Bytes (h : On X) {lo hi : Nat} {v : AV} {C : CodV} (hv : CodAt st lo hi v C) (hz : chkR C = 0) :
    wpF X 20 [v] st fun r s=>∃ w m lo,r = .ret w∧s = st++m∧OwnS s lo w 1 (rowsB (bytesP C)):=by
  refine wpF_go (fn:=v_r26_Bytes) (by rw [h.F]; rfl) ?_
  have hok:=chkR_ok hz
  have hsz16 : C.sizes.length≤16:=by have:=hok.lim; unfold limR at this; simp at this; omega
  obtain ⟨s,bl,rfl,hs,hb⟩:=hv
  obtain ⟨f,hb,hbo⟩:=hb
  have l1:=hs.len
  simp only [List.length_map] at l1
  have l2 : lenA bl = some C.words.length:=by
    have:=hb.len
    simpa using this
  simp only [v_r26_Bytes,kB,kZ,kD,kE,xp,xj,xn,xe,xf,xh,xi,xm,xl,xk,reduceIte,reduceCtorEq,yd,yc,xv]
  rw [frz_at (n:=4) (by simp only [kB,kZ,kD,kE,xp,xj,xn,xe,xf,xh,xi,xm,xl,xk,reduceIte,reduceCtorEq,yd,yc,xv]) (by decide)]
  simp only [l1,kB,kZ,kD,kE,xp,xj,xn,xe,xf,xh,xi,xm,xl,xk,reduceIte,reduceCtorEq,yd,yc,xv]
  have hw0 : OwnS (st++[⟨[s,iA C.params,iA C.regs,iA C.code,iA C.spill,bl],0,0⟩,⟨[.sc (.int .u8 66),.sc (.int .u8 105),.sc (.int .u8 114),.sc (.int .u8 101)],2,0⟩,⟨[.sc (.int .u8 66),.sc (.int .u8 105),.sc (.int .u8 114),.sc (.int .u8 101)],1,0⟩]) (st.length + 1) (.sl (st.length + 2) 0 4 1 true) 1 (rowsB bire):={
      arr:=(ArrAt.ofBox (b:=st.length + 2) (mode:=1) (ver:=0) (rows:=rowsB bire) (by rw [List.getElem?_append_right (by omega)]; simp; rfl) (by decide) (by simp) rfl).wide' (by omega) (by simp)
      bnd:=fun b hb=>by cases hb; simp
      app:=fun b o n e full hv=>by cases hv; exact .inl rfl }
  have hbx0 : (st++[⟨[s,iA C.params,iA C.regs,iA C.code,iA C.spill,bl],0,0⟩,⟨[.sc (.int .u8 66),.sc (.int .u8 105),.sc (.int .u8 114),.sc (.int .u8 101)],2,0⟩,⟨[.sc (.int .u8 66),.sc (.int .u8 105),.sc (.int .u8 114),.sc (.int .u8 101)],1,0⟩])[st.length + 0]? = some ⟨[s,iA C.params,iA C.regs,iA C.code,iA C.spill,bl],0,0⟩:=by rw [List.getElem?_append_right (by omega)]; simp
  have hlow : ∀ b,b < st.length + 1→boxOf (.sl (st.length + 2) 0 4 1 true)≠some b:=fun b hb e=>by simp [boxOf] at e; omega
  have hs0:=hs.mono [⟨[s,iA C.params,iA C.regs,iA C.code,iA C.spill,bl],0,0⟩,⟨[.sc (.int .u8 66),.sc (.int .u8 105),.sc (.int .u8 114),.sc (.int .u8 101)],2,0⟩,⟨[.sc (.int .u8 66),.sc (.int .u8 105),.sc (.int .u8 114),.sc (.int .u8 101)],1,0⟩]
  have hb0:=hb.mono [⟨[s,iA C.params,iA C.regs,iA C.code,iA C.spill,bl],0,0⟩,⟨[.sc (.int .u8 66),.sc (.int .u8 105),.sc (.int .u8 114),.sc (.int .u8 101)],2,0⟩,⟨[.sc (.int .u8 66),.sc (.int .u8 105),.sc (.int .u8 114),.sc (.int .u8 101)],1,0⟩]
  have ho0:=fun i (hi : i < C.words.length)=>(hbo i hi).mono [⟨[s,iA C.params,iA C.regs,iA C.code,iA C.spill,bl],0,0⟩,⟨[.sc (.int .u8 66),.sc (.int .u8 105),.sc (.int .u8 114),.sc (.int .u8 101)],2,0⟩,⟨[.sc (.int .u8 66),.sc (.int .u8 105),.sc (.int .u8 114),.sc (.int .u8 101)],1,0⟩]
  have hx0 : ∃ m,(st++[⟨[s,iA C.params,iA C.regs,iA C.code,iA C.spill,bl],0,0⟩,⟨[.sc (.int .u8 66),.sc (.int .u8 105),.sc (.int .u8 114),.sc (.int .u8 101)],2,0⟩,⟨[.sc (.int .u8 66),.sc (.int .u8 105),.sc (.int .u8 114),.sc (.int .u8 101)],1,0⟩] : St) = st++m:=⟨_,rfl⟩
  have hls:=fun b (e : boxOf s = some b)=>hlow b (by have:=hs.boxlt e; omega)
  have hlb:=fun b (e : boxOf bl = some b)=>hlow b (by have:=hb.boxlt e; omega)
  have hlo:=fun i (hi : i < C.words.length) b (e : boxOf (f i) = some b)=>hlow b (by have:=(hbo i hi).boxlt e; omega)
  have hcb : boxOf (.sl (st.length + 2) 0 4 1 true)≠some (st.length + 0):=hlow _ (by omega)
  have hhl:=headBy_len (C:=C) hsz16
  have hSl:=hw0.bnd
  generalize (st++[⟨[s,iA C.params,iA C.regs,iA C.code,iA C.spill,bl],0,0⟩,⟨[.sc (.int .u8 66),.sc (.int .u8 105),.sc (.int .u8 114),.sc (.int .u8 101)],2,0⟩,⟨[.sc (.int .u8 66),.sc (.int .u8 105),.sc (.int .u8 114),.sc (.int .u8 101)],1,0⟩] : St) = S0 at *
  generalize AV.sl (st.length + 2) 0 4 1 true = v0 at *
  have hS0l:=(List.getElem?_eq_some_iff.1 hbx0).1
  generalize hcbE : st.length + 0 = cb at *
  have bc : ∀ {s' : St} {v' : AV} {p : List Int},NbTo S0 s' (st.length + 1) v0 v' p→(∀ k,St.at1 s' cb k = [s,iA C.params,iA C.regs,iA C.code,iA C.spill,bl][k]?)∧s'[cb]? = some ⟨[s,iA C.params,iA C.regs,iA C.code,iA C.spill,bl],0,0⟩∧st.length + 1≤s'.length∧boxOf v'≠some cb∧cb < s'.length:=fun t =>
    ⟨fun k=>at1_box (t.box hbx0 hcb) (by decide) k,t.box hbx0 hcb,by have:=t.ag.len; omega,t.sep hS0l hcb,by have:=t.ag.len; omega⟩
  have t0:=NbTo.refl hw0
  obtain ⟨x0,y0,le0,se0,lc0⟩:=bc t0
  refine callNb h hw0 le0 (by simp [bire]) (fun _ _=>keptA_nil _ _ _) ?_
  intro w1 s1 t1
  have hn1:=numP_len (C.sizes.length : Int)
  have hbl : bire.length = 4:=rfl
  have e1 : bire++numP (C.sizes.length : Int) = bire++numsP [(C.sizes.length : Int)]:=by simp [numsP]
  rw [e1] at t1
  simp only [kB,kZ,kD,kE,xp,xj,xn,xe,xf,xh,xi,xm,xl,xk,reduceIte,reduceCtorEq,yd,yc,xv]
  refine anyLoop (mB m0) (fun e s'=>∃ v1,e 1 = .ptr cb 0∧e 3 = v1∧NbTo S0 s' (st.length + 1) v0 v1 (bire++numsP [(C.sizes.length : Int)]++numsP C.sizes)) ?_ ?_
  · refine loop_inv (fun n e s'=>∃ (i : Nat) (v1 : AV),i + n = C.sizes.length∧e 1 = .ptr cb 0∧e 3 = v1∧e 4 = iA i∧NbTo S0 s' (st.length + 1) v0 v1 (bire++numsP [(C.sizes.length : Int)]++numsP (C.sizes.take i))) ?_ C.sizes.length ?_
    case refine_2=>exact ⟨0,w1,by omega,rfl,rfl,rfl,by simpa [numsP] using t1⟩
    clear t1
    rintro n e s' ⟨i,v1,hin,k1,k3,k4,t⟩
    obtain ⟨x,y,le,se,lc⟩:=bc t
    simp only [k1,k3,k4,x,l1,kB,kZ,kD,kE,xp,xj,xn,xe,xf,xh,xi,xm,xl,xk,reduceIte,reduceCtorEq,yd,yc,xv]
    refine condO_intro ?_ ?_<;>intro hc
    · have hil : i < C.sizes.length:=by have:=of_decide_eq_true hc; omega
      obtain ⟨b1,o1,he1,_,ha1,_⟩:=(t.arr hs0 hls).get i (by simpa using hil)
      have p1:=ha1 [] 0 (by omega)
      simp only [List.getElem_map,Nat.add_zero,List.append_nil,List.getElem?_cons_zero] at p1
      have hnl:=numsP_len (C.sizes.take i)
      have hnl1:=numsP_len [(C.sizes.length : Int)]
      have hwr : IntKind.wrap .i64 ((i : Int) + 1) = ((i + 1 : Nat) : Int):=by rw [wrap_small (by omega) (by omega)]; omega
      have hsn : numsP (C.sizes.take (i + 1)) = numsP (C.sizes.take i)++numP C.sizes[i]:=by rw [←List.take_append_getElem hil,numsP_snoc]
      simp only [k1,k3,k4,x,he1,p1,kB,kZ,kD,kE,xp,xj,xn,xe,xf,xh,xi,xm,xl,xk,reduceIte,reduceCtorEq,yd,yc,xv]
      refine callNb h t.own le (by simp at hnl hnl1 ⊢; omega) (fun _ _=>keptA_nil _ _ _) ?_
      intro w s2 t2
      simp only [k1,k3,k4,hwr,kB,kZ,kD,kE,xp,xj,xn,xe,xf,xh,xi,xm,xl,xk,reduceIte,reduceCtorEq,yd,yc,xv]
      refine ⟨n - 1,by omega,i + 1,w,by omega,rfl,rfl,?_⟩
      rw [hsn,← List.append_assoc]
      exact t.trans t2
    · have hi2 : i = C.sizes.length:=by have:=of_decide_eq_false hc; omega
      subst hi2
      rw [List.take_length] at t
      simp only [k1,k3,kB,kZ,kD,kE,xp,xj,xn,xe,xf,xh,xi,xm,xl,xk,reduceIte,reduceCtorEq,yd,yc,xv]
      exact t
  clear t1
  rintro e s2 ⟨v2,k1,k3,t2⟩
  have hnl1:=numsP_len [(C.sizes.length : Int)]
  have hnl2:=numsP_len C.sizes
  have hPl : (bire++numsP [(C.sizes.length : Int)]++numsP C.sizes).length≤200:=by simp at hnl1 hnl2 ⊢; omega
  have hhead : headBy C = (bire++numsP [(C.sizes.length : Int)]++numsP C.sizes)++(numP C.params++numP C.regs++numP C.code++numP C.spill++numP (C.words.length : Int)):=by
    unfold headBy
    simp [numsP]
  generalize bire++numsP [(C.sizes.length : Int)]++numsP C.sizes = P at *
  have hkp : ∀ {s' s3 : St} {v' : AV} {p : List Int} {env : Env} {l : List VOpd},NbTo S0 s' (st.length + 1) v0 v' p→Agree (fun k=>boxOf v' = some k) s' s3→(∀ x ∈ l,∃ o,x.ev env = .ptr cb o)→keptA env s' s3 l = true:=fun t a hx=>kept_list hx (a.eq cb (bc t).2.2.2.2 (bc t).2.2.2.1)
  obtain ⟨x2,y2,le2,se2,lc2⟩:=bc t2
  simp only [k1,k3,x2,kB,kZ,kD,kE,xp,xj,xn,xe,xf,xh,xi,xm,xl,xk,reduceIte,reduceCtorEq,yd,yc,xv]
  refine callNb h t2.own le2 (by omega) (fun S' a=>hkp t2 a fun x hx=>by
    simp only [List.mem_cons,List.not_mem_nil,or_false] at hx
    rcases hx with rfl | rfl | rfl
    · exact ⟨2,by simp only [kB,kZ,kD,kE,xp,xj,xn,xe,xf,xh,xi,xm,xl,xk,reduceIte,reduceCtorEq,yd,yc,xv]⟩
    · exact ⟨3,by simp only [kB,kZ,kD,kE,xp,xj,xn,xe,xf,xh,xi,xm,xl,xk,reduceIte,reduceCtorEq,yd,yc,xv]⟩
    · exact ⟨4,by simp only [kB,kZ,kD,kE,xp,xj,xn,xe,xf,xh,xi,xm,xl,xk,reduceIte,reduceCtorEq,yd,yc,xv]⟩) ?_
  intro w3 s3 t3'
  have t3:=t2.trans t3'
  have q3:=numP_len C.params
  obtain ⟨x3,y3,le3,se3,lc3⟩:=bc t3
  simp only [k1,k3,x2,x3,kB,kZ,kD,kE,xp,xj,xn,xe,xf,xh,xi,xm,xl,xk,reduceIte,reduceCtorEq,yd,yc,xv]
  refine callNb h t3.own le3 (by simp; omega) (fun S' a=>hkp t3 a fun x hx=>by
    simp only [List.mem_cons,List.not_mem_nil,or_false] at hx
    rcases hx with rfl | rfl
    · exact ⟨3,by simp only [kB,kZ,kD,kE,xp,xj,xn,xe,xf,xh,xi,xm,xl,xk,reduceIte,reduceCtorEq,yd,yc,xv]⟩
    · exact ⟨4,by simp only [kB,kZ,kD,kE,xp,xj,xn,xe,xf,xh,xi,xm,xl,xk,reduceIte,reduceCtorEq,yd,yc,xv]⟩) ?_
  intro w4 s4 t4'
  have t4:=t3.trans t4'
  have q4:=numP_len C.regs
  obtain ⟨x4,y4,le4',se4,lc4⟩:=bc t4
  simp only [k1,k3,x4,kB,kZ,kD,kE,xp,xj,xn,xe,xf,xh,xi,xm,xl,xk,reduceIte,reduceCtorEq,yd,yc,xv]
  refine callNb h t4.own le4' (by simp; omega) (fun S' a=>hkp t4 a fun x hx=>by
    simp only [List.mem_cons,List.not_mem_nil,or_false] at hx
    rcases hx with rfl
    exact ⟨4,by simp only [kB,kZ,kD,kE,xp,xj,xn,xe,xf,xh,xi,xm,xl,xk,reduceIte,reduceCtorEq,yd,yc,xv]⟩) ?_
  intro w5 s5 t5'
  have t5:=t4.trans t5'
  have q5:=numP_len C.code
  obtain ⟨x5,y5,le5,se5,lc5⟩:=bc t5
  simp only [k1,k3,x5,kB,kZ,kD,kE,xp,xj,xn,xe,xf,xh,xi,xm,xl,xk,reduceIte,reduceCtorEq,yd,yc,xv]
  refine callNb h t5.own le5 (by simp; omega) (fun _ _=>keptA_nil _ _ _) ?_
  intro w6 s6 t6'
  have t6:=t5.trans t6'
  have q6:=numP_len C.spill
  obtain ⟨x6,y6,le6,se6,lc6⟩:=bc t6
  simp only [k1,k3,x6,l2,kB,kZ,kD,kE,xp,xj,xn,xe,xf,xh,xi,xm,xl,xk,reduceIte,reduceCtorEq,yd,yc,xv]
  refine callNb h t6.own le6 (by simp; omega) (fun _ _=>keptA_nil _ _ _) ?_
  intro w7 s7 t7'
  have t7 : NbTo S0 s7 (st.length + 1) v0 w7 (headBy C++wordsBy (C.words.take 0)):=by
    have:=t6.trans t7'
    rw [hhead]
    simpa [wordsBy] using this
  clear t2 t3 t4 t5 t6 t3' t4' t5' t6' t7' x2 y2 le2 se2 lc2 x3 y3 le3 se3 lc3 x4 y4 le4' se4 lc4 x5 y5 le5 se5 lc5 x6 y6 le6 se6 lc6 q3 q4 q5 q6 x0 y0 le0 se0 lc0 t0 hhead
  have htl:=hok.tot
  have hn60:=hok.n60
  simp only [k1,kB,kZ,kD,kE,xp,xj,xn,xe,xf,xh,xi,xm,xl,xk,reduceIte,reduceCtorEq,yd,yc,xv]
  refine anyLoop (mB m0) (fun e s'=>∃ v1,e 3 = v1∧NbTo S0 s' (st.length + 1) v0 v1 (headBy C++wordsBy C.words)) ?_ ?_
  · refine loop_inv (fun n e s'=>∃ (i : Nat) (v1 : AV),i + n = C.words.length∧e 1 = .ptr cb 0∧e 3 = v1∧e 5 = iA i∧NbTo S0 s' (st.length + 1) v0 v1 (headBy C++wordsBy (C.words.take i))) ?_ C.words.length ?_
    case refine_2=>exact ⟨0,w7,by omega,by simp only [k1,kB,kZ,kD,kE,xp,xj,xn,xe,xf,xh,xi,xm,xl,xk,reduceIte,reduceCtorEq,yd,yc,xv],rfl,rfl,t7⟩
    clear t7 k1 k3
    rintro n e s' ⟨i,v1,hin,k1,k3,k5,t⟩
    obtain ⟨x,y,le,se,lc⟩:=bc t
    simp only [k1,k3,k5,x,l2,kB,kZ,kD,kE,xp,xj,xn,xe,xf,xh,xi,xm,xl,xk,reduceIte,reduceCtorEq,yd,yc,xv]
    refine condO_intro ?_ ?_<;>intro hc
    · have hil : i < C.words.length:=by have:=of_decide_eq_true hc; omega
      obtain ⟨b1,o1,he1,hn1',_,_⟩:=(t.arr hb0 hlb).get i (by simpa using hil)
      have hn1:=hn1' []
      simp only [List.getElem_mapIdx,WrdV.row,List.append_nil] at hn1
      have m1:=(ho0 i hil).len
      have mc:=isCell_len m1
      have mcl:=cellsOf_len m1
      simp only [List.length_map] at m1
      have hoA:=ho0 i hil
      have hoL:=hlo i hil
      have htk:=totW_take hil
      have htk2:=totW_le C.words (i + 1)
      have hwk:=wordsBy_len (C.words.take i)
      have hwlen : (C.words.take i).length≤60000:=by simp; omega
      have hsnoc : wordsBy (C.words.take (i + 1)) = wordsBy (C.words.take i)++wordBy C.words[i]:=by rw [←List.take_append_getElem hil,wordsBy_snoc]
      have hl400:=(wrdsR_zero hok.wds _ (List.getElem_mem hil)).1
      have hOk:=opsR_zero (wrdsR_zero hok.wds _ (List.getElem_mem hil)).2
      have hPl2 : (headBy C++wordsBy (C.words.take i)).length≤10000000:=by rw [List.length_append]; omega
      unfold wordBy at hsnoc
      obtain ⟨ct,hct⟩ : ∃ x,C.words[i].catch_ = x:=⟨_,rfl⟩
      obtain ⟨ops,hops⟩ : ∃ x,C.words[i].ops = x:=⟨_,rfl⟩
      obtain ⟨w,hw⟩ : ∃ x,f i = x:=⟨_,rfl⟩
      rw [hops,hw] at hoA
      rw [hw] at hoL mc mcl m1
      rw [hops] at m1 hl400 hOk htk
      rw [hct,hw] at hn1
      rw [hct,hops,← List.append_assoc] at hsnoc
      generalize hPe : headBy C++wordsBy (C.words.take i) = P2 at *
      simp only [k1,k3,k5,x,he1,hn1,mc,mcl,m1,kB,kZ,kD,kE,xp,xj,xn,xe,xf,xh,xi,xm,xl,xk,reduceIte,reduceCtorEq,yd,yc,xv]
      have tg:=t.trans (NbTo.grow t.own [⟨[w,iA ct],0,1⟩])
      have hwx : (s'++[⟨[w,iA ct],0,1⟩] : St)[s'.length]? = some ⟨[w,iA ct],0,1⟩:=by simp
      have hsw : boxOf v1≠some s'.length:=fun e=>by have:=(t.own.bnd _ e).2; omega
      have hwl:=(List.getElem?_eq_some_iff.1 hwx).1
      have hwi : s'.length≠cb:=by omega
      have tO:=NbTo.refl (NbTo.grow t.own [⟨[w,iA ct],0,1⟩]).own
      generalize (s'++[⟨[w,iA ct],0,1⟩] : St) = S1 at *
      generalize s'.length = wb at *
      have bw : ∀ {s3 : St} {v3 : AV} {p3 : List Int},NbTo S1 s3 (st.length + 1) v1 v3 p3→(∀ k,St.at1 s3 wb k = [w,iA ct][k]?)∧boxOf v3≠some wb∧wb < s3.length∧st.length + 1≤s3.length:=fun t =>
        ⟨fun k=>at1_box (t.box hwx hsw) (by decide) k,t.sep hwl hsw,by have:=t.ag.len; omega,by have:=t.ag.len; have:=tg.ag.len; omega⟩
      obtain ⟨xw,sw,lw,lew⟩:=bw tO
      try simp only [k1,k3,k5,xw,m1,kB,kZ,kD,kE,xp,xj,xn,xe,xf,xh,xi,xm,xl,xk,reduceIte,reduceCtorEq,yd,yc,xv]
      refine callNb h tO.own lew (by omega) (fun S' a=>kept_at (b:=wb) (o:=0) (by simp only [kB,kZ,kD,kE,xp,xj,xn,xe,xf,xh,xi,xm,xl,xk,reduceIte,reduceCtorEq,yd,yc,xv]) (a.eq wb lw sw)) ?_
      intro w2 s2 tA
      have qa:=numP_len ct
      obtain ⟨xa,sa,la,lea⟩:=bw tA
      simp only [k1,k3,k5,xa,m1,kB,kZ,kD,kE,xp,xj,xn,xe,xf,xh,xi,xm,xl,xk,reduceIte,reduceCtorEq,yd,yc,xv]
      refine callNb h tA.own lea (by simp; omega) (fun _ _=>keptA_nil _ _ _) ?_
      intro w3 s3 tB'
      have tB:=tA.trans tB'
      have qb:=numP_len (ops.length : Int)
      have eB : P2++numP ct++numP (ops.length : Int) = (P2++numsP [ct,(ops.length : Int)])++opsBy (ops.take 0):=by simp [numsP,opsBy]
      rw [eB] at tB
      have hP1 : (P2++numsP [ct,(ops.length : Int)]).length≤10000020:=by
        have:=numsP_len [ct,(ops.length : Int)]
        simp at this ⊢
        omega
      clear tA tB' xa sa la lea xw sw lw lew tO
      generalize hP1e : P2++numsP [ct,(ops.length : Int)] = P1 at *
      simp only [k1,k3,k5,kB,kZ,kD,kE,xp,xj,xn,xe,xf,xh,xi,xm,xl,xk,reduceIte,reduceCtorEq,yd,yc,xv]
      refine loop_inv (fun n2 e s4=>∃ (k : Nat) (v3 : AV),k + n2 = ops.length∧e 1 = .ptr cb 0∧e 3 = v3∧e 5 = iA i∧e 6 = .ptr wb 0∧e 7 = iA k∧NbTo S1 s4 (st.length + 1) v1 v3 (P1++opsBy (ops.take k))) ?_ ops.length ?_
      case refine_2=>exact ⟨0,w3,by omega,by simp only [k1,kB,kZ,kD,kE,xp,xj,xn,xe,xf,xh,xi,xm,xl,xk,reduceIte,reduceCtorEq,yd,yc,xv],rfl,by simp only [k5,kB,kZ,kD,kE,xp,xj,xn,xe,xf,xh,xi,xm,xl,xk,reduceIte,reduceCtorEq,yd,yc,xv],rfl,rfl,tB⟩
      clear tB k1 k3 k5
      rintro n2 e s4 ⟨k,v3,hkn,k1,k3,k5,k6,k7,tt⟩
      obtain ⟨xw,sw,lw,lew⟩:=bw tt
      simp only [k1,k3,k5,k6,k7,xw,m1,kB,kZ,kD,kE,xp,xj,xn,xe,xf,xh,xi,xm,xl,xk,reduceIte,reduceCtorEq,yd,yc,xv]
      refine condO_intro ?_ ?_<;>intro hc2
      · have hk : k < ops.length:=by have:=of_decide_eq_true hc2; omega
        obtain ⟨b3,o3,he3,hn3',_,_⟩:=((tg.trans tt).arr hoA hoL).get k (by simpa using hk)
        have hn3:=hn3' []
        simp only [List.getElem_map,List.append_nil] at hn3
        have hok1:=(wrongE_ok (hOk _ (List.getElem_mem hk))).1
        have hol2:=opsBy_len (ops.take k)
        have hosn : opsBy (ops.take (k + 1)) = opsBy (ops.take k)++opBy ops[k]:=by rw [←List.take_append_getElem hk,opsBy_snoc]
        have hPP : (P1++opsBy (ops.take k)).length≤20000000:=by rw [List.length_append]; simp at hol2; omega
        have hwr : IntKind.wrap .i64 ((k : Int) + 1) = ((k + 1 : Nat) : Int):=by rw [wrap_small (by omega) (by omega)]; omega
        simp only [k1,k3,k5,k6,k7,xw,he3,hn3,kB,kZ,kD,kE,xp,xj,xn,xe,xf,xh,xi,xm,xl,xk,reduceIte,reduceCtorEq,yd,yc,xv]
        refine callOpN h tt.own lew (by omega) hok1 ?_
        intro w5 s5 t5
        simp only [k1,k3,k5,k6,k7,hwr,kB,kZ,kD,kE,xp,xj,xn,xe,xf,xh,xi,xm,xl,xk,reduceIte,reduceCtorEq,yd,yc,xv]
        refine ⟨n2 - 1,by omega,k + 1,w5,by omega,rfl,rfl,?_⟩
        rw [hosn,← List.append_assoc]
        exact tt.trans t5
      · have hk : k = ops.length:=by have:=of_decide_eq_false hc2; omega
        subst hk
        rw [List.take_length] at tt
        have hwr : IntKind.wrap .i64 ((i : Int) + 1) = ((i + 1 : Nat) : Int):=by rw [wrap_small (by omega) (by omega)]; omega
        simp only [k1,k3,k5,hwr,kB,kZ,kD,kE,xp,xj,xn,xe,xf,xh,xi,xm,xl,xk,reduceIte,reduceCtorEq,yd,yc,xv]
        refine ⟨n - 1,by omega,i + 1,v3,by omega,rfl,rfl,?_⟩
        rw [hsnoc,← List.append_assoc,← List.append_assoc,hPe,hP1e]
        exact tg.trans tt
    · have hi2 : i = C.words.length:=by have:=of_decide_eq_false hc; omega
      subst hi2
      rw [List.take_length] at t
      simp only [k1,k3,kB,kZ,kD,kE,xp,xj,xn,xe,xf,xh,xi,xm,xl,xk,reduceIte,reduceCtorEq,yd,yc,xv]
      exact t
  clear t7 k1 k3
  rintro e s8 ⟨v8,k3,t8⟩
  have hwl:=wordsBy_len C.words
  obtain ⟨x8,y8,le8,se8,lc8⟩:=bc t8
  simp only [k3,kB,kZ,kD,kE,xp,xj,xn,xe,xf,xh,xi,xm,xl,xk,reduceIte,reduceCtorEq,yd,yc,xv]
  refine wpF.mono (w_r26_Sealed h t8.own le8 (by rw [List.length_append]; omega)) ?_
  rintro r S' ⟨w,rfl,t9'⟩
  refine ⟨keptA_nil _ _ _,?_⟩
  have t9:=t8.trans t9'
  simp only [kB,kZ,kD,kE,xp,xj,xn,xe,xf,xh,xi,xm,xl,xk,reduceIte,reduceCtorEq,yd,yc,xv]
  obtain ⟨m,rfl⟩:=t9.ag.ext hx0 fun b hb=>hlow b (by omega)

  exact ⟨w,m,_,rfl,rfl,t9.own⟩
end
end Go.VX.Seat
end
section
set_option maxRecDepth 4000
namespace Go.VX.Seat
open Go.Proofs
theorem c_rem8_128 (P : Program) (t : TypeId) (ox oy : Operand) (a : Int) : closed P (do eqGuard .rem t ox oy (.int .u8 a) (.int .u8 128); binOp .rem t (.int .u8 a) (.int .u8 128)) = some (.int .u8 (a.tmod 128)):=by kernel_rfl
theorem c_rem2 (P : Program) (t : TypeId) (ox oy : Operand) (a : Int) : closed P (do eqGuard .rem t ox oy (.int .u64 a) (.int .u64 2); binOp .rem t (.int .u64 a) (.int .u64 2)) = some (.int .u64 (a.tmod 2)):=by kernel_rfl
theorem c_quo2 (P : Program) (t : TypeId) (ox oy : Operand) (a : Int) : closed P (do eqGuard .quo t ox oy (.int .u64 a) (.int .u64 2); binOp .quo t (.int .u64 a) (.int .u64 2)) = some (.int .u64 (IntKind.wrap .u64 (a.tdiv 2))):=by kernel_rfl
theorem c_negi (P : Program) (a : Int) : closed P (Op.unary .neg (.int .i64 a)) = some (.int .i64 (IntKind.wrap .i64 (0 - a))):=rfl
section
variable {S : St} {rb lo hi : Nat} {v : AV} {q : List Int} {e : Int}
theorem RdAt.setX (h : RdAt true S rb lo hi v q e) (x : Int) : ∃ S2,St.put S rb 2 [iA x] = some S2∧RdAt true S2 rb lo hi v q x∧Only rb S S2:=by
  obtain ⟨ver,p,a,hb,hp,hq,h1,h2,h3⟩:=h.bx0
  have hput:=put_box (o:=2) (vs:=[iA x]) hb (by simp [rcs]) rfl
  have hag:=Agree.set S rb ⟨splice (rcs true v a e) 2 [iA x],0,ver + 1⟩
  refine ⟨_,hput,⟨⟨ver + 1,p,a,?_,hp.agree hag fun b hb e=>by have:=h.ne b hb; omega,hq,h1,h2,h3⟩,h.ne,h.rng,h.len⟩,hag⟩
  rw [List.getElem?_set_self h.lt]
  rfl
theorem RdAt.y2 (h : RdAt true S rb lo hi v q e) : St.at1 S rb 2 = some (iA e):=by
  obtain ⟨ver,p,a,hb,_⟩:=h.bx0
  rw [at1_box hb (by decide) 2]
  rfl
theorem RdAt.see (h : RdAt true S rb lo hi v q e) : ∃ (p : List Int) (a : Nat),a + q.length = p.length∧p.length≤1000000000∧lenA v = some p.length∧St.at1 S rb 0 = some v∧St.at1 S rb 1 = some (iA a) ∧
    ∀ c r,q = c :: r→∃ b o S2,elemA v 1 (a : Int) = some (.ptr b o)∧St.at1 S b o = some (.sc (.int .u8 c))∧St.put S rb 1 [iA ((a + 1 : Nat) : Int)] = some S2∧RdAt true S2 rb lo hi v r e∧Only rb S S2:=by
  obtain ⟨ver,p,a,hb,hp,hq,h1,h2,h3⟩:=h.bx0
  have l1:=hp.len
  simp only [List.length_map] at l1
  refine ⟨p,a,by rw [hq,List.length_drop]; omega,h3,l1,?_,?_,?_⟩
  · rw [at1_box hb (by decide) 0]; rfl
  · rw [at1_box hb (by decide) 1]; rfl
  intro c r hc
  have hlt : a < p.length:=by
    have:=congrArg List.length hc
    rw [hq,List.length_drop] at this
    simp at this
    omega
  rw [hq,List.drop_eq_getElem_cons hlt] at hc
  injection hc with hc1 hc2
  obtain ⟨b1,o1,he1,_,ha1,_⟩:=hp.get a (by simpa using hlt)
  have p1:=ha1 [] 0 (by omega)
  simp only [List.getElem_map,Nat.add_zero,List.append_nil,List.getElem?_cons_zero] at p1
  rw [hc1] at p1
  have hput:=put_box (o:=1) (vs:=[iA ((a + 1 : Nat) : Int)]) hb (by simp [rcs]) rfl
  have hag:=Agree.set S rb ⟨splice (rcs true v a e) 1 [iA ((a + 1 : Nat) : Int)],0,ver + 1⟩
  refine ⟨b1,o1,_,he1,p1,hput,⟨⟨ver + 1,p,a + 1,?_,hp.agree hag fun b hb e=>by have:=h.ne b hb; omega,hc2.symm,by omega,(fun e=>by cases e),h3⟩,h.ne,fun b hb=>?_,?_⟩,hag⟩
  · rw [List.getElem?_set_self h.lt]
    rfl
  · refine h.rng b ?_
    rw [hq,List.drop_eq_getElem_cons hlt]
    exact List.mem_cons_of_mem _ (by rw [hc2]; exact hb)
  · have:=h.len
    rw [hq,List.drop_eq_getElem_cons hlt,hc2] at this
    simp at this
    omega
end
section
variable {X : Cx} {S : St} {rb lo hi : Nat} {v : AV} {q : List Int} {e : Int}
theorem callFailX {K : Env→St→Post3→Prop} {Q : Post3} {dst : Option Nat} {env : Env} (h : On X) (hr : RdAt true S rb lo hi v q e) {x : Int} (hK : ∀ S',RdAt true S' rb lo hi v q (if decide (e = 0) then x else e)→Only rb S S'→K (env.put dst (.tup [])) S' Q) : callO X 58 [.ptr rb 0,iA x] dst [] K env S Q:=by
  suffices hs : wpF X 58 [.ptr rb 0,iA x] S fun r S'=>r = .ret (.tup [])∧RdAt true S' rb lo hi v q (if decide (e = 0) then x else e)∧Only rb S S' by
    refine wpF.mono hs ?_
    rintro r S' ⟨rfl,h1,h2⟩
    exact ⟨keptA_nil _ _ _,hK S' h1 h2⟩
  refine wpF_intro (fn:=v_r26_Reader_fail) (by rw [h.F]; rfl) ?_
  have x1:=hr.y2
  cases h0 : decide (e = 0)
  · simp only [v_r26_Reader_fail,x1,h0,kB,kZ,kD,kE,xp,xj,xn,xe,xf,xh,xi,xm,xl,xk,reduceIte,reduceCtorEq,yd,yc,xv]
    exact ⟨hr,Agree.refl _ _⟩
  · obtain ⟨S2,hp,h2,h3⟩:=hr.setX x
    simp only [v_r26_Reader_fail,x1,h0,hp,kB,kZ,kD,kE,xp,xj,xn,xe,xf,xh,xi,xm,xl,xk,reduceIte,reduceCtorEq,yd,yc,xv]
    exact ⟨h2,h3⟩
set_option maxHeartbeats 4000000 in
theorem w_NumX (h : On X) (hr : RdAt true S rb lo hi v q e) : wpF X 56 [.ptr rb 0] S fun r S'=>∃ n q' e',r = .ret (iA n)∧RdAt true S' rb lo hi v q' e'∧Only rb S S'∧Did rdN q e n q' e':=by
  refine wpF_intro (fn:=v_r26_Reader_Number) (by rw [h.F]; rfl) ?_
  have cv8 : ∀ a,closed X.P (convert 5 146 (.int .u8 a)) = some (.int .u64 (IntKind.wrap .u64 a)):=fun a=>by rw [h.P]; exact c_cv864 a
  have cvi : ∀ a,closed X.P (convert 146 2 (.int .u64 a)) = some (.int .i64 (IntKind.wrap .i64 a)):=fun a=>by rw [h.P]; exact c_cv6i a
  simp only [v_r26_Reader_Number,kB,kZ,kD,kE,xp,xj,xn,xe,xf,xh,xi,xm,xl,xk,reduceIte,reduceCtorEq,yd,yc,xv]
  refine anyLoop (mB m0) (fun e1 s=>∃ (u : Int) (q' : List Int),e1 3 = .sc (.int .u64 u)∧RdAt true s rb lo hi v q' e∧Only rb S s∧(e = 0→numD 0 0 q = some (u,q'))∧0≤u∧u < 18446744073709551616) ?_ ?_
  · refine loop_inv (fun n e1 s=>∃ (i : Nat) (u : Int),i + n = q.length∧i≤9∧e1 0 = .ptr rb 0∧e1 3 = .sc (.int .u64 u)∧e1 4 = iA (7 * (i : Int))∧RdAt true s rb lo hi v (q.drop i) e∧Only rb S s∧(e≠0→i = 0)∧(0≤u∧u < 18446744073709551616)∧numD 0 0 q = numD i u (q.drop i)) ?_ q.length ?_
    case refine_2=>exact ⟨0,0,by omega,by omega,rfl,rfl,rfl,hr,Agree.refl _ _,fun _=>rfl,by decide,rfl⟩
    rintro n e1 s ⟨i,u,hin,hi9,k0,k3,k4,hR,hO,hei,hu,hD⟩
    have y2:=hR.y2
    simp only [k0,k3,k4,y2,kB,kZ,kD,kE,xp,xj,xn,xe,xf,xh,xi,xm,xl,xk,reduceIte,reduceCtorEq,yd,yc,xv]
    refine condO_intro ?_ ?_<;>intro hc
    case refine_2 =>
      simp only [k0,k3,k4,kB,kZ,kD,kE,xp,xj,xn,xe,xf,xh,xi,xm,xl,xk,reduceIte,reduceCtorEq,yd,yc,xv]
      exact ⟨u,q.drop i,rfl,hR,hO,fun h0=>absurd h0 (of_decide_eq_false hc),hu.1,hu.2⟩
    have he:=of_decide_eq_true hc
    subst he
    obtain ⟨p,a,hal,hpl,l1,x0,x1,hsee⟩:=hR.see
    rw [List.length_drop] at hal
    cases hg : decide ((p.length : Int)≤(a : Int))
    case true =>
      have hdr : q.drop i = []:=by
        have:=of_decide_eq_true hg
        exact List.drop_eq_nil_of_le (by omega)
      simp only [k0,k3,k4,x0,x1,l1,hg,kB,kZ,kD,kE,xp,xj,xn,xe,xf,xh,xi,xm,xl,xk,reduceIte,reduceCtorEq,yd,yc,xv]
      refine callFailX h hR ?_
      intro S' h1 h2
      simp only [kB,kZ,kD,kE,xp,xj,xn,xe,xf,xh,xi,xm,xl,xk,reduceIte,reduceCtorEq,yd,yc,xv]
      refine ⟨_,_,_,rfl,h1,hO.trans' h2,Did.fail (by decide) fun _=>?_⟩
      unfold rdN
      rw [hD,hdr]
      rfl
    have hil : i < q.length:=by have:=of_decide_eq_false hg; omega
    have hs63 : decide (63 < 7 * (i : Int)) = false:=decide_eq_false (by omega)
    rw [List.drop_eq_getElem_cons hil] at hD hR
    obtain ⟨b1,o1,S2,he1,p1,hp2,hR2,hO2⟩:=hsee _ _ (List.drop_eq_getElem_cons hil)
    have hrg:=hR.rng q[i] (List.mem_cons_self ..)
    obtain ⟨c,hcE⟩ : ∃ c,q[i] = c:=⟨_,rfl⟩
    rw [hcE] at hD hrg p1
    have hs7 : decide (7 * (i : Int) = 63) = decide (i = 9):=decide_eq_decide.2 (by omega)
    have hs0 : decide (0 < 7 * (i : Int)) = decide (0 < i):=decide_eq_decide.2 (by omega)
    have hwr : IntKind.wrap .i64 ((a : Int) + 1) = ((a + 1 : Nat) : Int):=by rw [wrap_small (by omega) (by omega)]; omega
    have hw7 : IntKind.wrap .i64 (7 * (i : Int) + 7) = 7 * ((i + 1 : Nat) : Int):=by rw [wrap_small (by omega) (by omega)]; omega
    have hor : IntKind.wrap .u64 ((BitVec.ofInt 64 u ||| BitVec.ofInt 64 (IntKind.wrap .u64 (IntKind.wrap .u64 (c.tmod 128) * 2 ^ (min (7 * i) 64)))).toNat : Int) = orS u c i:=by
      have hm : min (7 * i) 64 = 7 * i:=by omega
      have h2 : IntKind.wrap .u64 (c.tmod 128) = c.tmod 128:=by
        have hw : ∀ n : Int,IntKind.wrap .u64 n = n % 18446744073709551616:=fun _=>rfl
        rw [hw,Int.tmod_eq_emod_of_nonneg (by omega)]
        omega
      rw [hm,h2]
      rfl
    have hob:=orS_bnd u c i
    obtain ⟨stop,hst⟩ : ∃ stop,((decide (i = 9) && decide (1 < c)) || (decide (0 < i) && decide (c = 0))) = stop:=⟨_,rfl⟩
    have hD' : numD 0 0 q = if stop then none else if decide (c < 128) then some (orS u c i,q.drop (i + 1)) else numD (i + 1) (orS u c i) (q.drop (i + 1)):=by
      rw [hD,← hst]
      rfl
    have x0':=x0
    simp only [k0,k3,k4,x0,x1,l1,hg,hs63,he1,p1,hwr,hp2,hs7,hs0,kB,kZ,kD,kE,xp,xj,xn,xe,xf,xh,xi,xm,xl,xk,reduceIte,reduceCtorEq,yd,yc,xv]
    refine anyG (mS m0) (fun e2 s2=>s2 = S2∧e2 0 = .ptr rb 0∧e2 3 = .sc (.int .u64 u)∧e2 4 = iA (7 * (i : Int))∧e2 5 = .sc (.int .u8 c)∧stop = false) ?_ ?_
    · clear hD hor
      have hfin : stop = true→∀ S',RdAt true S' rb lo hi v (q.drop (i + 1)) (if decide ((0 : Int) = 0) then 4 else 0)→Only rb S2 S'→RdAt true S' rb lo hi v (q.drop (i + 1)) (if decide ((0 : Int) = 0) then 4 else 0)∧Only rb S S'∧Did rdN q 0 0 (q.drop (i + 1)) (if decide ((0 : Int) = 0) then 4 else 0):=fun hs S' h1 h2=>⟨h1,(hO.trans' hO2).trans' h2,Did.fail (by decide) fun _=>by unfold rdN; rw [hD',hs]; rfl⟩
      cases h9 : decide (i = 9)<;>cases h1 : decide (1 < c)<;>cases hi0 : decide (0 < i)<;>cases hc0 : decide (c = 0) <;>
        (rw [h9,h1,hi0,hc0] at hst
         subst hst
         simp only [k0,k3,k4,h9,h1,hi0,hc0,hs7,hs0,kB,kZ,kD,kE,xp,xj,xn,xe,xf,xh,xi,xm,xl,xk,reduceIte,reduceCtorEq,yd,yc,xv]
         try (first | done | (refine callFailX h hR2 ?_
                              intro S' h1 h2
                              simp only [kB,kZ,kD,kE,xp,xj,xn,xe,xf,xh,xi,xm,xl,xk,reduceIte,reduceCtorEq,yd,yc,xv]
                              obtain ⟨f1,f2,f3⟩:=hfin rfl S' h1 h2
                              exact ⟨_,_,_,rfl,f1,f2,f3⟩)))
    clear k0 k3 k4 he1
    rintro e2 s2 ⟨rfl,k0,k3,k4,k5,rfl⟩
    simp only [Bool.false_eq_true,if_false] at hD'
    simp only [k0,k3,k4,k5,c_rem8_128,c_shlV,c_or64,cv8,hor,hw7,kB,kZ,kD,kE,xp,xj,xn,xe,xf,xh,xi,xm,xl,xk,reduceIte,reduceCtorEq,yd,yc,xv]
    refine condO_intro ?_ ?_<;>intro hc2
    · rw [if_pos hc2] at hD'
      simp only [k0,kB,kZ,kD,kE,xp,xj,xn,xe,xf,xh,xi,xm,xl,xk,reduceIte,reduceCtorEq,yd,yc,xv]
      exact ⟨_,_,rfl,hR2,hO.trans' hO2,fun _=>hD',hob.1,hob.2⟩
    · have hc3:=of_decide_eq_false hc2
      rw [hc2] at hD'
      simp only [Bool.false_eq_true,if_false] at hD'
      simp only [k0,kB,kZ,kD,kE,xp,xj,xn,xe,xf,xh,xi,xm,xl,xk,reduceIte,reduceCtorEq,yd,yc,xv]
      have h9 : i≠9:=fun e9=>by
        rw [decide_eq_true e9,decide_eq_true (by omega : 1 < c)] at hst
        simp at hst
      exact ⟨n - 1,by omega,i + 1,orS u c i,by omega,by omega,rfl,rfl,hR2,hO.trans' hO2,fun h0=>absurd rfl h0,hob,hD'⟩
  rintro e1 s ⟨u,q',k3,hR,hO,hD,hu0,hu1⟩
  have hmod : u.tmod 2 = u % 2:=Int.tmod_eq_emod_of_nonneg hu0
  have hdiv : IntKind.wrap .u64 (u.tdiv 2) = u / 2:=by
    have hw : ∀ n : Int,IntKind.wrap .u64 n = n % 18446744073709551616:=fun _=>rfl
    rw [hw,Int.tdiv_eq_ediv_of_nonneg hu0]
    omega
  have hwi : IntKind.wrap .i64 (u / 2) = u / 2:=wrap_small (by omega) (by omega)
  have hwn : IntKind.wrap .i64 (0 - u / 2) = 0 - u / 2:=wrap_small (by omega) (by omega)
  have hws : IntKind.wrap .i64 (0 - u / 2 - 1) = -(u / 2) - 1:=by rw [wrap_small (by omega) (by omega)]; omega
  simp only [k3,c_rem2,hmod,kB,kZ,kD,kE,xp,xj,xn,xe,xf,xh,xi,xm,xl,xk,reduceIte,reduceCtorEq,yd,yc,xv]
  refine condO_intro ?_ ?_<;>intro hc
  · simp only [k3,c_quo2,c_negi,hdiv,hwi,hwn,hws,cvi,kB,kZ,kD,kE,xp,xj,xn,xe,xf,xh,xi,xm,xl,xk,reduceIte,reduceCtorEq,yd,yc,xv]
    refine ⟨_,q',e,rfl,hR,hO,Did.done fun h0=>?_⟩
    unfold rdN
    rw [hD h0]
    simp only [sgnD,hc,if_true]
  · simp only [k3,c_quo2,hdiv,hwi,cvi,kB,kZ,kD,kE,xp,xj,xn,xe,xf,xh,xi,xm,xl,xk,reduceIte,reduceCtorEq,yd,yc,xv]
    refine ⟨_,q',e,rfl,hR,hO,Did.done fun h0=>?_⟩
    unfold rdN
    rw [hD h0]
    simp only [sgnD,hc,Bool.false_eq_true,if_false]
end
end Go.VX.Seat
end
section
set_option maxRecDepth 4000
namespace Go.VX.Seat
open Go.Proofs
def finX (uN : Bool) (o : OpV × List Int) : Except Int (OpV × List Int):=if uN then (rdN o.2).bind fun n=>.ok ({ o.1 with n:=n.1 },n.2) else .ok o
theorem rdOpF_us (k g : Int) (h : 1≤k∧k≤28) (q : List Int) : rdOpF k g q = (rdFlds ((if usD k then [1] else [])++((if usA k then [2] else [])++((if usB k then [3] else [])++(if usC k then [4] else [])))) (op0 k g) q).bind (finX (usN k)):=by
  unfold rdOpF
  have e1:=regsO_us (op0 k g) h
  rw [List.append_assoc,List.append_assoc] at e1
  rw [e1]
  have hk : ∀ (l : List Nat) (o : OpV) (q : List Int) (x : OpV × List Int),rdFlds l o q = .ok x→x.1.k = o.k:=fun l=>by
    induction l with
    | nil=>intro o q x e; injection e with e; rw [←e]
    | cons a l ih =>
      intro o q x e
      have e : ((rdN q).bind fun y=>rdFlds l (setF o a y.1) y.2) = .ok x:=e
      cases hn : rdN q with
      | error z=>rw [hn] at e; cases e
      | ok y=>rw [hn] at e; exact (ih _ _ _ e).trans (setF_k _ _ _)
  show Except.bind (rdFlds _ (op0 k g) q) _ = Except.bind (rdFlds _ (op0 k g) q) _
  cases hr : rdFlds ((if usD k then [1] else [])++((if usA k then [2] else [])++((if usB k then [3] else [])++(if usC k then [4] else [])))) (op0 k g) q with
  | error z=>
    have hr' : rdFlds ((if usD (op0 k g).k then [1] else [])++((if usA (op0 k g).k then [2] else [])++((if usB (op0 k g).k then [3] else [])++(if usC (op0 k g).k then [4] else [])))) (op0 k g) q = .error z:=hr
    rw [hr']
    rfl
  | ok x =>
    have hr' : rdFlds ((if usD (op0 k g).k then [1] else [])++((if usA (op0 k g).k then [2] else [])++((if usB (op0 k g).k then [3] else [])++(if usC (op0 k g).k then [4] else [])))) (op0 k g) q = .ok x:=hr
    rw [hr']
    have h2 : x.1.k = k:=hk _ _ _ _ hr
    show rdOpN x.1 x.2 = finX (usN k) x
    unfold rdOpN finX
    have h3 : hasNW x.1.k = usN k:=by rw [h2,hasNW_us h]
    rw [h3]
section
variable {X : Cx} {S : St} {rb lo hi : Nat} {v : AV} {q : List Int} {e : Int}
theorem callNumX {K : Env→St→Post3→Prop} {Q : Post3} {dst : Option Nat} {keep : List VOpd} {env : Env} (h : On X) (hr : RdAt true S rb lo hi v q e) (hk : ∀ S',Only rb S S'→keptA env S S' keep = true)
    (hK : ∀ n q' e' S',RdAt true S' rb lo hi v q' e'→Only rb S S'→Did rdN q e n q' e'→K (env.put dst (iA n)) S' Q) : callO X 56 [.ptr rb 0] dst keep K env S Q:=by
  refine wpF.mono (w_NumX h hr) ?_
  rintro r S' ⟨n,q',e',rfl,h1,h2,h3⟩
  exact ⟨hk _ h2,hK _ _ _ _ h1 h2 h3⟩
theorem callCountX {K : Env→St→Post3→Prop} {Q : Post3} {dst : Option Nat} {env : Env} (h : On X) (hr : RdAt true S rb lo hi v q e) {m : Int} (hm : 0≤m)
    (hK : ∀ n q' e' S',RdAt true S' rb lo hi v q' e'→Only rb S S'→Did (rdC m) q e n q' e'→0≤n→n≤m→K (env.put dst (iA n)) S' Q) : callO X 55 [.ptr rb 0,iA m] dst [] K env S Q:=by
  suffices hs : wpF X 55 [.ptr rb 0,iA m] S fun r S'=>∃ n q' e',r = .ret (iA n)∧RdAt true S' rb lo hi v q' e'∧Only rb S S'∧Did (rdC m) q e n q' e'∧0≤n∧n≤m by
    refine wpF.mono hs ?_
    rintro r S' ⟨n,q',e',rfl,h1,h2,h3,h4,h5⟩
    exact ⟨keptA_nil _ _ _,hK _ _ _ _ h1 h2 h3 h4 h5⟩
  refine wpF_intro (fn:=v_r26_Reader_Count) (by rw [h.F]; rfl) ?_
  simp only [v_r26_Reader_Count,kB,kZ,kD,kE,xp,xj,xn,xe,xf,xh,xi,xm,xl,xk,reduceIte,reduceCtorEq,yd,yc,xv]
  refine callNumX h hr (fun _ _=>keptA_nil _ _ _) ?_
  intro n q1 e1 S1 r1 o1 d1
  have s1:=(Sp.start (rdC m) q e).step d1
  have x1:=r1.y2
  simp only [x1,kB,kZ,kD,kE,xp,xj,xn,xe,xf,xh,xi,xm,xl,xk,reduceIte,reduceCtorEq,yd,yc,xv]
  cases h0 : decide (e1 = 0)
  · have hne : decide (e1≠0) = true:=decide_eq_true (of_decide_eq_false h0)
    simp only [x1,h0,hne,kB,kZ,kD,kE,xp,xj,xn,xe,xf,xh,xi,xm,xl,xk,reduceIte,reduceCtorEq,yd,yc,xv]
    exact ⟨_,_,_,rfl,r1,o1,Did.ofSp s1 (fun h1=>absurd h1 (of_decide_eq_false h0)),by omega,hm⟩
  have he1:=of_decide_eq_true h0
  subst he1
  have n0 : decide ((0 : Int)≠0) = false:=by decide
  have e40 : decide ((4 : Int) = 0) = false:=by decide
  have e41 : decide ((4 : Int)≠0) = true:=by decide
  have e31 : decide ((3 : Int)≠0) = true:=by decide
  cases hn : decide (n < 0)
  · cases hg : decide (m < n)
    · simp only [x1,h0,hn,hg,n0,kB,kZ,kD,kE,xp,xj,xn,xe,xf,xh,xi,xm,xl,xk,reduceIte,reduceCtorEq,yd,yc,xv]
      refine ⟨_,_,_,rfl,r1,o1,Did.ofSp s1 (fun _=>?_),by have:=of_decide_eq_false hn; omega,by have:=of_decide_eq_false hg; omega⟩
      simp only [hn,hg,Bool.false_eq_true,if_false]
    · simp only [x1,h0,hn,hg,n0,kB,kZ,kD,kE,xp,xj,xn,xe,xf,xh,xi,xm,xl,xk,reduceIte,reduceCtorEq,yd,yc,xv]
      refine callFailX h r1 ?_
      intro S2 r2 o2
      rw [h0,if_pos rfl] at r2
      have x2:=r2.y2
      simp only [x2,e31,kB,kZ,kD,kE,xp,xj,xn,xe,xf,xh,xi,xm,xl,xk,reduceIte,reduceCtorEq,yd,yc,xv]
      refine ⟨_,_,_,rfl,r2,o1.trans' o2,Did.ofSp (k:=rdC m) (s1.to rfl (by decide) ?_) (fun h1=>absurd h1 (by decide)),by omega,hm⟩
      simp only [hn,hg,Bool.false_eq_true,if_false,if_true]
  · simp only [x1,h0,hn,n0,kB,kZ,kD,kE,xp,xj,xn,xe,xf,xh,xi,xm,xl,xk,reduceIte,reduceCtorEq,yd,yc,xv]
    refine callFailX h r1 ?_
    intro S2 r2 o2
    rw [h0,if_pos rfl] at r2
    have x2:=r2.y2
    simp only [x2,e40,e41,kB,kZ,kD,kE,xp,xj,xn,xe,xf,xh,xi,xm,xl,xk,reduceIte,reduceCtorEq,yd,yc,xv]
    refine ⟨_,_,_,rfl,r2,o1.trans' o2,Did.ofSp (k:=rdC m) (s1.to rfl (by decide) ?_) (fun h1=>absurd h1 (by decide)),by omega,hm⟩
    simp only [hn,if_true]
set_option maxHeartbeats 4000000 in
theorem w_opX (h : On X) (hr : RdAt true S rb lo hi v q e) :
    wpF X 57 [.ptr rb 0] S fun r S'=>∃ (o : OpV) (q' : List Int) (e' : Int),r = .ret (.agg o.row)∧RdAt true S' rb lo hi v q' e'∧Only rb S S'∧Did rdOp q e o q' e':=by
  refine wpF_go (fn:=v_r26_Reader_op) (by rw [h.F]; rfl) ?_
  have hrl:=hr.lt
  simp only [v_r26_Reader_op,kB,kZ,kD,kE,xp,xj,xn,xe,xf,xh,xi,xm,xl,xk,reduceIte,reduceCtorEq,yd,yc,xv]
  refine callNumX h (hr.grow _) (fun _ _=>keptA_nil _ _ _) ?_
  intro n1 q1 e1 S1 r1 o1 d1
  have s1:=(Sp.start rdOp q e).step d1
  have hS1:=o1.len
  simp at hS1
  simp only [kB,kZ,kD,kE,xp,xj,xn,xe,xf,xh,xi,xm,xl,xk,reduceIte,reduceCtorEq,yd,yc,xv]
  have hO : OpS true S (S1++[⟨[iA n1,iA 0,iA 0,iA 0,iA 0,iA 0,iA 0],0,1⟩]) rb lo hi v q1 e1 S1.length (op0 n1 0):={
    rd:=r1.grow _
    on:=(((Agree.app (fun _=>False) S [_]).trans o1).trans (Agree.app (fun _=>False) S1 _)).mono fun n _ x=>by
      rcases x with (x | x) | x
      · exact x.elim
      · exact x
      · exact x.elim
    res:=⟨0,by
      rw [List.getElem?_append_left (by omega)]
      exact o1.box (by simp; rfl) (by omega)⟩
    bx:=⟨1,by simp; rfl⟩
    hx:=by omega
    lt:=hrl }
  obtain ⟨xb,hxb⟩ : ∃ xb,S1.length = xb:=⟨_,rfl⟩
  rw [hxb] at hO
  rw [hxb]
  generalize (S1++[⟨[iA n1,iA 0,iA 0,iA 0,iA 0,iA 0,iA 0],0,1⟩] : St) = T at *
  clear hS1 r1 o1 d1 hxb
  have x1:=hO.rd.y2
  have y1:=hO.x.1
  simp only [OpV.row,op0] at y1
  simp only [x1,kB,kZ,kD,kE,xp,xj,xn,xe,xf,xh,xi,xm,xl,xk,reduceIte,reduceCtorEq,yd,yc,xv]
  dsimp only at s1
  refine anyG (mS m0) (fun e' s=>∃ e2,e' 0 = .ptr rb 0∧e' 2 = .ptr (S.length + 0) 0∧e' 3 = .ptr xb 0∧OpS true S s rb lo hi v q1 e2 xb (op0 n1 0)∧Sp (if decide (e = 0) then rdOp q else .error e) e2 q1 (fun q=>(rdN q).bind fun g=>(rdFlds ((if usD n1 then [1] else [])++((if usA n1 then [2] else [])++((if usB n1 then [3] else [])++(if usC n1 then [4] else [])))) (op0 n1 g.1) g.2).bind (finX (usN n1)))) ?_ ?_
  · cases h0 : decide (e1 = 0)
    · simp only [h0,x1,y1,kB,kZ,kD,kE,xp,xj,xn,xe,xf,xh,xi,xm,xl,xk,reduceIte,reduceCtorEq,yd,yc,xv]
      exact ⟨e1,hO,s1.stay (of_decide_eq_false h0)⟩
    have he1:=of_decide_eq_true h0
    subst he1
    have hgo : (decide (n1 < 1) || decide (28 < n1)) = true→∀ T2,RdAt true T2 rb lo hi v q1 (if decide ((0 : Int) = 0) then 4 else 0)→Only rb T T2→∃ e2,OpS true S T2 rb lo hi v q1 e2 xb (op0 n1 0)∧Sp (if decide (e = 0) then rdOp q else .error e) e2 q1 (fun q=>(rdN q).bind fun g=>(rdFlds ((if usD n1 then [1] else [])++((if usA n1 then [2] else [])++((if usB n1 then [3] else [])++(if usC n1 then [4] else [])))) (op0 n1 g.1) g.2).bind (finX (usN n1))):=fun hkd T2 r2 o2 =>
      ⟨4,hO.read r2 o2,s1.to rfl (by decide) (by simp only [hkd,if_true])⟩
    cases hk1 : decide (n1 < 1)
    · cases hk2 : decide (28 < n1)
      · have hkr : 1≤n1∧n1≤28:=⟨by have:=of_decide_eq_false hk1; omega,by have:=of_decide_eq_false hk2; omega⟩
        simp only [h0,hk1,hk2,x1,y1,kB,kZ,kD,kE,xp,xj,xn,xe,xf,xh,xi,xm,xl,xk,reduceIte,reduceCtorEq,yd,yc,xv]
        refine ⟨0,hO,s1.cast ?_⟩
        simp only [hk1,hk2,Bool.or_self,Bool.false_eq_true,if_false]
        cases rdN q1 with
        | error z=>rfl
        | ok g=>exact rdOpF_us n1 g.1 hkr g.2
      · simp only [h0,hk1,hk2,x1,y1,kB,kZ,kD,kE,xp,xj,xn,xe,xf,xh,xi,xm,xl,xk,reduceIte,reduceCtorEq,yd,yc,xv]
        refine callFailX h hO.rd ?_
        intro T2 r2 o2
        simp only [kB,kZ,kD,kE,xp,xj,xn,xe,xf,xh,xi,xm,xl,xk,reduceIte,reduceCtorEq,yd,yc,xv]
        exact hgo (by rw [hk2]; simp) T2 r2 o2
    · simp only [h0,hk1,x1,y1,kB,kZ,kD,kE,xp,xj,xn,xe,xf,xh,xi,xm,xl,xk,reduceIte,reduceCtorEq,yd,yc,xv]
      refine callFailX h hO.rd ?_
      intro T2 r2 o2
      simp only [kB,kZ,kD,kE,xp,xj,xn,xe,xf,xh,xi,xm,xl,xk,reduceIte,reduceCtorEq,yd,yc,xv]
      exact hgo (by rw [hk1]; simp) T2 r2 o2
  clear x1 y1 hO s1
  rintro e' T2 ⟨e2,k0,k2,k3,hO,s1⟩
  have y1:=hO.x.1
  simp only [OpV.row,op0] at y1
  simp only [k0,k2,k3,y1,kB,kZ,kD,kE,xp,xj,xn,xe,xf,xh,xi,xm,xl,xk,reduceIte,reduceCtorEq,yd,yc,xv]
  refine callO_same (j_r26_Uses h n1) ?_
  simp only [usRow,kB,kZ,kD,kE,xp,xj,xn,xe,xf,xh,xi,xm,xl,xk,reduceIte,reduceCtorEq,yd,yc,xv]
  generalize usD n1 = uD at *
  generalize usA n1 = uA at *
  generalize usB n1 = uB at *
  generalize usC n1 = uC at *
  generalize usN n1 = uN at *
  have hO0:=hO.grow [⟨[bA uD,bA uA,bA uB,bA uC,bA uN],0,1⟩]
  have hF : (T2++[⟨[bA uD,bA uA,bA uB,bA uC,bA uN],0,1⟩] : St)[T2.length]? = some ⟨[bA uD,bA uA,bA uB,bA uC,bA uN],0,1⟩:=by simp
  have hfx : xb < T2.length:=let ⟨_,hb⟩:=hO.bx; (List.getElem?_eq_some_iff.1 hb).1
  have hxr:=hO.hx
  generalize (T2++[⟨[bA uD,bA uA,bA uB,bA uC,bA uN],0,1⟩] : St) = T3 at *
  generalize T2.length = fb at *
  clear hO y1
  simp only [k0,k2,k3,kB,kZ,kD,kE,xp,xj,xn,xe,xf,xh,xi,xm,xl,xk,reduceIte,reduceCtorEq,yd,yc,xv]
  refine callNumX h hO0.rd (fun _ _=>keptA_nil _ _ _) ?_
  intro n2 q2 e3 T4 r4 o4 d4
  have hO4:=hO0.read r4 o4
  have hF4:=o4.box hF (by omega)
  have s4:=s1.step d4
  dsimp only at s4
  obtain ⟨T5,hp5,hO5,ha5⟩:=hO4.put (k:=6) (n:=n2) (o':=op0 n1 n2) (by decide) rfl
  have hF5:=ha5.box hF4 (by omega)
  have z1:=at1_box hF5 (by decide) 0
  simp only [List.getElem?_cons_zero] at z1
  clear s1 hO0 hO4 hF hF4 r4 o4 d4 ha5
  generalize op0 n1 n2 = o5 at *
  simp only [k0,k2,k3,hp5,z1,kB,kZ,kD,kE,xp,xj,xn,xe,xf,xh,xi,xm,xl,xk,reduceIte,reduceCtorEq,yd,yc,xv]
  obtain ⟨Tsp,hTsp⟩ : ∃ T,(if decide (e = 0) then rdOp q else .error e) = T:=⟨_,rfl⟩
  rw [hTsp] at s4
  refine anyCond m0 (fun e' s=>∃ q e2 o,e' 0 = .ptr rb 0∧e' 2 = .ptr (S.length + 0) 0∧e' 3 = .ptr xb 0∧e' 4 = .ptr fb 0∧OpS true S s rb lo hi v q e2 xb o∧s[fb]? = some ⟨[bA uD,bA uA,bA uB,bA uC,bA uN],0,1⟩∧Sp Tsp e2 q (fun q=>(rdFlds ((if uA then [2] else [])++((if uB then [3] else [])++((if uC then [4] else [])))) o q).bind (finX uN))) ?_ ?_
  · cases uD
    · simp only [k0,k2,k3,kB,kZ,kD,kE,xp,xj,xn,xe,xf,xh,xi,xm,xl,xk,reduceIte,reduceCtorEq,yd,yc,xv]
      exact ⟨_,_,_,hO5,hF5,s4⟩
    · simp only [k0,k2,k3,kB,kZ,kD,kE,xp,xj,xn,xe,xf,xh,xi,xm,xl,xk,reduceIte,reduceCtorEq,yd,yc,xv]
      refine callNumX h hO5.rd (fun _ _=>keptA_nil _ _ _) ?_
      intro nn qn en Tn rn on dn
      have hOn:=hO5.read rn on
      have hFn:=on.box hF5 (by omega)
      have sn:=Sp.step (m:=rdN) (k:=fun x=>(rdFlds ((if uA then [2] else [])++((if uB then [3] else [])++((if uC then [4] else [])))) (setF _ 1 x.1) x.2).bind (finX uN)) (s4.cast (bind_as (rdN _) _ _)) dn
      obtain ⟨Tm,hpm,hOm,ham⟩:=hOn.put (k:=1) (n:=nn) (by decide) (setF_row _ nn (by omega))
      have hFm:=ham.box hFn (by omega)
      simp only [k0,k2,k3,hpm,kB,kZ,kD,kE,xp,xj,xn,xe,xf,xh,xi,xm,xl,xk,reduceIte,reduceCtorEq,yd,yc,xv]
      exact ⟨_,_,_,hOm,hFm,sn⟩
  clear k0 k2 k3 z1
  rintro e' s6 ⟨q6,e6,o6,k0,k2,k3,k4,hO6,hF6,s6'⟩
  have z1:=at1_box hF6 (by decide) 1
  simp only [List.getElem?_cons_succ,List.getElem?_cons_zero] at z1
  simp only [k0,k2,k3,k4,z1,kB,kZ,kD,kE,xp,xj,xn,xe,xf,xh,xi,xm,xl,xk,reduceIte,reduceCtorEq,yd,yc,xv]
  refine anyCond m0 (fun e' s=>∃ q e2 o,e' 0 = .ptr rb 0∧e' 2 = .ptr (S.length + 0) 0∧e' 3 = .ptr xb 0∧e' 4 = .ptr fb 0∧OpS true S s rb lo hi v q e2 xb o∧s[fb]? = some ⟨[bA uD,bA uA,bA uB,bA uC,bA uN],0,1⟩∧Sp Tsp e2 q (fun q=>(rdFlds ((if uB then [3] else [])++((if uC then [4] else []))) o q).bind (finX uN))) ?_ ?_
  · cases uA
    · simp only [k0,k2,k3,k4,kB,kZ,kD,kE,xp,xj,xn,xe,xf,xh,xi,xm,xl,xk,reduceIte,reduceCtorEq,yd,yc,xv]
      exact ⟨_,_,_,hO6,hF6,s6'⟩
    · simp only [k0,k2,k3,k4,kB,kZ,kD,kE,xp,xj,xn,xe,xf,xh,xi,xm,xl,xk,reduceIte,reduceCtorEq,yd,yc,xv]
      refine callNumX h hO6.rd (fun _ _=>keptA_nil _ _ _) ?_
      intro nn qn en Tn rn on dn
      have hOn:=hO6.read rn on
      have hFn:=on.box hF6 (by omega)
      have sn:=Sp.step (m:=rdN) (k:=fun x=>(rdFlds ((if uB then [3] else [])++((if uC then [4] else []))) (setF _ 2 x.1) x.2).bind (finX uN)) (s6'.cast (bind_as (rdN _) _ _)) dn
      obtain ⟨Tm,hpm,hOm,ham⟩:=hOn.put (k:=2) (n:=nn) (by decide) (setF_row _ nn (by omega))
      have hFm:=ham.box hFn (by omega)
      simp only [k0,k2,k3,k4,hpm,kB,kZ,kD,kE,xp,xj,xn,xe,xf,xh,xi,xm,xl,xk,reduceIte,reduceCtorEq,yd,yc,xv]
      exact ⟨_,_,_,hOm,hFm,sn⟩
  clear k0 k2 k3 k4 z1
  rintro e' s7 ⟨q7,e7,o7,k0,k2,k3,k4,hO7,hF7,s7'⟩
  have z1:=at1_box hF7 (by decide) 2
  simp only [List.getElem?_cons_succ,List.getElem?_cons_zero] at z1
  simp only [k0,k2,k3,k4,z1,kB,kZ,kD,kE,xp,xj,xn,xe,xf,xh,xi,xm,xl,xk,reduceIte,reduceCtorEq,yd,yc,xv]
  refine anyCond m0 (fun e' s=>∃ q e2 o,e' 0 = .ptr rb 0∧e' 2 = .ptr (S.length + 0) 0∧e' 3 = .ptr xb 0∧e' 4 = .ptr fb 0∧OpS true S s rb lo hi v q e2 xb o∧s[fb]? = some ⟨[bA uD,bA uA,bA uB,bA uC,bA uN],0,1⟩∧Sp Tsp e2 q (fun q=>(rdFlds ((if uC then [4] else [])) o q).bind (finX uN))) ?_ ?_
  · cases uB
    · simp only [k0,k2,k3,k4,kB,kZ,kD,kE,xp,xj,xn,xe,xf,xh,xi,xm,xl,xk,reduceIte,reduceCtorEq,yd,yc,xv]
      exact ⟨_,_,_,hO7,hF7,s7'⟩
    · simp only [k0,k2,k3,k4,kB,kZ,kD,kE,xp,xj,xn,xe,xf,xh,xi,xm,xl,xk,reduceIte,reduceCtorEq,yd,yc,xv]
      refine callNumX h hO7.rd (fun _ _=>keptA_nil _ _ _) ?_
      intro nn qn en Tn rn on dn
      have hOn:=hO7.read rn on
      have hFn:=on.box hF7 (by omega)
      have sn:=Sp.step (m:=rdN) (k:=fun x=>(rdFlds ((if uC then [4] else [])) (setF _ 3 x.1) x.2).bind (finX uN)) (s7'.cast (bind_as (rdN _) _ _)) dn
      obtain ⟨Tm,hpm,hOm,ham⟩:=hOn.put (k:=3) (n:=nn) (by decide) (setF_row _ nn (by omega))
      have hFm:=ham.box hFn (by omega)
      simp only [k0,k2,k3,k4,hpm,kB,kZ,kD,kE,xp,xj,xn,xe,xf,xh,xi,xm,xl,xk,reduceIte,reduceCtorEq,yd,yc,xv]
      exact ⟨_,_,_,hOm,hFm,sn⟩
  clear k0 k2 k3 k4 z1
  rintro e' s8 ⟨q8,e8,o8,k0,k2,k3,k4,hO8,hF8,s8'⟩
  have z1:=at1_box hF8 (by decide) 3
  simp only [List.getElem?_cons_succ,List.getElem?_cons_zero] at z1
  simp only [k0,k2,k3,k4,z1,kB,kZ,kD,kE,xp,xj,xn,xe,xf,xh,xi,xm,xl,xk,reduceIte,reduceCtorEq,yd,yc,xv]
  refine anyCond m0 (fun e' s=>∃ q e2 o,e' 0 = .ptr rb 0∧e' 2 = .ptr (S.length + 0) 0∧e' 3 = .ptr xb 0∧e' 4 = .ptr fb 0∧OpS true S s rb lo hi v q e2 xb o∧s[fb]? = some ⟨[bA uD,bA uA,bA uB,bA uC,bA uN],0,1⟩∧Sp Tsp e2 q (fun q=>(rdFlds ([]) o q).bind (finX uN))) ?_ ?_
  · cases uC
    · simp only [k0,k2,k3,k4,kB,kZ,kD,kE,xp,xj,xn,xe,xf,xh,xi,xm,xl,xk,reduceIte,reduceCtorEq,yd,yc,xv]
      exact ⟨_,_,_,hO8,hF8,s8'⟩
    · simp only [k0,k2,k3,k4,kB,kZ,kD,kE,xp,xj,xn,xe,xf,xh,xi,xm,xl,xk,reduceIte,reduceCtorEq,yd,yc,xv]
      refine callNumX h hO8.rd (fun _ _=>keptA_nil _ _ _) ?_
      intro nn qn en Tn rn on dn
      have hOn:=hO8.read rn on
      have hFn:=on.box hF8 (by omega)
      have sn:=Sp.step (m:=rdN) (k:=fun x=>(rdFlds ([]) (setF _ 4 x.1) x.2).bind (finX uN)) (s8'.cast (bind_as (rdN _) _ _)) dn
      obtain ⟨Tm,hpm,hOm,ham⟩:=hOn.put (k:=4) (n:=nn) (by decide) (setF_row _ nn (by omega))
      have hFm:=ham.box hFn (by omega)
      simp only [k0,k2,k3,k4,hpm,kB,kZ,kD,kE,xp,xj,xn,xe,xf,xh,xi,xm,xl,xk,reduceIte,reduceCtorEq,yd,yc,xv]
      exact ⟨_,_,_,hOm,hFm,sn⟩
  clear k0 k2 k3 k4 z1
  rintro e' s9 ⟨q9,e9,o9,k0,k2,k3,k4,hO9,hF9,s9'⟩
  have z1:=at1_box hF9 (by decide) 4
  simp only [List.getElem?_cons_succ,List.getElem?_cons_zero] at z1
  simp only [k0,k2,k3,k4,z1,kB,kZ,kD,kE,xp,xj,xn,xe,xf,xh,xi,xm,xl,xk,reduceIte,reduceCtorEq,yd,yc,xv]
  have sF : Sp Tsp e9 q9 (fun q=>finX uN (o9,q)):=s9'.cast rfl
  refine anyCond m0 (fun e' s=>∃ q e2 o,e' 2 = .ptr (S.length + 0) 0∧e' 3 = .ptr xb 0∧OpS true S s rb lo hi v q e2 xb o∧Sp Tsp e2 q (fun q=>.ok (o,q))) ?_ ?_
  · cases uN
    · simp only [k0,k2,k3,k4,kB,kZ,kD,kE,xp,xj,xn,xe,xf,xh,xi,xm,xl,xk,reduceIte,reduceCtorEq,yd,yc,xv]
      exact ⟨_,_,_,hO9,sF.cast rfl⟩
    · simp only [k0,k2,k3,k4,kB,kZ,kD,kE,xp,xj,xn,xe,xf,xh,xi,xm,xl,xk,reduceIte,reduceCtorEq,yd,yc,xv]
      refine callNumX h hO9.rd (fun _ _=>keptA_nil _ _ _) ?_
      intro nn qn en Tn rn on dn
      have hOn:=hO9.read rn on
      have sn:=(sF.cast (k':=fun q=>(rdN q).bind fun n=>.ok ({ o9 with n:=n.1 },n.2)) rfl).step dn
      obtain ⟨Tm,hpm,hOm,ham⟩:=hOn.put (k:=5) (n:=nn) (o':={ o9 with n:=nn }) (by decide) rfl
      simp only [k0,k2,k3,k4,hpm,kB,kZ,kD,kE,xp,xj,xn,xe,xf,xh,xi,xm,xl,xk,reduceIte,reduceCtorEq,yd,yc,xv]
      exact ⟨_,_,_,hOm,sn⟩
  clear k0 k2 k3 k4 z1
  rintro e' s10 ⟨q10,e10,o10,k2,k3,hO10,s10'⟩
  obtain ⟨T8,hp8,hr8,hon8,ha8⟩:=hO10.out o10
  have y7:=hO10.x.2
  simp only [OpV.row] at hp8 ha8 y7
  simp only [k2,k3,y7,hp8,ha8,kB,kZ,kD,kE,xp,xj,xn,xe,xf,xh,xi,xm,xl,xk,reduceIte,reduceCtorEq,yd,yc,xv]
  exact ⟨o10,_,_,rfl,hr8,hon8,Did.ofSp (by rw [hTsp]; exact s10') fun _=>rfl⟩
theorem callOpX {K : Env→St→Post3→Prop} {Q : Post3} {dst : Option Nat} {keep : List VOpd} {env : Env} (h : On X) (hr : RdAt true S rb lo hi v q e) (hk : ∀ S',Only rb S S'→keptA env S S' keep = true)
    (hK : ∀ o q' e' S',RdAt true S' rb lo hi v q' e'→Only rb S S'→Did rdOp q e o q' e'→K (env.put dst (.agg o.row)) S' Q) : callO X 57 [.ptr rb 0] dst keep K env S Q:=by
  refine wpF.mono (w_opX h hr) ?_
  rintro r S' ⟨o,q',e',rfl,h1,h2,h3⟩
  exact ⟨hk _ h2,hK _ _ _ _ h1 h2 h3⟩
end
end Go.VX.Seat
end
section
set_option maxRecDepth 4000
namespace Go.VX.Seat
open Go.Proofs
theorem c_shrV (P : Program) (t : TypeId) (ox oy : Operand) (a : Int) (i : Nat) : closed P (do eqGuard .shr t ox oy (.int .u32 a) (.int .i64 (8 * (i : Int))); binOp .shr t (.int .u32 a) (.int .i64 (8 * (i : Int)))) = some (.int .u32 (a.fdiv (2 ^ (min (8 * i) 32)))):=by
  have : (8 * (i : Int)) = ((8 * i : Nat) : Int):=by omega
  rw [this]
  rfl
theorem le4_get (z : Int) (i : Nat) (hi : i < 4) : (le4 z)[i]'hi = IntKind.wrap .u8 (z.fdiv (2 ^ (min (8 * i) 32))):=by
  have : i = 0∨i = 1∨i = 2∨i = 3:=by omega
  rcases this with rfl | rfl | rfl | rfl
  · show IntKind.wrap .u8 z = IntKind.wrap .u8 (z.fdiv 1)
    rw [Int.fdiv_one]
  · rfl
  · rfl
  · rfl
section
variable {X : Cx} {S : St}
set_option maxHeartbeats 2000000 in
theorem w_OpenX (h : On X) {lo hi : Nat} {v : AV} {q : List Int} (hv : ArrAt S lo hi v 1 (rowsB q)) (hq : q.length≤1000000000) (hr : ∀ b ∈ q,0≤b∧b < 256) :
    wpF X 54 [v,.sc (.string ⟨#[66,105,114,101]⟩)] S fun r S'=>∃ v' q' e',r = .ret (.ptr S.length 0)∧(∃ m,S' = S++m)∧RdAt true S' S.length lo hi v' q' e'∧Sp (loadD q) e' q' bodyD:=by
  refine wpF_go (fn:=v_r26_Opened) (by rw [h.F]; rfl) ?_
  have l1:=hv.len
  simp only [List.length_map] at l1
  have hcc:=isCell_len hv.len
  have hccl:=cellsOf_len hv.len
  have hv1 : ∀ b,boxOf v = some b→b < S.length:=fun b hb=>hv.boxlt hb
  have cv : ∀ a,closed X.P (convert 148 5 (.int .u32 a)) = some (.int .u8 (IntKind.wrap .u8 a)):=fun a=>by rw [h.P]; exact c_cv328 a
  have hR9 : ∀ (L : St) (ver : Nat),RdAt true (S++(⟨[v,iA 0,iA 9],0,ver⟩ :: L)) S.length lo hi v q 9:=fun L ver =>
    ⟨⟨ver,q,0,by simp [rcs],hv.mono _,rfl,by omega,fun e=>(by cases e),hq⟩,hv1,hr,hq⟩
  have hSb : sealBad q = true→Sp (loadD q) 9 q bodyD:=fun hb=>⟨fun h0=>absurd h0 (by decide),fun _=>by unfold loadD; rw [hb]; rfl⟩
  simp only [v_r26_Opened,l1,hcc,hccl,kB,kZ,kD,kE,xp,xj,xn,xe,xf,xh,xi,xm,xl,xk,reduceIte,reduceCtorEq,yd,yc,xv]
  refine condO_intro ?_ ?_<;>intro hlt
  · have hb : sealBad q = true:=by
      have:=of_decide_eq_true hlt
      unfold sealBad
      rw [decide_eq_true (by omega : (q.length : Int) - 4 < 4)]
      rfl
    simp only [l1,hcc,kB,kZ,kD,kE,xp,xj,xn,xe,xf,xh,xi,xm,xl,xk,reduceIte,reduceCtorEq,yd,yc,xv]
    exact ⟨v,q,9,rfl,⟨_,rfl⟩,hR9 [] _,hSb hb⟩
  have hlt':=of_decide_eq_false hlt
  have hwr : IntKind.wrap .i64 ((q.length : Int) - 4) = (q.length : Int) - 4:=wrap_small (by omega) (by omega)
  have hnlt : decide ((q.length : Int) - 4 < 4) = false:=decide_eq_false (by omega)
  simp only [l1,hwr,kB,kZ,kD,kE,xp,xj,xn,xe,xf,xh,xi,xm,xl,xk,reduceIte,reduceCtorEq,yd,yc,xv]
  refine opR_pre (vx:=v) (n:=q.length - 4) (by simp only [kB,kZ,kD,kE,xp,xj,xn,xe,xf,xh,xi,xm,xl,xk,reduceIte,reduceCtorEq,yd,yc,xv]) (by simp only [kB,kZ,kD,kE,xp,xj,xn,xe,xf,xh,xi,xm,xl,xk,reduceIte,reduceCtorEq,yd,yc,xv]; rw [if_pos (by omega)]; exact congrArg some (by omega)) (hv.mono _) (by simp) ?_
  intro w1 hw1
  refine ⟨keptA_nil _ _ _,?_⟩
  simp only [kB,kZ,kD,kE,xp,xj,xn,xe,xf,xh,xi,xm,xl,xk,reduceIte,reduceCtorEq,yd,yc,xv]
  rw [←List.map_take] at hw1
  refine callO_same (j_r26_Sum h hw1 (by simp; omega)) ?_
  obtain ⟨z,hz⟩ : ∃ z,sumP (q.take (q.length - 4)) = z:=⟨_,rfl⟩
  have hsb : sealBad q = !decide (le4 z = q.drop (q.length - 4)):=by
    unfold sealBad
    rw [hnlt,hz]
    rfl
  rw [hz]
  simp only [kB,kZ,kD,kE,xp,xj,xn,xe,xf,xh,xi,xm,xl,xk,reduceIte,reduceCtorEq,yd,yc,xv]
  refine anyLoop (mB m0) (fun e s=>s = S++[⟨[v,iA 0,iA 0],0,0⟩]∧e 0 = v∧e 1 = .sc (.string ⟨#[66,105,114,101]⟩)∧e 5 = .ptr (S.length + 0) 0∧sealBad q = false) ?_ ?_
  · refine loop_inv (fun n e s=>∃ i : Nat,i + n = 4∧s = S++[⟨[v,iA 0,iA 0],0,0⟩]∧e 0 = v∧e 1 = .sc (.string ⟨#[66,105,114,101]⟩)∧e 5 = .ptr (S.length + 0) 0∧e 6 = .sc (.int .u32 z)∧e 7 = iA i∧∀ j (hj : j < i) (h4 : j < 4),(le4 z)[j]'h4 = q[q.length - 4 + j]'(by omega)) ?_ 4 ?_
    case refine_2=>exact ⟨0,rfl,rfl,rfl,rfl,rfl,rfl,rfl,fun j hj=>absurd hj (by omega)⟩
    rintro n e s ⟨i,hin,rfl,k0,k1,k5,k6,k7,hpre⟩
    simp only [k0,k1,k5,k6,k7,kB,kZ,kD,kE,xp,xj,xn,xe,xf,xh,xi,xm,xl,xk,reduceIte,reduceCtorEq,yd,yc,xv]
    refine condO_intro ?_ ?_<;>intro hc
    · have hi4 : i < 4:=by have:=of_decide_eq_true hc; omega
      have hw1' : IntKind.wrap .i64 ((q.length : Int) - 4 + (i : Int)) = ((q.length - 4 + i : Nat) : Int):=by rw [wrap_small (by omega) (by omega)]; omega
      have hw8 : IntKind.wrap .i64 (8 * (i : Int)) = 8 * (i : Int):=wrap_small (by omega) (by omega)
      obtain ⟨b1,o1,he1,_,ha1,_⟩:=hv.get (q.length - 4 + i) (by simp; omega)
      have p1:=ha1 [⟨[v,iA 0,iA 0],0,0⟩] 0 (by omega)
      simp only [List.getElem_map,Nat.add_zero,List.getElem?_cons_zero] at p1
      have hwi : IntKind.wrap .i64 ((i : Int) + 1) = ((i + 1 : Nat) : Int):=by rw [wrap_small (by omega) (by omega)]; omega
      simp only [k0,k1,k5,k6,k7,l1,hwr,hw1',hw8,he1,p1,c_shrV,cv,kB,kZ,kD,kE,xp,xj,xn,xe,xf,xh,xi,xm,xl,xk,reduceIte,reduceCtorEq,yd,yc,xv]
      refine condO_intro ?_ ?_<;>intro hc2
      · have hne:=of_decide_eq_true hc2
        have hb : sealBad q = true:=by
          rw [hsb]
          have : decide (le4 z = q.drop (q.length - 4)) = false:=decide_eq_false fun e=>hne (by
            rw [←le4_get z i hi4]
            rw [List.getElem_of_eq e hi4,List.getElem_drop])
          rw [this]
          rfl
        simp only [k0,k5,kB,kZ,kD,kE,xp,xj,xn,xe,xf,xh,xi,xm,xl,xk,reduceIte,reduceCtorEq,yd,yc,xv]
        exact ⟨v,q,9,rfl,⟨_,rfl⟩,hR9 [] _,hSb hb⟩
      · have heq : q[q.length - 4 + i]'(by omega) = IntKind.wrap .u8 (z.fdiv (2 ^ (min (8 * i) 32))):=by
          have:=of_decide_eq_false hc2
          exact Classical.byContradiction fun hx=>this hx
        simp only [k0,k1,k5,k6,k7,hwi,kB,kZ,kD,kE,xp,xj,xn,xe,xf,xh,xi,xm,xl,xk,reduceIte,reduceCtorEq,yd,yc,xv]
        refine ⟨n - 1,by omega,i + 1,by omega,rfl,fun j hj h4=>?_⟩
        by_cases hji : j < i
        · exact hpre j hji h4
        · have : j = i:=by omega
          subst this
          rw [heq]
          exact le4_get z j h4
    · have hi2 : i = 4:=by have:=of_decide_eq_false hc; omega
      subst hi2
      simp only [k0,k1,k5,kB,kZ,kD,kE,xp,xj,xn,xe,xf,xh,xi,xm,xl,xk,reduceIte,reduceCtorEq,yd,yc,xv]
      rw [hsb]
      have : le4 z = q.drop (q.length - 4):=by
        refine List.ext_getElem (by simp [le4]; omega) fun j h1 h2=>?_
        have h4 : j < 4:=h1
        rw [List.getElem_drop]
        exact hpre j h4 h4
      rw [decide_eq_true this]
      rfl
  rintro e s ⟨rfl,k0,k1,k5,hgood⟩
  have hld : loadD q = if decide (q.take 4≠bire) then .error 4 else bodyD ((q.take (q.length - 4)).drop 4):=by unfold loadD; rw [hgood]; rfl
  simp only [k0,k1,k5,l1,hwr,kB,kZ,kD,kE,xp,xj,xn,xe,xf,xh,xi,xm,xl,xk,reduceIte,reduceCtorEq,yd,yc,xv]
  refine opR_preW (vx:=v) (n:=q.length - 4) (by simp only [kB,kZ,kD,kE,xp,xj,xn,xe,xf,xh,xi,xm,xl,xk,reduceIte,reduceCtorEq,yd,yc,xv]) (by simp only [kB,kZ,kD,kE,xp,xj,xn,xe,xf,xh,xi,xm,xl,xk,reduceIte,reduceCtorEq,yd,yc,xv]; rw [if_pos (by omega)]; exact congrArg some (by omega)) (hv.mono _) (by simp) ?_
  intro w2 hw2 hb2
  rw [←List.map_take] at hw2
  have hcw:=isCell_len hw2.len
  have hclw:=cellsOf_len hw2.len
  refine ⟨keptA_nil _ _ _,?_⟩
  simp only [k0,k1,k5,hcw,hclw,kB,kZ,kD,kE,xp,xj,xn,xe,xf,xh,xi,xm,xl,xk,reduceIte,reduceCtorEq,yd,yc,xv]
  refine opR_pre (vx:=v) (n:=4) (by simp only [kB,kZ,kD,kE,xp,xj,xn,xe,xf,xh,xi,xm,xl,xk,reduceIte,reduceCtorEq,yd,yc,xv]) (by simp only [kB,kZ,kD,kE,xp,xj,xn,xe,xf,xh,xi,xm,xl,xk,reduceIte,reduceCtorEq,yd,yc,xv]) (hv.mono _) (by simp; omega) ?_
  intro w3 hw3
  refine ⟨keptA_nil _ _ _,?_⟩
  rw [←List.map_take] at hw3
  simp only [kB,kZ,kD,kE,xp,xj,xn,xe,xf,xh,xi,xm,xl,xk,reduceIte,reduceCtorEq,yd,yc,xv]
  refine opR_b2s (by simp only [kB,kZ,kD,kE,xp,xj,xn,xe,xf,xh,xi,xm,xl,xk,reduceIte,reduceCtorEq,yd,yc,xv]) hw3 ?_
  have hnb : ((bstr (q.take 4)).toList == (bstr bire).toList) = decide (q.take 4 = bire) :=
    bstr_eq (fun b hb=>hr b (List.mem_of_mem_take hb)) (fun b hb=>by unfold bire at hb; simp only [List.mem_cons,List.not_mem_nil,or_false] at hb; omega)
  rw [bire_str] at k1
  have hR0 : ∀ (ver : Nat),RdAt true (S++[⟨[w2,iA 4,iA 0],0,ver⟩]) S.length lo hi w2 ((q.take (q.length - 4)).drop 4) 0:=fun ver =>
    ⟨⟨ver,q.take (q.length - 4),4,by simp [rcs],hw2.agree (agree_front S _ _ (by simp)) (fun b hb e=>by have:=hv1 b (by rw [←hb2]; exact hb); omega),rfl,by simp; omega,fun e=>(by cases e),by simp; omega⟩,fun b hb=>hv1 b (by rw [←hb2]; exact hb),fun b hb=>hr b (List.mem_of_mem_take (List.mem_of_mem_drop hb)),by simp; omega⟩
  simp only [k0,k1,k5,c_neqs,hnb,kB,kZ,kD,kE,xp,xj,xn,xe,xf,xh,xi,xm,xl,xk,reduceIte,reduceCtorEq,yd,yc,xv]
  cases hm : decide (q.take 4 = bire)
  · have hm':=of_decide_eq_false hm
    rw [if_pos (decide_eq_true hm')] at hld
    simp only [k0,k1,k5,kB,kZ,kD,kE,xp,xj,xn,xe,xf,xh,xi,xm,xl,xk,reduceIte,reduceCtorEq,yd,yc,xv]
    rw [Nat.add_zero]
    refine callFailX h (hR0 _) ?_
    intro S' h1 h2
    simp only [k5,kB,kZ,kD,kE,xp,xj,xn,xe,xf,xh,xi,xm,xl,xk,reduceIte,reduceCtorEq,yd,yc,xv]
    refine ⟨w2,_,4,rfl,h2.ext ⟨_,rfl⟩ (fun b hb e=>by omega),h1,⟨fun h0=>absurd h0 (by decide),fun _=>hld⟩⟩
  · have hm':=of_decide_eq_true hm
    have : decide (q.take 4≠bire) = false:=decide_eq_false (fun h=>h hm')
    rw [this] at hld
    simp only [k0,k1,k5,kB,kZ,kD,kE,xp,xj,xn,xe,xf,xh,xi,xm,xl,xk,reduceIte,reduceCtorEq,yd,yc,xv]
    exact ⟨w2,_,0,rfl,⟨_,rfl⟩,hR0 _,⟨fun _=>hld,fun h0=>absurd rfl h0⟩⟩
end
end Go.VX.Seat
end
