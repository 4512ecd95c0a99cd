/- A part of the proofs of the statements of one layer: V10, V11, V12, V13, V14, V15. No condition is added here. -/
import Derived.CallsIn
import Derived.OrdersIn
import Derived.LoopNIn
import Derived.Laws.BytesString
import Derived.Test.YtcemloapifojkaaGreatDoorXC4
set_option linter.unusedVariables false
set_option linter.unusedSimpArgs false
section
namespace Go.VX
open Go.RowKit (Below)

section
variable {P : Program} {n0 : Nat} {wi : World} {gl : List Nat} {K : KM} {st st1 : St} {w : World} {env : Env} {ρ : Operand→Value} {n : VN} {vo : VOp}

theorem prepCall_cases {ty : TypeId} {c : Call} (h : prepCall P gl ty c = some vo) :
    (∃ f xs,c.callee = .value (.func f)∧pos gl c.args.toList = some xs∧vo = .call f xs) ∨
    (∃ x x' xs,c.callee = .value x∧po gl x = some x'∧pos gl c.args.toList = some xs∧vo = .callv x' xs) ∨
    (∃ x x' t ti e,c.callee = .builtin .len∧c.argTypes[0]? = some t∧tiOf P t = some ti∧ti.desc = .slice e∧c.args.toList = [x]∧po gl x = some x'∧vo = .len x') ∨
    (∃ b xs,c.callee = .builtin b∧(b = .len∨b = .min∨b = .max)∧pos gl c.args.toList = some xs∧vo = .bi b c.argTypes.toList ty xs) ∨
    (∃ x y x' y' s t ti tj e ei,c.callee = .builtin .append∧c.argTypes[0]? = some s∧c.argTypes[1]? = some t∧tiOf P s = some ti∧tiOf P t = some tj∧ti.desc = .slice e∧isInt tj.desc = false∧tiOf P e = some ei∧ei.zok = true ∧
      c.args.toList = [x,y]∧po gl x = some x'∧po gl y = some y'∧vo = .append ei.size ei.bytes x' y') ∨
    (∃ x y x' y' s ti e ei,c.callee = .builtin .copy∧c.argTypes[0]? = some s∧tiOf P s = some ti∧ti.desc = .slice e∧tiOf P e = some ei∧c.args.toList = [x,y]∧po gl x = some x'∧po gl y = some y'∧vo = .copy ei.size x' y')∨(vo = .ext (.con (.int .i64 0)) 0):=by
  unfold prepCall at h
  split at h
  · rename_i f hc
    split at h
    · rename_i xs hx
      simp at h; subst h
      exact .inl ⟨f,xs,hc,hx,rfl⟩
    · cases h
  · rename_i x hnf hc
    split at h
    · rename_i x' xs hx hxs
      simp at h; subst h
      exact .inr (.inl ⟨x,x',xs,hc,hx,hxs,rfl⟩)
    · cases h
  · rename_i hc
    split at h
    · rename_i ti x hti ha
      obtain ⟨t,ht,hti⟩:=Option.bind_eq_some_iff.1 hti
      split at h
      · rename_i e x' hd hx
        simp at h; subst h
        exact .inr (.inr (.inl ⟨x,x',t,ti,e,hc,ht,hti,hd,ha,hx,rfl⟩))
      · rename_i x' hd hx
        simp at h; subst h
        exact .inr (.inr (.inr (.inl ⟨.len,[x'],hc,.inl rfl,by rw [ha]; simp [pos,hx],rfl⟩)))
      · cases h
    · cases h
  · rename_i hc
    split at h
    · rename_i ti tj x y hti htj ha
      obtain ⟨s,hs,hti⟩:=Option.bind_eq_some_iff.1 hti
      obtain ⟨t,ht,htj⟩:=Option.bind_eq_some_iff.1 htj
      split at h
      · rename_i e x' y' hd hx hy
        split at h
        · rename_i ei hei
          split at h
          · rename_i hh
            simp at h; subst h
            exact .inr (.inr (.inr (.inr (.inl ⟨x,y,x',y',s,t,ti,tj,e,ei,hc,hs,ht,hti,htj,hd,hh.1,hei,hh.2,ha,hx,hy,rfl⟩))))
          · cases h
        · cases h
      · cases h
    · cases h
  · rename_i hc
    split at h
    · rename_i ti x y hti ha
      obtain ⟨s,hs,hti⟩:=Option.bind_eq_some_iff.1 hti
      split at h
      · rename_i e x' y' hd hx hy
        split at h
        · rename_i ei hei
          simp at h; subst h
          exact .inr (.inr (.inr (.inr (.inr (.inl ⟨x,y,x',y',s,ti,e,ei,hc,hs,hti,hd,hei,ha,hx,hy,rfl⟩)))))
        · cases h
      · cases h
    · cases h
  · rename_i hc
    split at h
    · rename_i xs hx
      simp at h; subst h
      exact .inr (.inr (.inr (.inl ⟨.min,xs,hc,.inr (.inl rfl),hx,rfl⟩)))
    · cases h
  · rename_i hc
    split at h
    · rename_i xs hx
      simp at h; subst h
      exact .inr (.inr (.inr (.inl ⟨.max,xs,hc,.inr (.inr rfl),hx,rfl⟩)))
    · cases h
  · simp at h; subst h
    exact .inr (.inr (.inr (.inr (.inr (.inr rfl)))))
  · cases h

theorem kind_alloc {ty : TypeId} {t : TypeId} (h : prepOp P gl ty (.alloc t) = some vo) : vo.kind = 2∨∃ l,vo = .allocF l:=by
  simp only [prepOp] at h
  (repeat' (split at h))<;>first | (simp at h; done) | (simp at h; subst h; first | exact .inl rfl | exact .inr ⟨_,rfl⟩)
theorem kind_alloc' {ty : TypeId} {t : TypeId} (h : prepOp P gl ty (.alloc t) = some vo) : 2≤vo.kind:=by
  rcases kind_alloc h with h | ⟨l,rfl⟩
  · omega
  · exact Nat.le_of_ble_eq_true rfl
theorem kind_box {ty : TypeId} {t : TypeId} {x : Operand} (h : prepOp P gl ty (.box t x) = some vo) : vo.kind = 2:=by
  simp only [prepOp] at h
  (repeat' (split at h))<;>first | (simp at h; done) | (simp at h; subst h; rfl)
theorem kind_bslice {ty : TypeId} {t : TypeId} {l : Nat} {ps : Array (Nat × Operand)} (h : prepOp P gl ty (.buildSlice t l ps) = some vo) : vo.kind = 2:=by
  simp only [prepOp] at h
  (repeat' (split at h))<;>first | (simp at h; done) | (simp at h; subst h; rfl)
theorem kind_store {ty : TypeId} {t : TypeId} {a x : Operand} (h : prepOp P gl ty (.store t a x) = some vo) : vo.kind = 3:=by
  simp only [prepOp] at h
  (repeat' (split at h))<;>first | (simp at h; done) | (simp at h; subst h; rfl)
theorem kind_mksl {ty : TypeId} {t : TypeId} {a x : Operand} (h : prepOp P gl ty (.makeSlice t a x) = some vo) : vo.kind = 2:=by
  simp only [prepOp] at h
  (repeat' (split at h))<;>first | (simp at h; done) | (simp at h; subst h; rfl)
theorem kind_panic {ty : TypeId} {x : Operand} (h : prepOp P gl ty (.panic x) = some vo) : vo.kind = 3:=by
  simp only [prepOp] at h
  (repeat' (split at h))<;>first | (simp at h; done) | (simp at h; subst h; rfl)
theorem kind_move {ty : TypeId} {x : Operand} (h : prepOp P gl ty (.move x) = some vo) : vo.kind≤1:=by
  simp only [prepOp] at h
  (repeat' (split at h))<;>first | (simp at h; done) | (simp at h; subst h; simp [VOp.kind])
theorem kind_assign {ty : TypeId} {x : Operand} (h : prepOp P gl ty (.assign x) = some vo) : vo.kind≤1:=by
  simp only [prepOp] at h
  (repeat' (split at h))<;>first | (simp at h; done) | (simp at h; subst h; simp [VOp.kind])
theorem kind_pick {ty : TypeId} {c a b : Operand} (h : prepOp P gl ty (.pick c a b) = some vo) : vo.kind≤1:=by
  simp only [prepOp] at h
  (repeat' (split at h))<;>first | (simp at h; done) | (simp at h; subst h; simp [VOp.kind])
theorem kind_build {ty : TypeId} {t : TypeId} {ps : Array (Nat × Operand)} (h : prepOp P gl ty (.build t ps) = some vo) : vo.kind≤1:=by
  simp only [prepOp] at h
  (repeat' (split at h))<;>first | (simp at h; done) | (simp at h; subst h; simp [VOp.kind])
theorem kind_load {ty : TypeId} {t : TypeId} {a : Operand} (h : prepOp P gl ty (.load t a) = some vo) : vo.kind≤1:=by
  simp only [prepOp] at h
  (repeat' (split at h))<;>first | (simp at h; done) | (simp at h; subst h; simp [VOp.kind])
theorem kind_nilck {ty : TypeId} {x : Operand} (h : prepOp P gl ty (.nilCheck x) = some vo) : vo.kind≤1:=by
  simp only [prepOp] at h
  (repeat' (split at h))<;>first | (simp at h; done) | (simp at h; subst h; simp [VOp.kind])
theorem kind_bin {ty : TypeId} {op : BinOp} {t yt : TypeId} {x y : Operand} (h : prepOp P gl ty (.binOp op t x y yt) = some vo) : vo.kind≤1:=by
  simp only [prepOp] at h
  (repeat' (split at h))<;>first | (simp at h; done) | (simp at h; subst h; simp [VOp.kind])
theorem kind_un {ty : TypeId} {op : UnOp} {t : TypeId} {x : Operand} (h : prepOp P gl ty (.unOp op t x) = some vo) : vo.kind≤1:=by
  simp only [prepOp] at h
  (repeat' (split at h))<;>first | (simp at h; done) | (simp at h; subst h; simp [VOp.kind])
theorem kind_conv {ty : TypeId} {s d : TypeId} {x : Operand} (h : prepOp P gl ty (.convert s d x) = some vo) : vo.kind≤0∨∃ x',po gl x = some x'∧((convKind P s d = 1∧vo = .s2b x')∨(convKind P s d = 2∧vo = .b2s x')∨(convKind P s d = 3∧vo = .frz x')):=by
  simp only [prepOp] at h
  split at h
  · rename_i x' hx
    simp only [Option.some.injEq] at h
    split at h
    · exact .inr ⟨x',hx,.inl ⟨by assumption,h.symm⟩⟩
    · split at h
      · exact .inr ⟨x',hx,.inr (.inl ⟨by assumption,h.symm⟩)⟩
      · split at h
        · exact .inr ⟨x',hx,.inr (.inr ⟨by assumption,h.symm⟩)⟩
        · subst h; exact .inl (Nat.le_of_ble_eq_true rfl)
  · cases h
theorem kind_conv' {ty : TypeId} {s d : TypeId} {x : Operand} (h : prepOp P gl ty (.convert s d x) = some vo) : vo.kind≠2:=by
  rcases kind_conv h with h | ⟨x',_,⟨_,rfl⟩ | ⟨_,rfl⟩ | ⟨_,rfl⟩⟩
  · omega
  · exact fun e=>by cases e
  · exact fun e=>by cases e
  · exact fun e=>by cases e
theorem kind_mkif {ty : TypeId} {t : TypeId} {x : Operand} (h : prepOp P gl ty (.makeInterface t x) = some vo) : vo.kind≤1:=by
  simp only [prepOp] at h
  (repeat' (split at h))<;>first | (simp at h; done) | (simp at h; subst h; simp [VOp.kind])
theorem kind_slice {ty : TypeId} {t : TypeId} {x : Operand} {lo hi mx : Option Operand} (h : prepOp P gl ty (.slice t x lo hi mx) = some vo) : vo.kind≤1:=by
  simp only [prepOp] at h
  (repeat' (split at h))<;>first | (simp at h; done) | (simp at h; subst h; simp [VOp.kind])
theorem kind_fieldA {ty : TypeId} {t : TypeId} {x : Operand} {f : Nat} (h : prepOp P gl ty (.fieldAddr t x f) = some vo) : vo.kind≤1:=by
  simp only [prepOp] at h
  (repeat' (split at h))<;>first | (simp at h; done) | (simp at h; subst h; simp [VOp.kind])
theorem kind_field {ty : TypeId} {t : TypeId} {x : Operand} {f : Nat} (h : prepOp P gl ty (.field t x f) = some vo) : vo.kind≤1:=by
  simp only [prepOp] at h
  (repeat' (split at h))<;>first | (simp at h; done) | (simp at h; subst h; simp [VOp.kind])
theorem kind_idxA {ty : TypeId} {t : TypeId} {x y : Operand} (h : prepOp P gl ty (.indexAddr t x y) = some vo) : vo.kind≤1:=by
  simp only [prepOp] at h
  (repeat' (split at h))<;>first | (simp at h; done) | (simp at h; subst h; simp [VOp.kind])
theorem kind_idx {ty : TypeId} {t : TypeId} {x y : Operand} (h : prepOp P gl ty (.index t x y) = some vo) : vo.kind≤1:=by
  simp only [prepOp] at h
  (repeat' (split at h))<;>first | (simp at h; done) | (simp at h; subst h; simp [VOp.kind])
theorem kind_ext {ty : TypeId} {x : Operand} {i : Nat} (h : prepOp P gl ty (.extract x i) = some vo) : vo.kind≤1:=by
  simp only [prepOp] at h
  (repeat' (split at h))<;>first | (simp at h; done) | (simp at h; subst h; simp [VOp.kind])
theorem kind_assert {ty : TypeId} {x : Operand} {xt t : TypeId} {ok : Bool} (h : prepOp P gl ty (.typeAssert x xt t ok) = some vo) : vo.kind≤1:=by
  simp only [prepOp] at h
  (repeat' (split at h))<;>first | (simp at h; done) | (simp at h; subst h; simp [VOp.kind])
theorem kind_mkfn {ty : TypeId} {f : Fn} {a b : Array Operand} (h : prepOp P gl ty (.makeFunc f a b) = some vo) : vo.kind≤1:=by
  cases f<;>simp only [prepOp] at h
  all_goals first | (cases h; done) | skip
  (repeat' (split at h))<;>first | (simp at h; done) | (simp at h; subst h; simp [VOp.kind])

theorem convKind2 {s d : TypeId} (h : convKind P s d = 2) : ∃ a b e ei,tiOf P s = some a∧tiOf P d = some b∧a.desc = .slice e∧b.desc = .string∧tiOf P e = some ei∧ei.desc = .int .u8:=by
  unfold convKind at h
  (repeat' split at h)<;>first | (cases h; done) | exact ⟨_,_,_,_,by assumption,by assumption,by assumption,by assumption,by assumption,by assumption⟩
theorem bytes_rel : ∀ {cs : List AV} {vs : List Value} {l : List UInt8},VRels K cs vs→bytesOfCells cs = some l→∃ ns : List Int,vs = ns.map (Value.int .u8)∧l = ns.map fun n=>UInt8.ofNat n.toNat
  | _,_,l,.nil,h=>by simp [bytesOfCells] at h; subst h; exact ⟨[],rfl,rfl⟩
  | _,_,l,.cons (a:=a) h1 h2,h=>by
    unfold bytesOfCells at h
    split at h
    · cases ‹_ :: _ = []›
    · rename_i n r e
      cases e
      split at h
      · rename_i l' hl'
        cases h
        obtain ⟨ns,e1,e2⟩:=bytes_rel h2 hl'
        have:=VRel.sc_eq h1
        exact ⟨n :: ns,by rw [this,e1]; rfl,by rw [e2]; rfl⟩
      · cases h
    · cases h
theorem foldl_push : ∀ (ns : List Int) (s : ByteArray),(ns.foldl (fun r n=>r.push (UInt8.ofNat n.toNat)) s) = ⟨s.data++(ns.map fun n=>UInt8.ofNat n.toNat).toArray⟩
  | [],s=>by simp
  | n :: ns,s=>by
    rw [List.foldl_cons,foldl_push ns]
    simp [ByteArray.push]
theorem read_b2s (hW : WRel n0 wi gl K st w) {s d : TypeId} {x : Operand} {x' : VOpd} {dst ty pos_ af g} (hx : po gl x = some x') (hc : convKind P s d = 2) (hρ : OpdOk gl K env ρ [x]) (hv : vop P (.b2s x') env st = some (n,st1)) :
    ReadOk P K ρ ⟨dst,.convert s d x,ty,pos_,af,g⟩ w st st1 n:=by
  obtain ⟨a,b,e,ei,h1,h2,h3,h4,h5,h6⟩:=convKind2 hc
  have hrx:=hρ x (by simp) x' hx
  have hexec : ∀ {v : Value},(Conv.bytesToString (ρ x)).run P w = .ok v w→(∃ a l c,ρ x = .slice a l c)→(execOp ρ ⟨dst,.convert s d x,ty,pos_,af,g⟩).run P w = .ok (.value v) w:=by
    intro v hr hsl
    obtain ⟨a',l',c',hsl⟩:=hsl
    simp only [execOp]
    refine run_val ?_
    rw [hsl] at hr ⊢
    unfold convert
    rw [run_bind _ _ _ (run_und h1),run_bind _ _ _ (run_und h2),h3,h4]
    simp only
    rw [run_bind _ _ _ (run_und h5),h6]
    exact hr
  simp only [vop] at hv
  split at hv
  · rename_i b' o len esz full he
    split at hv
    · split at hv
      · rename_i cs hcs
        split at hv
        · rename_i l hl
          simp only [Option.some.injEq,Prod.mk.injEq] at hv
          obtain ⟨rfl,rfl⟩:=hv
          rw [he] at hrx
          obtain ⟨kb,ad,cap,hkb,hok,e1⟩:=sl_inv hrx
          obtain ⟨hlen,vs,hrel,hcell⟩:=hW.cells hkb hcs
          obtain ⟨ns,e2,e3⟩:=bytes_rel hrel hl
          have hload : (loadCells ad len).run P w = .ok (ns.map (Value.int .u8)).toArray w:=by
            rw [←e2]
            rcases hok.2.2 with ⟨ha,_⟩ | ⟨hz,_⟩
            · rw [ha]
              exact run_loadCells hcell (by rw [←hrel.length,hlen])
            · have : vs = []:=List.length_eq_zero_iff.1 (by rw [←hrel.length,hlen,hz])
              subst this
              rw [hz]
              simp [loadCells,loadCellsFrom,run_pure]
          refine ⟨rfl,_,_,rfl,hexec (by rw [e1]; exact run_bytesToString w ad len cap ns hload) ⟨_,_,_,e1⟩,?_⟩
          rw [foldl_push,e3]
          have : (ByteArray.empty.data++(ns.map fun n=>UInt8.ofNat n.toNat).toArray) = (ns.map fun n=>UInt8.ofNat n.toNat).toArray:=Array.empty_append
          rw [this]
          exact .sc rfl
        · cases hv
      · cases hv
    · cases hv
  · rename_i he
    simp only [Option.some.injEq,Prod.mk.injEq] at hv
    obtain ⟨rfl,rfl⟩:=hv
    rw [he] at hrx
    have hrx:=VRel.sc_eq hrx
    exact ⟨rfl,_,_,rfl,hexec (by rw [hrx]; rfl) ⟨_,_,_,hrx⟩,.sc rfl⟩
  · cases hv
theorem op_read (hW : WRel n0 wi gl K st w) {o : Oper} (h : prepOp P gl o.type o.op = some vo) (hk : vo.kind≤1) (hρ : OpdOk gl K env ρ o.op.operands.toList) (hv : vop P vo env st = some (n,st1)) : ReadOk P K ρ o w st st1 n:=by
  obtain ⟨dst,op,ty,ps,af,g⟩:=o
  cases op with
  | move x=>exact read_move h hρ hv
  | assign x=>exact read_assign h hρ hv
  | pick c a b=>exact read_pick h hρ hv
  | build t parts=>exact read_build h (by simpa [Op.operands] using hρ) hv
  | load t a=>exact read_load hW h hρ hv
  | nilCheck x=>exact read_nilck h hρ hv
  | binOp op t x y yt=>exact read_bin h hρ hv
  | unOp op t x=>exact read_un h hρ hv
  | convert s d x =>
    rcases kind_conv h with h2 | ⟨x',hx,⟨hc,rfl⟩ | ⟨hc,rfl⟩ | ⟨hc,rfl⟩⟩
    · exact read_conv h2 h hρ hv
    · simp [VOp.kind] at hk
    · exact read_b2s hW hx hc hρ hv
    · simp [VOp.kind] at hk
  | makeInterface t x=>exact read_mkif h hρ hv
  | makeFunc f a b=>exact read_mkfn h hρ hv
  | slice t x lo hi mx=>exact read_slice hW h (by simpa [Op.operands] using hρ) hv
  | fieldAddr s x f=>exact read_fieldA h hρ hv
  | field s x f=>exact read_field h hρ hv
  | indexAddr t x i=>exact read_idxA h hρ hv
  | index t x i=>exact read_idx h hρ hv
  | extract x i=>exact read_ext h hρ hv
  | typeAssert x xt t ok=>exact read_assert h hρ hv
  | call c =>
    simp only [prepOp] at h
    rcases prepCall_cases h with ⟨f,xs,hc,hx,rfl⟩ | ⟨x,x',xs,hc,hx,hxs,rfl⟩ | ⟨x,x',t,ti,e,hc,ht,hti,hd,ha,hx,rfl⟩ | ⟨b,xs,hc,hbb,hx,rfl⟩ | ⟨x,y,x',y',s,t,ti,tj,e,ei,hc,hs,ht,hti,htj,hd,hi,hei,hz,ha,hx,hy,rfl⟩ | ⟨x,y,x',y',s,ti,e,ei,hc,hs,hti,hd,hei,ha,hx,hy,rfl⟩ | rfl
    · simp [VOp.kind] at hk
    · simp [VOp.kind] at hk
    · exact read_len hc ht hti hd ha hx hρ hv
    · exact read_bi hc hbb hx hρ hv
    · simp [VOp.kind] at hk
    · simp [VOp.kind] at hk
    · simp [vop,VOpd.ev] at hv
  | alloc t=>exact absurd (kind_alloc' h) (by omega)
  | box t x=>exact absurd (kind_box h) (by omega)
  | buildSlice t l ps=>exact absurd (kind_bslice h) (by omega)
  | store t a x=>exact absurd (kind_store h) (by omega)
  | makeSlice t a x=>exact absurd (kind_mksl h) (by omega)
  | panic x=>exact absurd (kind_panic h) (by omega)
  | _=>simp [prepOp] at h

theorem alloc_shape {st0 st0' : St} (hk : vo.kind = 2) (hv : vop P vo env st0 = some (n,st0')) : ∃ x v,n = .val v∧st0' = st0++[x]∧x.mode = 0:=by
  cases vo<;>simp [VOp.kind] at hk
  case alloc z=>simp [vop] at hv; exact ⟨_,_,hv.1.symm,hv.2.symm,rfl⟩
  case box x=>simp [vop] at hv; exact ⟨_,_,hv.1.symm,hv.2.symm,rfl⟩
  case bslice=>simp [vop] at hv; obtain ⟨cs,_,h1,h2⟩:=hv; exact ⟨_,_,h1.symm,h2.symm,rfl⟩
  case mksl =>
    simp only [vop] at hv
    split at hv
    · split at hv
      · simp at hv; exact ⟨_,_,hv.1.symm,hv.2.symm,rfl⟩
      · cases hv
    · cases hv

theorem op_alloc {o : Oper} (h : prepOp P gl o.type o.op = some vo) (hk : vo.kind = 2) {st0 st0' : St} (hv : vop P vo env st0 = some (n,st0')) :
    ∃ x v,n = .val v∧st0' = st0++[x]∧x.mode = 0∧∀ (n0 : Nat) (wi : World) (K : KM) (st : St) (w : World) (ρ : Operand→Value),WRel n0 wi gl K st w→n0≤w.heap.size→OpdOk gl K env ρ o.op.operands.toList→st[st0.length]? = some x→K st0.length = none →
      AllocOk P n0 wi gl K ρ o w st st0.length v:=by
  obtain ⟨x,v,rfl,rfl,hm⟩:=alloc_shape hk hv
  refine ⟨x,v,rfl,rfl,hm,fun n0 wi K st w ρ hW hn hρ hx hK=>?_⟩
  obtain ⟨dst,op,ty,ps,af,g⟩:=o
  cases op with
  | alloc t =>
    obtain ⟨x',e,_,hok⟩:=alloc_alloc (dst:=dst) (pos_:=ps) (af:=af) (g:=g) (ρ:=ρ) hW hn h hk hv
    simp at e; subst e
    exact hok _ hx hK rfl
  | box t y =>
    obtain ⟨x',e,_,hok⟩:=alloc_box (dst:=dst) (pos_:=ps) (af:=af) (g:=g) (ρ:=ρ) hW hn h hρ hv
    simp at e; subst e
    exact hok _ hx hK rfl
  | buildSlice t l ps' =>
    obtain ⟨x',e,_,hok⟩:=alloc_bslice (dst:=dst) (pos_:=ps) (af:=af) (g:=g) (ρ:=ρ) hW hn h (by simpa [Op.operands] using hρ) hv
    simp at e; subst e
    exact hok _ hx hK rfl
  | makeSlice t l c =>
    obtain ⟨x',e,_,hok⟩:=alloc_mksl (dst:=dst) (pos_:=ps) (af:=af) (g:=g) (ρ:=ρ) hW hn h hρ hv
    simp at e; subst e
    exact hok _ hx hK rfl
  | call c =>
    simp only [prepOp] at h
    rcases prepCall_cases h with ⟨f,xs,hc,hx,rfl⟩ | ⟨x,x',xs,hc,hx,hxs,rfl⟩ | ⟨x,x',t,ti,e,hc,ht,hti,hd,ha,hx,rfl⟩ | ⟨b,xs,hc,hbb,hx,rfl⟩ | ⟨x,y,x',y',s,t,ti,tj,e,ei,hc,hs,ht,hti,htj,hd,hi,hei,hz,ha,hx,hy,rfl⟩ | ⟨x,y,x',y',s,ti,e,ei,hc,hs,hti,hd,hei,ha,hx,hy,rfl⟩ | rfl<;>simp [VOp.kind] at hk
  | move x=>exact absurd (kind_move h) (by omega)
  | assign x=>exact absurd (kind_assign h) (by omega)
  | pick c a b=>exact absurd (kind_pick h) (by omega)
  | build t parts=>exact absurd (kind_build h) (by omega)
  | load t a=>exact absurd (kind_load h) (by omega)
  | nilCheck x=>exact absurd (kind_nilck h) (by omega)
  | binOp op t x y yt=>exact absurd (kind_bin h) (by omega)
  | unOp op t x=>exact absurd (kind_un h) (by omega)
  | convert s d x=>exact absurd hk (kind_conv' h)
  | makeInterface t x=>exact absurd (kind_mkif h) (by omega)
  | makeFunc f a b=>exact absurd (kind_mkfn h) (by omega)
  | slice t x lo hi mx=>exact absurd (kind_slice h) (by omega)
  | fieldAddr s x f=>exact absurd (kind_fieldA h) (by omega)
  | field s x f=>exact absurd (kind_field h) (by omega)
  | indexAddr t x i=>exact absurd (kind_idxA h) (by omega)
  | index t x i=>exact absurd (kind_idx h) (by omega)
  | extract x i=>exact absurd (kind_ext h) (by omega)
  | typeAssert x xt t ok=>exact absurd (kind_assert h) (by omega)
  | store t a x=>exact absurd (kind_store h) (by omega)
  | panic x=>exact absurd (kind_panic h) (by omega)
  | _=>simp [prepOp] at h

def VN.now : VN→Bool
  | .val _=>true
  | .skip=>true
  | _=>false
theorem bldOf_parts {t e : Nat} (h : bldOf P t = some e) : t≠e∧∃ ti cs,tiOf P t = some ti∧ti.zero = .agg cs∧cs.toList = [.pointer none,.slice none 0 0]:=by
  unfold bldOf at h
  split at h
  · split at h
    · split at h
      · split at h
        · rename_i ti hti
          split at h
          · rename_i fs cs hd hz
            split at h
            · rename_i f hc hf
              split at h
              · split at h
                · split at h
                  · cases h
                  · rename_i hne
                    cases h
                    exact ⟨hne,ti,cs,hti,hz,hc⟩
                · cases h
              · cases h
            · cases h
          · cases h
        · cases h
      · cases h
    · cases h
  · cases h
theorem heavy_allocF (hW : WRel n0 wi gl K st w) (hn : n0≤w.heap.size) {t : TypeId} {dst ty pos_ af g} {told : List Value} (h : prepOp P gl ty (.alloc t) = some (.allocF told)) (hv : vop P (.allocF told) env st = some (n,st1)) :
    HeavyOk P n0 wi gl K ρ ⟨dst,.alloc t,ty,pos_,af,g⟩ w st st1 n:=by
  simp only [prepOp] at h
  split at h
  · rename_i e he
    simp at h; subst h
    obtain ⟨hne,ti,cs,hti,hz,hcs⟩:=bldOf_parts he
    simp only [vop,Option.some.injEq,Prod.mk.injEq] at hv
    obtain ⟨rfl,rfl⟩:=hv
    have hcs2 : cs = #[.pointer none,.slice none 0 0]:=by rw [←hcs]
    have hcell : ti.zero.cells = #[.pointer none,.slice none 0 0]:=by rw [hz,hcs2]; rfl
    have hphi : Phi ([.int .i64 1,.int .i64 t,.int .i64 e,.string ⟨#[]⟩].map AV.sc) w.heap.size [w.heap.size] (World.push w (.cells #[.pointer none,.slice none 0 0] t)) :=
      ⟨t,e,[],.pointer none,.slice none 0 0,rfl,hne,.inl rfl,heap_push_new _ _,World.ownsRowF_nil _ _ _ _,rfl,by simp [Value.ownBlock],by simp⟩
    have hnew:=WRel.newF (hW.more ⟨[.int .i64 1,.int .i64 t,.int .i64 e,.string ⟨#[]⟩].map AV.sc,3,0⟩) hn hW.none List.getElem?_concat_length rfl (rsz:=2) hphi
    refine ⟨_,.value (.pointer (some ⟨w.heap.size,0,none⟩)),_,?_,⟨_,rfl,?_⟩,hnew,⟨KM.le_set hW.none,by simp,fun b hb=>?_,fun b hb _=>?_⟩⟩
    · simp only [execOp]
      refine run_val ?_
      unfold Instr.alloc
      rw [run_bind _ _ _ (run_zero hti)]
      simp only
      unfold newVar
      rw [hcell,run_bind _ _ _ (run_newRow _ _)]
      rfl
    · have:=VRel.ptr (K:=K.set st.length ⟨w.heap.size,0,2⟩) (b:=st.length) (o:=0) (kb:=⟨w.heap.size,0,2⟩) (by simp [KM.set])
      exact this
    · unfold KM.set; rw [if_neg (by omega)]
    · rw [List.getElem?_append_left hb]
  · (repeat' split at h)<;>simp at h
theorem convKind1 {s d : TypeId} (h : convKind P s d = 1) : ∃ a b e ei,tiOf P s = some a∧tiOf P d = some b∧a.desc = .string∧b.desc = .slice e∧tiOf P e = some ei∧ei.desc = .int .u8:=by
  unfold convKind at h
  (repeat' split at h)<;>first | (cases h; done) | exact ⟨_,_,_,_,by assumption,by assumption,by assumption,by assumption,by assumption,by assumption⟩
theorem push_freeze (w : World) (c : Array Value) (e : TypeId) : (World.push w (.cells c e)).freeze ⟨w.heap.size,c.size,none⟩ 1 = World.push w (.cells c e (c.size,c.size + 1)):=by
  unfold World.freeze World.push
  simp only [Nat.one_ne_zero,if_false]
  congr 1
  apply Array.ext_getElem?
  intro i
  simp only [Array.getElem?_modify,Array.getElem?_push]
  by_cases hi : w.heap.size = i
  · subst hi
    simp
  · rw [if_neg hi]
    by_cases hi2 : i = w.heap.size
    · exact absurd hi2.symm hi
    · simp [hi2]
theorem heavy_s2b (hW : WRel n0 wi gl K st w) (hn : n0≤w.heap.size) {s d : TypeId} {x : Operand} {x' : VOpd} {dst ty pos_ af g} (hx : po gl x = some x') (hc : convKind P s d = 1) (hρ : OpdOk gl K env ρ [x]) (hv : vop P (.s2b x') env st = some (n,st1)) :
    HeavyOk P n0 wi gl K ρ ⟨dst,.convert s d x,ty,pos_,af,g⟩ w st st1 n:=by
  obtain ⟨a,b,e,ei,h1,h2,h3,h4,h5,h6⟩:=convKind1 hc
  have hrx:=hρ x (by simp) x' hx
  simp only [vop] at hv
  split at hv
  · rename_i t he
    simp only [Option.some.injEq,Prod.mk.injEq] at hv
    obtain ⟨rfl,rfl⟩:=hv
    rw [he] at hrx
    have hrx:=VRel.sc_eq hrx
    obtain ⟨cap,hcap,hrun⟩ : ∃ cap,t.size≤cap∧(Conv.stringToBytes e t).run P w = .ok (.slice (some ⟨w.heap.size,0,none⟩) t.size cap) (World.push { w with drawn:=w.drawn + 1 } (.cells (t.data.map (fun b=>Value.int .u8 b.toNat)++Array.replicate (cap - t.size) (.int .u8 0)) e (cap,cap + 1))):=by
      refine ⟨t.size + w.tape w.drawn (.appendCap t.size 0 e) % (2 ^ 63 - t.size),by omega,?_⟩
      unfold Conv.stringToBytes
      rw [run_bind _ _ w (a:=t.size + w.tape w.drawn (.appendCap t.size 0 e) % (2 ^ 63 - t.size)) (w':={ w with drawn:=w.drawn + 1 }) (by
        unfold choose
        simp [Sem.run,Question.forced,Question.cut])]
      generalize hcp : t.size + w.tape w.drawn (.appendCap t.size 0 e) % (2 ^ 63 - t.size) = cap
      simp only
      rw [run_bind _ _ _ (run_newRow _ _)]
      have hsz : (t.data.map (fun b=>Value.int .u8 b.toNat)++Array.replicate (cap - t.size) (Value.int .u8 0)).size = cap:=by
        have : t.data.size = t.size:=rfl
        simp only [Array.size_append,Array.size_map,Array.size_replicate]
        omega
      have hpf:=push_freeze { w with drawn:=w.drawn + 1 } (t.data.map (fun b=>Value.int .u8 b.toNat)++Array.replicate (cap - t.size) (Value.int .u8 0)) e
      rw [hsz] at hpf
      have hmark : (markStringish ⟨w.heap.size,0,none⟩).run P (World.push { w with drawn:=w.drawn + 1 } (.cells (t.data.map (fun b=>Value.int .u8 b.toNat)++Array.replicate (cap - t.size) (.int .u8 0)) e)) = .ok () (World.push { w with drawn:=w.drawn + 1 } (.cells (t.data.map (fun b=>Value.int .u8 b.toNat)++Array.replicate (cap - t.size) (.int .u8 0)) e (cap,cap + 1))):=by
        rw [←hpf]
        unfold markStringish shape
        have hsh : (World.push { w with drawn:=w.drawn + 1 } (.cells (t.data.map (fun b=>Value.int .u8 b.toNat)++Array.replicate (cap - t.size) (.int .u8 0)) e)).shape? w.heap.size = some (e,cap):=by
          unfold World.shape? World.push
          simp only [Array.getElem?_push,if_true]
          rw [hsz]
        have hcell : (World.push { w with drawn:=w.drawn + 1 } (.cells (t.data.map (fun b=>Value.int .u8 b.toNat)++Array.replicate (cap - t.size) (.int .u8 0)) e)).heap[w.heap.size]? = some (.cells (t.data.map (fun b=>Value.int .u8 b.toNat)++Array.replicate (cap - t.size) (.int .u8 0)) e):=heap_push_new _ _
        simp only [Sem.run_bind,Sem.run,hsh,Result.andThen,freeze]
      rw [run_bind _ _ _ hmark]
      rfl
    have hnew:=(hW.drawn (w.drawn + 1)).more ⟨t.data.toList.map fun b=>.sc (.int .u8 b.toNat),1,0⟩ |>.newR (el:=e) (fz:=(cap,cap + 1)) (rsz:=cap) (c:=t.data.map (fun b=>Value.int .u8 b.toNat)++Array.replicate (cap - t.size) (Value.int .u8 0)) hn hW.none List.getElem?_concat_length rfl (by
        have : t.data.size = t.size:=rfl
        simp only [Array.size_append,Array.size_map,Array.size_replicate]
        omega) (fun o a ho=>by
        rw [List.getElem?_map] at ho
        obtain ⟨u,hu,rfl⟩:=Option.map_eq_some_iff.1 ho
        have hlt:=(List.getElem?_eq_some_iff.1 hu).1
        refine ⟨.int .u8 u.toNat,?_,.sc rfl⟩
        rw [Array.getElem?_append_left (by simpa using hlt),Array.getElem?_map]
        rw [Array.getElem?_toList] at hu
        rw [hu]; rfl)
    refine ⟨_,_,_,?_,⟨.slice (some ⟨w.heap.size,0,none⟩) t.size cap,rfl,?_⟩,hnew,⟨KM.le_set hW.none,by simp,fun b hb=>?_,fun b hb _=>?_⟩⟩
    · simp only [execOp]
      refine run_val ?_
      rw [hrx]
      unfold convert
      rw [run_bind _ _ _ (run_und h1),run_bind _ _ _ (run_und h2),h3,h4]
      simp only
      rw [run_bind _ _ _ (run_und h5),h6]
      exact hrun
    · refine .sl (kb:=⟨w.heap.size,0,cap⟩) (by simp [KM.set]) ⟨hcap,fun h=>(by cases h),.inl ⟨rfl,by simp⟩⟩
    · unfold KM.set; rw [if_neg (by omega)]
    · rw [List.getElem?_append_left hb]
  · cases hv
theorem WRel.frz (h : WRel n0 wi gl K st w) {b : Nat} {x : Box} {kb : KB} {w' : World} (hx : st[b]? = some x) (hm : x.mode = 0) (hk : K b = some kb) (hos : w'.os = w.os) (htp : w'.tape = w.tape) (hou : w'.output = w.output)
    (hs : w'.heap.size = w.heap.size) (hw : ∀ k,k≠kb.rb→w'.heap[k]? = w.heap[k]?) (hc : ∀ k o,w'.cell? ⟨k,o,Option.none⟩ = w.cell? ⟨k,o,Option.none⟩) : WRel n0 wi gl (K.set st.length kb) (st.kill b++[⟨x.cells,1,0⟩]) w':=by
  have hbl : b < st.length:=(List.getElem?_eq_some_iff.1 hx).1
  have hkl : (st.kill b).length = st.length:=by unfold St.kill; rw [hx]; simp
  have hle : KM.le K (K.set st.length kb):=KM.le_set h.none
  have hget : ∀ {i y},(st.kill b++[⟨x.cells,1,0⟩] : St)[i]? = some y→(i = st.length∧y = ⟨x.cells,1,0⟩)∨(i = b∧y.mode = 2)∨(i≠b∧i≠st.length∧st[i]? = some y):=fun {i y} hy=>by
    by_cases hi : i < st.length
    · rw [List.getElem?_append_left (by omega)] at hy
      unfold St.kill at hy
      rw [hx] at hy
      simp only at hy
      rw [List.getElem?_set] at hy
      split at hy
      · rename_i e; subst e
        simp [hbl] at hy; exact .inr (.inl ⟨rfl,by rw [←hy]⟩)
      · rename_i e; exact .inr (.inr ⟨fun e'=>e e'.symm,by omega,hy⟩)
    · have hl:=(List.getElem?_eq_some_iff.1 hy).1
      simp [hkl] at hl
      have e : i = st.length:=by omega
      subst e
      rw [List.getElem?_append_right (by omega),hkl] at hy
      simp at hy
      exact .inl ⟨rfl,hy.symm⟩
  have hK : ∀ {i k},(K.set st.length kb) i = some k→(i = st.length∧k = kb)∨(i≠st.length∧K i = some k):=fun {i k} hk=>by
    unfold KM.set at hk
    split at hk
    · cases hk; exact .inl ⟨by assumption,rfl⟩
    · exact .inr ⟨by assumption,hk⟩
  obtain ⟨hlv,c,el,hcell,hcs⟩:=h.live b x kb hx hm hk
  exact {
    below:=h.below.trans ⟨hos,htp,hou,by omega,fun k hk'=>hw k (by omega)⟩
    dom:=fun i k hki=>by
      rcases hK hki with ⟨rfl,_⟩ | ⟨_,hki⟩
      · simp [hkl]
      · have:=h.dom i k hki; simp [hkl]; omega
    lt:=fun i y k hy hmy hki=>by
      rw [hs]
      rcases hget hy with ⟨rfl,rfl⟩ | ⟨rfl,h2⟩ | ⟨h1,h2,hz⟩
      · rcases hK hki with ⟨_,rfl⟩ | ⟨h3,_⟩
        · exact h.lt b x _ hx (by rw [hm]; decide) hk
        · exact absurd rfl h3
      · exact absurd h2 hmy
      · rcases hK hki with ⟨h3,_⟩ | ⟨_,hki⟩
        · exact absurd h3 h2
        · exact h.lt i y k hz hmy hki
    cell:=fun i y k hy hmy hki o a ho=>by
      rw [hc]
      rcases hget hy with ⟨rfl,rfl⟩ | ⟨rfl,h2⟩ | ⟨h1,h2,hz⟩
      · rcases hK hki with ⟨_,rfl⟩ | ⟨h3,_⟩
        · obtain ⟨v,hv,hr⟩:=h.cell b x _ hx (by rw [hm]; decide) hk o a ho
          exact ⟨v,hv,hr.mono hle⟩
        · exact absurd rfl h3
      · exact absurd (by rw [h2]; exact Nat.le_refl _) hmy
      · rcases hK hki with ⟨h3,_⟩ | ⟨_,hki⟩
        · exact absurd h3 h2
        · obtain ⟨v,hv,hr⟩:=h.cell i y k hz hmy hki o a ho
          exact ⟨v,hv,hr.mono hle⟩
    live:=fun i y k hy hmy hki=>by
      rcases hget hy with ⟨rfl,rfl⟩ | ⟨rfl,h2⟩ | ⟨h1,h2,hz⟩
      · cases hmy
      · rw [hmy] at h2; cases h2
      · rcases hK hki with ⟨h3,_⟩ | ⟨_,hki⟩
        · exact absurd h3 h2
        · have hne:=h.excl i y k b x kb hz hmy hki hx (by rw [hm]; decide) hk h1
          rw [hw _ hne]
          exact h.live i y k hz hmy hki
    excl:=fun i y k i' y' k' hy hmy hki hy' hmy' hki' hne=>by
      rcases hget hy with ⟨rfl,rfl⟩ | ⟨rfl,h2⟩ | ⟨h1,h2,hz⟩
      · cases hmy
      · rw [hmy] at h2; cases h2
      · rcases hK hki with ⟨h3,_⟩ | ⟨_,hkj⟩
        · exact absurd h3 h2
        · rcases hget hy' with ⟨rfl,rfl⟩ | ⟨rfl,h2'⟩ | ⟨h1',h2',hz'⟩
          · rcases hK hki' with ⟨_,e⟩ | ⟨h3,_⟩
            · rw [e]
              exact h.excl i y k b x kb hz hmy hkj hx (by rw [hm]; decide) hk h1
            · exact absurd rfl h3
          · exact absurd h2' hmy'
          · rcases hK hki' with ⟨h3,_⟩ | ⟨_,hkj'⟩
            · exact absurd h3 h2'
            · exact h.excl i y k i' y' k' hz hmy hkj hz' hmy' hkj' hne
    fit:=fun i y k hy hmy hki=>by
      rcases hget hy with ⟨rfl,rfl⟩ | ⟨rfl,h2⟩ | ⟨h1,h2,hz⟩
      · rcases hK hki with ⟨_,rfl⟩ | ⟨h3,_⟩
        · exact h.fit b x _ hx (by rw [hm]; decide) hk
        · exact absurd rfl h3
      · exact absurd (by rw [h2]; exact Nat.le_refl _) hmy
      · rcases hK hki with ⟨h3,_⟩ | ⟨_,hki⟩
        · exact absurd h3 h2
        · exact h.fit i y k hz hmy hki
    glob:=fun j g hg=>by
      obtain ⟨kb',h1,h2⟩:=h.glob j g hg
      exact ⟨kb',hle _ _ h1,h2⟩
    fo:=h.fo.step (fun i y k hy hm3 hki=>by
        rcases hget hy with ⟨rfl,rfl⟩ | ⟨rfl,h2⟩ | ⟨h1,h2,hz⟩
        · cases hm3
        · rw [hm3] at h2; cases h2
        · rcases hK hki with ⟨h3,_⟩ | ⟨_,hki⟩
          · exact absurd h3 h2
          · exact ⟨hz,hki⟩) (fun i y k hy h2 h3 hki=>by
        rcases hget hy with ⟨rfl,rfl⟩ | ⟨rfl,h2'⟩ | ⟨h1,h2',hz⟩
        · rcases hK hki with ⟨_,rfl⟩ | ⟨h3',_⟩
          · exact .inl ⟨b,x,_,hx,by rw [hm]; decide,by rw [hm]; decide,hk,rfl⟩
          · exact absurd rfl h3'
        · exact absurd h2' h2
        · rcases hK hki with ⟨h3',_⟩ | ⟨_,hki⟩
          · exact absurd h3' h2'
          · exact .inl ⟨i,y,k,hz,h2,h3,hki,rfl⟩) (by omega) (fun i _=>by
        by_cases hi : i = kb.rb
        · exact .inr ⟨b,x,kb,hx,by rw [hm]; decide,by rw [hm]; decide,hk,hi.symm⟩
        · exact .inl (hw i hi)) }
theorem convKind3 {s d : TypeId} (h : convKind P s d = 3) : s = d∧∃ a b e' e ei,tiOf P s = some a∧tiOf P d = some b∧a.desc = .slice e'∧b.desc = .slice e∧tiOf P e = some ei∧ei.desc = .int .u8:=by
  unfold convKind at h
  (repeat' split at h)<;>first | (cases h; done) | exact ⟨by assumption,_,_,_,_,_,by assumption,by assumption,by assumption,by assumption,by assumption,by assumption⟩
theorem freeze_one (w : World) (b m : Nat) {c : Array Value} {el : TypeId} (h : w.heap[b]? = some (.cells c el (0,0))) :
    (w.freeze ⟨b,m,none⟩ 1).heap.size = w.heap.size∧(∀ k,k≠b→(w.freeze ⟨b,m,none⟩ 1).heap[k]? = w.heap[k]?)∧(∀ k o,(w.freeze ⟨b,m,none⟩ 1).cell? ⟨k,o,none⟩ = w.cell? ⟨k,o,none⟩):=by
  refine ⟨by simp [World.freeze],fun k hk=>?_,fun k o=>?_⟩
  · simp only [World.freeze,Nat.one_ne_zero,if_false,Array.getElem?_modify]
    rw [if_neg (fun e=>hk e.symm)]
  · by_cases hk : b = k
    · subst hk
      simp [World.cell?,World.freeze,Array.getElem?_modify,h]
    · simp only [World.cell?,World.freeze,Nat.one_ne_zero,if_false,Array.getElem?_modify]
      rw [if_neg hk]
theorem heavy_frz (hW : WRel n0 wi gl K st w) (hn : n0≤w.heap.size) {s d : TypeId} {x : Operand} {x' : VOpd} {dst ty pos_ af g} (hx : po gl x = some x') (hc : convKind P s d = 3) (hρ : OpdOk gl K env ρ [x]) (hv : vop P (.frz x') env st = some (n,st1)) :
    HeavyOk P n0 wi gl K ρ ⟨dst,.convert s d x,ty,pos_,af,g⟩ w st st1 n:=by
  obtain ⟨rfl,a,b,e',e,ei,h1,h2,h3,h4,h5,h6⟩:=convKind3 hc
  have hrx:=hρ x (by simp) x' hx
  simp only [vop] at hv
  split at hv
  · rename_i bb o len esz full he
    split at hv
    · rename_i q hq
      split at hv
      · rename_i hcond
        obtain ⟨hm,hlen⟩:=hcond
        simp only [Option.some.injEq,Prod.mk.injEq] at hv
        obtain ⟨rfl,rfl⟩:=hv
        rw [he] at hrx
        obtain ⟨kb,ad,cap,hkb,hok,e1⟩:=sl_inv hrx
        obtain ⟨hn0,c,el,hcell,hcs⟩:=hW.live bb q kb hq hm hkb
        have had : ad = ⟨kb.rb,kb.ro + o,none⟩:=by
          rcases hok.2.2 with ⟨ha,_⟩ | ⟨hz,_⟩
          · exact ha
          · omega
        obtain ⟨f1,f2,f3⟩:=freeze_one w kb.rb c.size hcell
        have hW':=hW.frz hq hm hkb (w':=w.freeze ⟨kb.rb,c.size,none⟩ 1) (by simp [World.freeze]) (by simp [World.freeze]) (by simp [World.freeze]) f1 f2 f3
        refine ⟨_,_,_,?_,⟨.slice (some ad) len cap,rfl,?_⟩,hW',⟨KM.le_set hW.none,by simp [St.kill,hq],fun i hi=>?_,fun i hi hki=>?_⟩⟩
        · simp only [execOp]
          refine run_val ?_
          rw [e1]
          unfold convert
          rw [run_bind _ _ _ (run_und h1),run_bind _ _ _ (run_und h2),h3,h4]
          simp only
          rw [run_bind _ _ _ (run_und h5),h6]
          simp only [beq_self_eq_true]
          have hsh : w.shape? ad.block = some (el,c.size):=by
            rw [had]
            simp [World.shape?,hcell]
          unfold markStringish shape
          simp only [Sem.run_bind,Sem.run,hsh,Result.andThen,freeze]
          rw [had]
          rfl
        · exact .sl (by simp [KM.set]) hok
        · unfold KM.set; rw [if_neg (by omega)]
        · have hne : i≠bb:=fun e=>by rw [e,hkb] at hki; cases hki
          rw [List.getElem?_append_left (by simp [St.kill,hq]; exact hi)]
          simp only [St.kill,hq]
          rw [List.getElem?_set_ne (fun e=>hne e.symm)]
      · cases hv
    · cases hv
  · cases hv
theorem op_heavy (hW : WRel n0 wi gl K st w) (hn : n0≤w.heap.size) {o : Oper} (h : prepOp P gl o.type o.op = some vo) (hk : vo.kind = 3) (hρ : OpdOk gl K env ρ o.op.operands.toList) (hv : vop P vo env st = some (n,st1)) (hnow : n.now = true) :
    HeavyOk P n0 wi gl K ρ o w st st1 n:=by
  obtain ⟨dst,op,ty,ps,af,g⟩:=o
  cases op with
  | store t a x=>exact heavy_store hW h hρ hv
  | panic x =>
    simp only [prepOp] at h
    split at h
    · simp at h; subst h
      simp only [vop] at hv
      split at hv
      · simp at hv; rw [←hv.1] at hnow; cases hnow
      · cases hv
    · cases h
  | call c =>
    simp only [prepOp] at h
    rcases prepCall_cases h with ⟨f,xs,hc,hx,rfl⟩ | ⟨x,x',xs,hc,hx,hxs,rfl⟩ | ⟨x,x',t,ti,e,hc,ht,hti,hd,ha,hx,rfl⟩ | ⟨b,xs,hc,hbb,hx,rfl⟩ | ⟨x,y,x',y',s,t,ti,tj,e,ei,hc,hs,ht,hti,htj,hd,hi,hei,hz,ha,hx,hy,rfl⟩ | ⟨x,y,x',y',s,ti,e,ei,hc,hs,hti,hd,hei,ha,hx,hy,rfl⟩ | rfl
    · simp [vop] at hv; rw [←hv.1] at hnow; cases hnow
    · simp only [vop] at hv
      split at hv
      · simp at hv; rw [←hv.1] at hnow; cases hnow
      · cases hv
    · simp [VOp.kind] at hk
    · simp [VOp.kind] at hk
    · exact heavy_append hW hn hc hs ht hti htj hd hi hei hz ha hx hy hρ hv
    · exact heavy_copy hW hc hs hti hd hei ha hx hy hρ hv
    · simp [VOp.kind] at hk
  | move x=>exact absurd (kind_move h) (by omega)
  | assign x=>exact absurd (kind_assign h) (by omega)
  | pick c a b=>exact absurd (kind_pick h) (by omega)
  | build t parts=>exact absurd (kind_build h) (by omega)
  | load t a=>exact absurd (kind_load h) (by omega)
  | nilCheck x=>exact absurd (kind_nilck h) (by omega)
  | binOp op t x y yt=>exact absurd (kind_bin h) (by omega)
  | unOp op t x=>exact absurd (kind_un h) (by omega)
  | convert s d x =>
    rcases kind_conv h with h2 | ⟨x',hx,⟨hc,rfl⟩ | ⟨hc,rfl⟩ | ⟨hc,rfl⟩⟩
    · omega
    · exact heavy_s2b hW hn hx hc hρ hv
    · simp [VOp.kind] at hk
    · exact heavy_frz hW hn hx hc hρ hv
  | makeInterface t x=>exact absurd (kind_mkif h) (by omega)
  | makeFunc f a b=>exact absurd (kind_mkfn h) (by omega)
  | slice t x lo hi mx=>exact absurd (kind_slice h) (by omega)
  | fieldAddr s x f=>exact absurd (kind_fieldA h) (by omega)
  | field s x f=>exact absurd (kind_field h) (by omega)
  | indexAddr t x i=>exact absurd (kind_idxA h) (by omega)
  | index t x i=>exact absurd (kind_idx h) (by omega)
  | extract x i=>exact absurd (kind_ext h) (by omega)
  | typeAssert x xt t ok=>exact absurd (kind_assert h) (by omega)
  | alloc t =>
    rcases kind_alloc h with h2 | ⟨l,rfl⟩
    · omega
    · exact heavy_allocF hW hn h hv
  | box t x=>exact absurd (kind_box h) (by omega)
  | buildSlice t l ps=>exact absurd (kind_bslice h) (by omega)
  | makeSlice t a x=>exact absurd (kind_mksl h) (by omega)
  | _=>simp [prepOp] at h

def Callable (P : Program) (f : FuncId) : Prop := ∃ fn, P.funcs[f]? = some fn ∧ (fn.name == "runtime.NumGoroutine") = false ∧ fn.body.isSome = true
theorem run_callFunc {f : FuncId} (hf : Callable P f) (args : Array Value) : (callFunc f args).run P w = .ok (.enter f args) w:=by
  obtain ⟨fn,h1,h2,h3⟩:=hf
  unfold callFunc program
  rw [run_bind _ _ w (a:=P) (w':=w) rfl]
  simp only [h1,h2,Bool.false_eq_true,if_false]
  have : fn.body.isNone = false:=by cases hb : fn.body<;>simp_all
  simp only [this,Bool.false_eq_true,if_false]
  rfl

def GCalls (P : Program) (f : FuncId) (args : Array Value) (w : World) (R : Ending→World→Prop) : Prop :=
  (Callable P f∧Calls P f args w R)∨∃ v w',(callFunc f args).run P w = .ok (.value v) w'∧R (.returned v) w'
theorem GCalls.mono {f : FuncId} {args : Array Value} {R R' : Ending→World→Prop} (h : GCalls P f args w R) (hr : ∀ e w',R e w'→R' e w') : GCalls P f args w R':=by
  rcases h with ⟨h1,h2⟩ | ⟨v,w',h1,h2⟩
  · exact .inl ⟨h1,h2.mono hr⟩
  · exact .inr ⟨v,w',h1,hr _ _ h2⟩
theorem GCalls.calls {f : FuncId} {args : Array Value} {R : Ending→World→Prop} (h : GCalls P f args w R) (hf : Callable P f) : Calls P f args w R:=by
  rcases h with ⟨_,h2⟩ | ⟨v,w',h1,_⟩
  · exact h2
  · rw [run_callFunc hf] at h1; cases h1
abbrev WF (ro : Option Nat) : Fence:={ Fence.wide with round:=ro }
theorem wf_calls (ro : Option Nat) {f : FuncId} {args : Array Value} {w : World} {R : Ending→World→Prop} (h : Calls P f args w R) : CallsIn (WF ro) 0 P f args w R :=
  (callsIn_wide.2 h : CallsIn Fence.wide 0 P f args w R)
theorem GCalls.upon (ro : Option Nat) {f : FuncId} {args : Array Value} {R : Ending→World→Prop} {o : Oper} {a : Act} {next : Act→World→Prop} {Q : Exit→Act→World→Prop} (h : GCalls P f args w R)
    (hr : ∀ e w',R e w'→match e with | .returned v=>next (a.put o.dst v) w' | .panicked chain=>Q (.panic chain) a w' | .outgrown=>LetsOut Q) : o.uponIn (WF ro) 0 P a next Q ((callFunc f args).run P w):=by
  rcases h with ⟨h1,h2⟩ | ⟨v,w',h1,h2⟩
  · rw [run_callFunc h1]
    exact ⟨(fun h=>by cases h),(wf_calls ro h2).mono fun e w' hR=>by
      have:=hr e w' hR
      cases e<;>exact this⟩
  · rw [h1]
    exact hr _ _ h2

theorem closed_notcall {x : Option Value} {st st1 : St} {f : FuncId} {a : List AV} : ((x.bind fun v=>if cellVal v then some (VN.val (AV.sc v),st) else none) = some (.call f a,st1))↔False:=by
  constructor
  · intro h
    simp only [Option.bind_eq_some_iff] at h
    obtain ⟨v,_,h⟩:=h
    split at h<;>simp at h
  · exact False.elim
theorem closed_notpan {x : Option Value} {st st1 : St} {a : AV} : ((x.bind fun v=>if cellVal v then some (VN.val (AV.sc v),st) else none) = some (.pan a,st1))↔False:=by
  constructor
  · intro h
    simp only [Option.bind_eq_some_iff] at h
    obtain ⟨v,_,h⟩:=h
    split at h<;>simp at h
  · exact False.elim
theorem vop_call_shape {f : FuncId} {args : List AV} (hv : vop P vo env st = some (.call f args,st1)) :
    (∃ xs,vo = .call f xs∧args = xs.map (·.ev env)∧st1 = st)∨(∃ x xs first cap,vo = .callv x xs∧x.ev env = .fn f first cap∧args = first++xs.map (·.ev env)++cap∧st1 = st):=by
  cases vo
  case call g xs=>simp [vop] at hv; exact .inl ⟨xs,by rw [hv.1.1],hv.1.2.symm,hv.2.symm⟩
  case callv x xs =>
    simp only [vop] at hv
    split at hv
    · rename_i g first cap he
      simp at hv
      exact .inr ⟨x,xs,first,cap,rfl,by rw [he,hv.1.1],by rw [←hv.1.2]; simp,hv.2.symm⟩
    · cases hv
  all_goals
    exfalso
    simp only [vop] at hv
    (repeat' split at hv)<;>simp_all [closed_notcall]
theorem vop_pan_shape {a : AV} (hv : vop P vo env st = some (.pan a,st1)) : ∃ x t v,vo = .panic x∧x.ev env = .iface t v∧a = .iface t v∧st1 = st:=by
  cases vo
  case panic x =>
    simp only [vop] at hv
    split at hv
    · rename_i t v he
      simp at hv
      exact ⟨x,t,v,rfl,he,hv.1.symm,hv.2.symm⟩
    · cases hv
  all_goals
    exfalso
    simp only [vop] at hv
    (repeat' split at hv)<;>simp_all [closed_notpan]

theorem prep_call {ty : TypeId} {op : Op} (h : prepOp P gl ty op = some vo) (hc : (∃ f xs,vo = .call f xs)∨(∃ x xs,vo = .callv x xs)) : ∃ c,op = .call c:=by
  have hk : vo.kind = 3:=by rcases hc with ⟨f,xs,rfl⟩ | ⟨x,xs,rfl⟩<;>rfl
  cases op with
  | call c=>exact ⟨c,rfl⟩
  | store t a x =>
    exfalso
    simp only [prepOp] at h
    (repeat' split at h)<;>first | (simp at h; done) | (simp at h; subst h; rcases hc with ⟨f,xs,e⟩ | ⟨x,xs,e⟩<;>cases e)
  | panic x =>
    exfalso
    simp only [prepOp] at h
    (repeat' split at h)<;>first | (simp at h; done) | (simp at h; subst h; rcases hc with ⟨f,xs,e⟩ | ⟨x,xs,e⟩<;>cases e)
  | move x=>exact absurd (kind_move h) (by omega)
  | assign x=>exact absurd (kind_assign h) (by omega)
  | pick c a b=>exact absurd (kind_pick h) (by omega)
  | build t parts=>exact absurd (kind_build h) (by omega)
  | load t a=>exact absurd (kind_load h) (by omega)
  | nilCheck x=>exact absurd (kind_nilck h) (by omega)
  | binOp op t x y yt=>exact absurd (kind_bin h) (by omega)
  | unOp op t x=>exact absurd (kind_un h) (by omega)
  | convert s d x =>
    exfalso
    simp only [prepOp] at h
    (repeat' split at h)<;>first | (simp at h; done) | (simp at h; subst h; rcases hc with ⟨f,xs,e⟩ | ⟨x,xs,e⟩<;>cases e) | (simp at h; split at h<;>(try split at h)<;>subst h<;>rcases hc with ⟨f,xs,e⟩ | ⟨x,xs,e⟩<;>cases e)
  | makeInterface t x=>exact absurd (kind_mkif h) (by omega)
  | makeFunc f a b=>exact absurd (kind_mkfn h) (by omega)
  | slice t x lo hi mx=>exact absurd (kind_slice h) (by omega)
  | fieldAddr s x f=>exact absurd (kind_fieldA h) (by omega)
  | field s x f=>exact absurd (kind_field h) (by omega)
  | indexAddr t x i=>exact absurd (kind_idxA h) (by omega)
  | index t x i=>exact absurd (kind_idx h) (by omega)
  | extract x i=>exact absurd (kind_ext h) (by omega)
  | typeAssert x xt t ok=>exact absurd (kind_assert h) (by omega)
  | alloc t =>
    exfalso
    simp only [prepOp] at h
    (repeat' split at h)<;>first | (simp at h; done) | (simp at h; subst h; rcases hc with ⟨f,xs,e⟩ | ⟨x,xs,e⟩<;>cases e)
  | box t x=>exact absurd (kind_box h) (by omega)
  | buildSlice t l ps=>exact absurd (kind_bslice h) (by omega)
  | makeSlice t a x=>exact absurd (kind_mksl h) (by omega)
  | _=>simp [prepOp] at h

theorem op_call {o : Oper} (h : prepOp P gl o.type o.op = some vo) (hρ : OpdOk gl K env ρ o.op.operands.toList) {f : FuncId} {args : List AV} (hv : vop P vo env st = some (.call f args,st1)) :
    st1 = st∧∃ args' : Array Value,(execOp ρ o).run P w = (callFunc f args').run P w∧VRels K args args'.toList:=by
  obtain ⟨dst,op,ty,ps,af,g⟩:=o
  have hsh:=vop_call_shape hv
  obtain ⟨c,rfl⟩:=prep_call h (by rcases hsh with ⟨xs,e,_⟩ | ⟨x,xs,_,_,e,_⟩; exact .inl ⟨f,xs,e⟩; exact .inr ⟨x,xs,e⟩)
  simp only [prepOp] at h
  rcases hsh with ⟨xs,rfl,rfl,rfl⟩ | ⟨x,xs,first,cap,rfl,he,rfl,rfl⟩
  · rcases prepCall_cases h with ⟨f',xs',hc,hx,e⟩ | ⟨x,x',xs',hc,hx,hxs,e⟩ | ⟨x,x',t,ti,e',hc,ht,hti,hd,ha,hx,e⟩ | ⟨b,xs',hc,hbb,hx,e⟩ | ⟨x,y,x',y',s,t,ti,tj,e',ei,hc,hs,ht,hti,htj,hd,hi,hei,hz,ha,hx,hy,e⟩ | ⟨x,y,x',y',s,ti,e',ei,hc,hs,hti,hd,hei,ha,hx,hy,e⟩ | e<;>cases e
    have h1:=pos_rel (K:=K) (env:=env) (ρ:=ρ) (l:=c.args.toList) (fun y hy=>hρ y (by simp [Op.operands,Call.operands,hc]; exact .inr (by simpa using hy))) hx
    have hrf:=hρ (.func f) (by simp [Op.operands,Call.operands,hc]) (.fn f) rfl
    refine ⟨rfl,c.args.map ρ,?_,by simpa using h1⟩
    cases hv2 : ρ (.func f)<;>rw [hv2] at hrf<;>cases hrf
    rename_i fs' cs' hfs hcs
    cases hfs; cases hcs
    simp only [execOp,resolve,hc,hv2,Deferred.ofValue]
    rw [run_bind _ _ _ (run_pure _ _)]
    simp [invoke]
  · rcases prepCall_cases h with ⟨f',xs',hc,hx,e⟩ | ⟨y,x',xs',hc,hx,hxs,e⟩ | ⟨x,x',t,ti,e',hc,ht,hti,hd,ha,hx,e⟩ | ⟨b,xs',hc,hbb,hx,e⟩ | ⟨x,y,x',y',s,t,ti,tj,e',ei,hc,hs,ht,hti,htj,hd,hi,hei,hz,ha,hx,hy,e⟩ | ⟨x,y,x',y',s,ti,e',ei,hc,hs,hti,hd,hei,ha,hx,hy,e⟩ | e<;>cases e
    have h1:=pos_rel (K:=K) (env:=env) (ρ:=ρ) (l:=c.args.toList) (fun y hy=>hρ y (by simp [Op.operands,Call.operands,hc]; exact .inr (by simpa using hy))) hxs
    have hrx:=hρ y (by simp [Op.operands,Call.operands,hc]) x hx
    rw [he] at hrx
    cases hv2 : ρ y<;>rw [hv2] at hrx<;>cases hrx
    rename_i fs' cs' hfs hcs
    refine ⟨rfl,(fs'.toArray++c.args.map ρ)++cs'.toArray,?_,?_⟩
    · simp only [execOp,resolve,hc,hv2,Deferred.ofValue]
      rw [run_bind _ _ _ (run_pure _ _)]
      rfl
    · have:=(hfs.append h1).append hcs
      simpa using this

theorem op_pan {o : Oper} (h : prepOp P gl o.type o.op = some vo) (hρ : OpdOk gl K env ρ o.op.operands.toList) {a : AV} (hv : vop P vo env st = some (.pan a,st1)) :
    st1 = st∧∃ v,(execOp ρ o).run P w = .halt (.panic v) w∧VRel K a v:=by
  obtain ⟨dst,op,ty,ps,af,g⟩:=o
  obtain ⟨x,t,v,rfl,he,rfl,rfl⟩:=vop_pan_shape hv
  have hk : VOp.kind (.panic x) = 3:=rfl
  cases op with
  | panic y =>
    simp only [prepOp] at h
    split at h
    · rename_i x' hx
      simp at h; subst h
      have hrx:=hρ y (by simp [Op.operands]) x' hx
      rw [he] at hrx
      cases hv2 : ρ y<;>rw [hv2] at hrx<;>cases hrx
      rename_i v' hvr
      refine ⟨rfl,_,?_,.iface hvr⟩
      simp only [execOp]
      rw [hv2]
      rfl
    · cases h
  | call c =>
    simp only [prepOp] at h
    rcases prepCall_cases h with ⟨f',xs',hc,hx,e⟩ | ⟨y,x',xs',hc,hx,hxs,e⟩ | ⟨x,x',t,ti,e',hc,ht,hti,hd,ha,hx,e⟩ | ⟨b,xs',hc,hbb,hx,e⟩ | ⟨x,y,x',y',s,t,ti,tj,e',ei,hc,hs,ht,hti,htj,hd,hi,hei,hz,ha,hx,hy,e⟩ | ⟨x,y,x',y',s,ti,e',ei,hc,hs,hti,hd,hei,ha,hx,hy,e⟩ | e<;>cases e
  | store t a x =>
    exfalso
    simp only [prepOp] at h
    (repeat' split at h)<;>first | (simp at h; done) | (simp at h; cases h)
  | move x=>exact absurd (kind_move h) (by omega)
  | assign x=>exact absurd (kind_assign h) (by omega)
  | pick c a b=>exact absurd (kind_pick h) (by omega)
  | build t parts=>exact absurd (kind_build h) (by omega)
  | load t a=>exact absurd (kind_load h) (by omega)
  | nilCheck x=>exact absurd (kind_nilck h) (by omega)
  | binOp op t x y yt=>exact absurd (kind_bin h) (by omega)
  | unOp op t x=>exact absurd (kind_un h) (by omega)
  | convert s d x =>
    exfalso
    simp only [prepOp] at h
    (repeat' split at h)<;>first | (simp at h; done) | (simp at h; cases h) | (simp at h; split at h<;>(try split at h)<;>cases h)
  | makeInterface t x=>exact absurd (kind_mkif h) (by omega)
  | makeFunc f a b=>exact absurd (kind_mkfn h) (by omega)
  | slice t x lo hi mx=>exact absurd (kind_slice h) (by omega)
  | fieldAddr s x f=>exact absurd (kind_fieldA h) (by omega)
  | field s x f=>exact absurd (kind_field h) (by omega)
  | indexAddr t x i=>exact absurd (kind_idxA h) (by omega)
  | index t x i=>exact absurd (kind_idx h) (by omega)
  | extract x i=>exact absurd (kind_ext h) (by omega)
  | typeAssert x xt t ok=>exact absurd (kind_assert h) (by omega)
  | alloc t =>
    exfalso
    simp only [prepOp] at h
    (repeat' split at h)<;>first | (simp at h; done) | (simp at h; cases h)
  | box t x=>exact absurd (kind_box h) (by omega)
  | buildSlice t l ps=>exact absurd (kind_bslice h) (by omega)
  | makeSlice t a x=>exact absurd (kind_mksl h) (by omega)
  | _=>simp [prepOp] at h
end
end Go.VX
end
section
namespace Go.VX
open Go.RowKit (Below)

section
variable {P : Program} {n0 : Nat} {wi : World} {gl : List Nat} {K : KM} {st st1 : St} {w : World} {env : Env} {n : VN} {vo : VOp}

structure IsOp (P : Program) (gl : List Nat) (nt : Nat) (ops : Array Oper) (o : VOper) (r : Oper) : Prop where
  at_ : ops[o.idx]? = some r
  dst : r.dst = o.dst
  lt : ∀ d,o.dst = some d→d < nt
  op : prepOp P gl r.type r.op = some o.op
  guard : pGuard ops r.guard = some o.guard

theorem glob_rel (hW : WRel n0 wi gl K st w) {g j : Nat} (h : gl.findIdx? (· == g) = some j) : VRel K (.ptr j 0) (.pointer (some ⟨g,0,none⟩)):=by
  obtain ⟨hj,hg,_⟩:=List.findIdx?_eq_some_iff_getElem.1 h
  obtain ⟨kb,h1,h2,h3,_⟩:=hW.glob j (gl[j]) (by simp [hj])
  have:=VRel.ptr (K:=K) (b:=j) (o:=0) h1
  rw [h2,h3] at this
  have e : gl[j] = g:=by simpa using hg
  rw [e] at this
  exact this

theorem opds_ok (hW : WRel n0 wi gl K st w) {D : List Nat} {a : Act} (he : EnvBut K D env a.tmps) {l : List Operand} (hd : ∀ t,Operand.tmp t ∈ l→t ∉ D) : OpdOk gl K env a.eval l:=by
  intro y hy x hx
  cases y with
  | tmp t=>simp [po] at hx; subst hx; exact he t (hd t hy)
  | const v =>
    simp only [po] at hx
    split at hx
    · rename_i hc
      simp at hx; subst hx; exact .sc hc
    · cases hx
  | global g =>
    simp only [po] at hx
    split at hx
    · rename_i j hj
      simp at hx; subst hx; exact glob_rel hW hj
    · cases hx
  | func f=>simp [po] at hx; subst hx; exact .fn (fs':=[]) (cs':=[]) .nil .nil

theorem wanted_rel {nt : Nat} {ops : Array Oper} {o : VOper} {r : Oper} (ho : IsOp P gl nt ops o r) {a : Act} (hg : ∀ t b,o.guard = some (t,b)→VRel K (env t) (a.tmps.getD t undef)) :
    Region.wanted r (yielded ops a.tmps) = wantedA env o.guard:=by
  have h:=ho.guard
  unfold pGuard at h
  split at h
  · rename_i hgn
    simp at h
    rw [←h]
    unfold Region.wanted
    rw [hgn]
    rfl
  · rename_i j b hgs
    split at h
    · rename_i t ht
      simp at h
      have hr:=hg t b h.symm
      rw [←h]
      unfold Region.wanted
      rw [hgs]
      simp only [wantedA]
      have hy : yielded ops a.tmps j = match a.tmps[t]? with | some (.bool b)=>some b | _=>none:=by
        unfold yielded
        rw [ht]
        rfl
      rw [hy]
      cases hq : a.tmps[t]? with
      | none =>
        have : a.tmps.getD t undef = undef:=by simp [Array.getD_eq_getD_getElem?,hq]
        rw [this] at hr
        cases he : env t<;>rw [he] at hr<;>try rfl
        rename_i v
        have:=VRel.sc_eq hr
        subst this
        rfl
      | some v =>
        have : a.tmps.getD t undef = v:=by simp [Array.getD_eq_getD_getElem?,hq]
        rw [this] at hr
        cases he : env t<;>rw [he] at hr
        case sc u =>
          have:=VRel.sc_eq hr
          subst this
          cases v<;>rfl
        all_goals (cases hr; rfl)
    · cases h

theorem put_rel {a : Act} {D : List Nat} {dst : Option Nat} {v : AV} {v' : Value} (he : EnvBut K D env a.tmps) (hlt : ∀ d,dst = some d→d < a.tmps.size) (hv : VRel K v v') : EnvBut K D (env.put dst v) (a.put dst v').tmps:=by
  intro t ht
  cases dst with
  | none=>exact he t ht
  | some d =>
    have hd:=hlt d rfl
    unfold Env.put Act.put
    simp only [Array.getD_eq_getD_getElem?]
    by_cases htd : t = d
    · subst htd
      rw [if_pos rfl]
      simp [hd]
      exact hv
    · rw [if_neg htd,Array.getElem?_setIfInBounds_ne (Ne.symm htd)]
      have:=he t ht
      rwa [Array.getD_eq_getD_getElem?] at this
theorem EnvBut.mono {K' : KM} (hk : KM.le K K') {D : List Nat} {tmps : Array Value} (h : EnvBut K D env tmps) : EnvBut K' D env tmps:=fun t ht=>(h t ht).mono hk
theorem put_size (a : Act) (dst : Option Nat) (v : Value) : (a.put dst v).tmps.size = a.tmps.size:=by cases dst<;>simp [Act.put]
theorem put_def (a : Act) (dst : Option Nat) (v : Value) : (a.put dst v).defers = a.defers:=by cases dst<;>rfl

def XRel (K : KM) : VX→Exit→Prop
  | .norm,e=>e = .normal
  | .exit id,e=>e = .exit id
  | .ret,e=>e = .ret
  | .pan v,e=>∃ v',e = .panic [{ v:=v',recovered:=false }]∧VRel K v v'
def VX.isPan : VX→Bool
  | .pan _=>true
  | _=>false
def ERel (K : KM) : CRes→Ending→Prop
  | .ret v,e=>∃ v',e = .returned v'∧VRel K v v'
  | .pan v,e=>∃ v',e = .panicked [{ v:=v',recovered:=false }]∧VRel K v v'

def SoundCall (P : Program) (gl : List Nat) (f : FuncId) (args : List AV) (st : St) (r : CRes) (st' : St) : Prop :=
  ∀ n0 wi K w (args' : List Value),WRel n0 wi gl K st w→n0≤wi.heap.size→VRels K args args' →
    GCalls P f args'.toArray w fun e w'=>∃ K',WRel n0 wi gl K' st' w'∧Fr K K' st st'∧ERel K' r e
def SoundC (P : Program) (gl : List Nat) (f : FuncId) (args : List AV) (st : St) (r : CRes) (st' : St) : Prop :=
  ∀ n0 wi K w (args' : List Value),WRel n0 wi gl K st w→n0≤wi.heap.size→VRels K args args' →
    Calls P f args'.toArray w fun e w'=>∃ K',WRel n0 wi gl K' st' w'∧Fr K K' st st'∧ERel K' r e
theorem SoundC.sound {f : FuncId} {args : List AV} {r : CRes} {st' : St} (h : SoundC P gl f args st r st') (hf : Callable P f) : SoundCall P gl f args st r st' :=
  fun n0 wi K w args' h1 h2 h3=>.inl ⟨hf,h n0 wi K w args' h1 h2 h3⟩
theorem SoundCall.c {f : FuncId} {args : List AV} {r : CRes} {st' : St} (h : SoundCall P gl f args st r st') (hf : Callable P f) : SoundC P gl f args st r st' :=
  fun n0 wi K w args' h1 h2 h3=>(h n0 wi K w args' h1 h2 h3).calls hf
def Post (n0 : Nat) (wi : World) (gl : List Nat) (K : KM) (st : St) (a : Act) (x : VX) (env' : Env) (st' : St) (Q : Exit→Act→World→Prop) : Prop :=
  ∀ K' a' w' e,WRel n0 wi gl K' st' w'→Fr K K' st st'→a'.defers = a.defers→a'.tmps.size = a.tmps.size→(x.isPan = false→EnvRel K' env' a'.tmps)→XRel K' x e→Q e a' w'

def SoundSeq (P : Program) (gl : List Nat) (l : List VOper) (env : Env) (st : St) (x : VX) (env' : Env) (st' : St) : Prop :=
  ∀ (ro : Option Nat) (ops : Array Oper) nt n0 wi K w a Q,(∀ o ∈ l,∃ r,IsOp P gl nt ops o r)→WRel n0 wi gl K st w→n0≤wi.heap.size→nt≤a.tmps.size→EnvRel K env a.tmps→Post n0 wi gl K st a x env' st' Q →
    wpOpsIn (WF ro) 0 P ops Q (l.map (·.idx)) a w

theorem EnvRel.but {tmps : Array Value} (h : EnvRel K env tmps) : EnvBut K [] env tmps:=fun t _=>h t
theorem EnvBut.all {tmps : Array Value} (h : EnvBut K [] env tmps) : EnvRel K env tmps:=fun t=>h t (by simp)

theorem Post.step {K1 : KM} {a1 : Act} {x : VX} {env' : Env} {st' : St} {Q : Exit→Act→World→Prop} {a : Act} (h : Post n0 wi gl K st a x env' st' Q) (hf : Fr K K1 st st1) (hd : a1.defers = a.defers) (hs : a1.tmps.size = a.tmps.size) :
    Post n0 wi gl K1 st1 a1 x env' st' Q:=fun K' a' w' e hW hf' hd' hs' he hx=>h K' a' w' e hW (hf.trans hf') (hd'.trans hd) (hs'.trans hs) he hx

theorem seq_nil : SoundSeq P gl [] env st .norm env st:=by
  intro ro ops nt n0 wi K w a Q _ hW _ _ he hQ
  exact hQ K a w .normal hW (Fr.refl K st) rfl rfl (fun _=>he) rfl

theorem IsOp.plain {nt : Nat} {ops : Array Oper} {o : VOper} {r : Oper} (h : IsOp P gl nt ops o r) : ∀ c,r.op≠.defer c:=fun c hc=>by
  have:=h.op
  rw [hc] at this
  simp [prepOp] at this
theorem IsOp.wpIn {ro : Option Nat} {nt : Nat} {ops : Array Oper} {o : VOper} {r : Oper} (h : IsOp P gl nt ops o r) {a : Act} {w : World} {next : Act→World→Prop} {Q : Exit→Act→World→Prop} (hu : r.uponIn (WF ro) 0 P a next Q ((execOp a.eval r).run P w)) : r.wpIn (WF ro) 0 P a w next Q :=
  ⟨fun _ _=>trivial,by rw [Oper.semAt_eq _ _ _ h.plain]; exact hu⟩
theorem wpOps_step {ro : Option Nat} {ops : Array Oper} {Q : Exit→Act→World→Prop} {i : Nat} {rest : List Nat} {a : Act} {r : Oper} (hr : ops[i]? = some r) (h : if Region.wanted r (yielded ops a.tmps) = true then r.wpIn (WF ro) 0 P a w (wpOpsIn (WF ro) 0 P ops Q rest) Q else wpOpsIn (WF ro) 0 P ops Q rest (a.put r.dst undef) w) :
    wpOpsIn (WF ro) 0 P ops Q (i :: rest) a w:=by
  simp only [wpOpsIn,hr]
  split
  · rename_i hw
    rw [if_pos hw] at h
    exact h
  · rename_i hw
    rw [if_neg hw] at h
    exact ⟨fun _ _=>trivial,h⟩

theorem seq_idle {o : VOper} {l : List VOper} {x : VX} {env' : Env} {st' : St} (hw : wantedA env o.guard = false) (ih : SoundSeq P gl l (env.put o.dst undefA) st x env' st') : SoundSeq P gl (o :: l) env st x env' st':=by
  intro ro ops nt n0 wi K w a Q hops hW hn hnt he hQ
  obtain ⟨r,hr⟩:=hops o (by simp)
  refine wpOps_step hr.at_ ?_
  rw [wanted_rel hr (fun t b _=>he t),hw,if_neg (by simp),hr.dst]
  exact ih ro ops nt n0 wi K w (a.put o.dst undef) Q (fun o' h=>hops o' (by simp [h])) hW hn (by rw [put_size]; exact hnt)
    (put_rel he.but (fun d h=>Nat.lt_of_lt_of_le (hr.lt d h) hnt) (undefA_rel K)).all (hQ.step (Fr.refl K st) (put_def _ _ _) (put_size _ _ _))

theorem op_now (hW : WRel n0 wi gl K st w) (hn : n0≤w.heap.size) {o : Oper} {ρ : Operand→Value} (h : prepOp P gl o.type o.op = some vo) (hρ : OpdOk gl K env ρ o.op.operands.toList) (hv : vop P vo env st = some (n,st1)) (hnow : n.now = true) :
    HeavyOk P n0 wi gl K ρ o w st st1 n:=by
  by_cases h1 : vo.kind≤1
  · obtain ⟨rfl,v,v',rfl,hr,hv'⟩:=op_read hW h h1 hρ hv
    exact ⟨K,_,w,hr,⟨v',rfl,hv'⟩,hW,Fr.refl K _⟩
  · by_cases h2 : vo.kind = 2
    · obtain ⟨x,v,rfl,rfl,hm,hal⟩:=op_alloc h h2 hv
      obtain ⟨v',w',kb,hr,hW',hv'⟩:=hal n0 wi K (st++[x]) w ρ (hW.more x) hn hρ (by simp) hW.none
      refine ⟨_,_,w',hr,⟨v',rfl,hv'⟩,hW',⟨KM.le_set hW.none,by simp,fun b hb=>?_,fun b hb _=>?_⟩⟩
      · unfold KM.set; rw [if_neg (by omega)]
      · rw [List.getElem?_append_left hb]
    · have h3 : vo.kind = 3:=by
        cases vo<;>simp [VOp.kind] at h1 h2 ⊢
      exact op_heavy hW hn h h3 hρ hv hnow

theorem seq_now {o : VOper} {l : List VOper} {x : VX} {env' : Env} {st' : St} {u : AV} (hw : wantedA env o.guard = true) (hv : vop P o.op env st = some (n,st1)) (hu : (n = .val u)∨(n = .skip∧u = undefA)) (ih : SoundSeq P gl l (env.put o.dst u) st1 x env' st') : SoundSeq P gl (o :: l) env st x env' st':=by
  intro ro ops nt n0 wi K w a Q hops hW hn hnt he hQ
  obtain ⟨r,hr⟩:=hops o (by simp)
  refine wpOps_step hr.at_ ?_
  rw [wanted_rel hr (fun t b _=>he t),hw,if_pos rfl]
  have hnow : n.now = true:=by rcases hu with rfl | ⟨rfl,_⟩<;>rfl
  obtain ⟨K1,n',w1,hrun,hnr,hW1,hf⟩:=op_now hW (hW.size hn) hr.op (opds_ok hW he.but (fun t _=>by simp)) hv hnow
  have fin : ∀ v',VRel K1 u v'→wpOpsIn (WF ro) 0 P ops Q (l.map (·.idx)) (a.put r.dst v') w1:=by
    intro v' hv'
    rw [hr.dst]
    exact ih ro ops nt n0 wi K1 w1 (a.put o.dst v') Q (fun o' h=>hops o' (by simp [h])) hW1 hn (by rw [put_size]; exact hnt)
      (put_rel (he.but.mono hf.le) (fun d h=>Nat.lt_of_lt_of_le (hr.lt d h) hnt) hv').all (hQ.step hf (put_def _ _ _) (put_size _ _ _))
  refine hr.wpIn ?_
  rw [hrun]
  rcases hu with rfl | ⟨rfl,rfl⟩
  · obtain ⟨v',rfl,hv'⟩:=hnr
    exact fin v' hv'
  · have : n' = .skip:=hnr
    subst this
    exact fin undef (undefA_rel K1)

theorem seq_call {o : VOper} {l : List VOper} {x : VX} {env' : Env} {st' : St} {f : FuncId} {args : List AV} {v : AV} (hw : wantedA env o.guard = true) (hv : vop P o.op env st = some (.call f args,st)) (hc : SoundCall P gl f args st (.ret v) st1)
    (ih : SoundSeq P gl l (env.put o.dst v) st1 x env' st') : SoundSeq P gl (o :: l) env st x env' st':=by
  intro ro ops nt n0 wi K w a Q hops hW hn hnt he hQ
  obtain ⟨r,hr⟩:=hops o (by simp)
  refine wpOps_step hr.at_ ?_
  rw [wanted_rel hr (fun t b _=>he t),hw,if_pos rfl]
  obtain ⟨_,args',hrun,hargs⟩:=op_call (w:=w) hr.op (opds_ok hW he.but (fun t _=>by simp)) hv
  refine hr.wpIn ?_
  rw [hrun]
  have:=hc n0 wi K w args'.toList hW hn hargs
  simp only [Array.toArray_toList] at this
  refine this.upon ro fun e w1 h=>?_
  obtain ⟨K1,hW1,hf1,v',rfl,hv'⟩:=h
  show wpOpsIn (WF ro) 0 P ops Q (l.map (·.idx)) (a.put r.dst v') w1
  rw [hr.dst]
  exact ih ro ops nt n0 wi K1 w1 (a.put o.dst v') Q (fun o' h=>hops o' (by simp [h])) hW1 hn (by rw [put_size]; exact hnt)
      (put_rel (he.but.mono hf1.le) (fun d h=>Nat.lt_of_lt_of_le (hr.lt d h) hnt) hv').all (hQ.step hf1 (put_def _ _ _) (put_size _ _ _))

theorem seq_callP {o : VOper} {l : List VOper} {f : FuncId} {args : List AV} {v : AV} (hw : wantedA env o.guard = true) (hv : vop P o.op env st = some (.call f args,st)) (hc : SoundCall P gl f args st (.pan v) st1) :
    SoundSeq P gl (o :: l) env st (.pan v) env st1:=by
  intro ro ops nt n0 wi K w a Q hops hW hn hnt he hQ
  obtain ⟨r,hr⟩:=hops o (by simp)
  refine wpOps_step hr.at_ ?_
  rw [wanted_rel hr (fun t b _=>he t),hw,if_pos rfl]
  obtain ⟨_,args',hrun,hargs⟩:=op_call (w:=w) hr.op (opds_ok hW he.but (fun t _=>by simp)) hv
  refine hr.wpIn ?_
  rw [hrun]
  have:=hc n0 wi K w args'.toList hW hn hargs
  simp only [Array.toArray_toList] at this
  refine this.upon ro fun e w1 h=>?_
  obtain ⟨K1,hW1,hf1,v',rfl,hv'⟩:=h
  exact hQ K1 a w1 _ hW1 hf1 rfl rfl (fun h=>by cases h) ⟨v',rfl,hv'⟩

theorem seq_panic {o : VOper} {l : List VOper} {v : AV} (hw : wantedA env o.guard = true) (hv : vop P o.op env st = some (.pan v,st)) : SoundSeq P gl (o :: l) env st (.pan v) env st:=by
  intro ro ops nt n0 wi K w a Q hops hW hn hnt he hQ
  obtain ⟨r,hr⟩:=hops o (by simp)
  refine wpOps_step hr.at_ ?_
  rw [wanted_rel hr (fun t b _=>he t),hw,if_pos rfl]
  obtain ⟨_,v',hrun,hv'⟩:=op_pan (w:=w) hr.op (opds_ok hW he.but (fun t _=>by simp)) hv
  refine hr.wpIn ?_
  rw [hrun]
  exact hQ K a w _ hW (Fr.refl K st) rfl rfl (fun h=>by cases h) ⟨v',rfl,hv'⟩
end
end Go.VX
end
section
namespace Go.VX
open Go.RowKit (Below)

def VOp.opds : VOp→List VOpd
  | .mv x=>[x]
  | .pick c a b=>[c,a,b]
  | .alloc _=>[]
  | .allocF _=>[]
  | .box x=>[x]
  | .build _ ps=>ps.map (·.2.2)
  | .bslice _ _ _ ps=>ps.map (·.2.2)
  | .load _ a=>[a]
  | .store _ a x=>[a,x]
  | .nilck x=>[x]
  | .isnil _ _ x=>[x]
  | .peq _ x y=>[x,y]
  | .bin _ _ _ x y=>[x,y]
  | .un _ x=>[x]
  | .conv _ _ x=>[x]
  | .s2b x=>[x]
  | .b2s x=>[x]
  | .frz x=>[x]
  | .idxS _ x i=>[x,i]
  | .slS _ x lo hi=>x :: (lo.toList++hi.toList)
  | .bi _ _ _ xs=>xs
  | .fieldA _ x=>[x]
  | .field _ _ x=>[x]
  | .idxA _ _ x i=>[x,i]
  | .idx _ _ _ x i=>[x,i]
  | .slice _ _ x lo hi mx=>x :: (lo.toList++hi.toList++mx.toList)
  | .mksl _ _ _ l c=>[l,c]
  | .append _ _ x y=>[x,y]
  | .len x=>[x]
  | .copy _ x y=>[x,y]
  | .mkif _ x=>[x]
  | .assert _ _ _ x=>[x]
  | .mkfn _ a b=>a++b
  | .ext x _=>[x]
  | .call _ xs=>xs
  | .callv x xs=>x :: xs
  | .panic x=>[x]

section
variable {P : Program} {env env' : Env} {st st' : St} {vo : VOp}

theorem map_ev {xs : List VOpd} (h : ∀ x ∈ xs,x.ev env' = x.ev env) : xs.map (·.ev env') = xs.map (·.ev env):=List.map_congr_left h
theorem parts_ev {ps : List (Nat × Nat × VOpd)} (h : ∀ x ∈ ps.map (·.2.2),x.ev env' = x.ev env) : partsEv env' ps = partsEv env ps:=by
  unfold partsEv
  refine List.map_congr_left fun p hp=>?_
  rw [h p.2.2 (List.mem_map.2 ⟨p,hp,rfl⟩)]
theorem bnd_ev {x : Option VOpd} {d : Nat} (h : ∀ y ∈ x.toList,y.ev env' = y.ev env) : bnd env' d x = bnd env d x:=by
  cases x with
  | none=>rfl
  | some y=>simp only [bnd]; rw [h y (by simp)]
theorem opt_ev {x : Option VOpd} (h : ∀ y ∈ x.toList,y.ev env' = y.ev env) : x.map (·.ev env') = x.map (·.ev env):=by
  cases x with
  | none=>rfl
  | some y=>simp only [Option.map_some]; rw [h y (by simp)]

theorem vop_congr (h : ∀ x ∈ vo.opds,x.ev env' = x.ev env) : vop P vo env' st = vop P vo env st:=by
  cases vo<;>simp only [VOp.opds,List.mem_cons,List.not_mem_nil,or_false,forall_eq_or_imp,forall_eq] at h
  case build z ps=>simp only [vop]; rw [parts_ev h]
  case bslice e l z ps=>simp only [vop]; rw [parts_ev h]
  case slS t x lo hi =>
    obtain ⟨h1,h2⟩:=h
    have e1:=opt_ev (x:=lo) (fun y hy=>h2 y (by simp at hy ⊢; simp [hy]))
    have e2:=opt_ev (x:=hi) (fun y hy=>h2 y (by simp at hy ⊢; simp [hy]))
    simp only [vop]
    rw [h1,e1,e2]
  case bi b ts t xs=>simp only [vop]; rw [map_ev h]
  case slice arr esz x lo hi mx =>
    obtain ⟨h1,h2⟩:=h
    have e1 : ∀ d,bnd env' d lo = bnd env d lo:=fun d=>bnd_ev (fun y hy=>h2 y (by simp at hy ⊢; simp [hy]))
    have e2 : ∀ d,bnd env' d hi = bnd env d hi:=fun d=>bnd_ev (fun y hy=>h2 y (by simp at hy ⊢; simp [hy]))
    have e3 : ∀ d,bnd env' d mx = bnd env d mx:=fun d=>bnd_ev (fun y hy=>h2 y (by simp at hy ⊢; simp [hy]))
    simp only [vop]
    rw [h1]
    simp only [e1,e2,e3]
  case mkfn f a b =>
    simp only [vop]
    rw [map_ev (xs:=a) (fun x hx=>h x (by simp [hx])),map_ev (xs:=b) (fun x hx=>h x (by simp [hx]))]
  case call f xs=>simp only [vop]; rw [map_ev h]
  case callv x xs =>
    obtain ⟨h1,h2⟩:=h
    simp only [vop]; rw [h1,map_ev h2]
  case alloc=>rfl
  case allocF=>rfl
  all_goals
    simp only [vop]
    first
    | rw [h]
    | (obtain ⟨h1,h2⟩:=h; rw [h1,h2])
    | (obtain ⟨h1,h2,h3⟩:=h; rw [h1,h2,h3])

def VOp.addr : VOp→Option VOpd
  | .load _ a=>some a
  | .slice (some _) _ x _ _ _=>some x
  | .b2s x=>some x
  | _=>none

theorem at1_mono {b o : Nat} {v : AV} (h : st.at1 b o = some v) (hs : ∀ x,st[b]? = some x→st'[b]? = some x) : st'.at1 b o = some v:=by
  unfold St.at1 at h ⊢
  split at h
  · rename_i x hx
    rw [hs x hx]
    exact h
  · cases h
theorem atN_mono {b o n : Nat} {v : List AV} (h : st.atN b o n = some v) (hs : ∀ x,st[b]? = some x→st'[b]? = some x) : st'.atN b o n = some v:=by
  unfold St.atN at h ⊢
  split at h
  · rename_i x hx
    rw [hs x hx]
    exact h
  · cases h

theorem closed_st {x : Option Value} {v : AV} (h : (x.bind fun v=>if cellVal v then some (VN.val (AV.sc v),st) else none) = some (.val v,st)) : (x.bind fun v=>if cellVal v then some (VN.val (AV.sc v),st') else none) = some (.val v,st'):=by
  simp only [Option.bind_eq_some_iff] at h ⊢
  obtain ⟨u,h1,h2⟩:=h
  refine ⟨u,h1,?_⟩
  split at h2
  · rename_i hc
    simp at h2
    rw [if_pos hc,h2]
  · cases h2

theorem vop_st {v : AV} (hk : vo.kind≤1) (h : vop P vo env st = some (.val v,st)) (hs : ∀ u b,vo.addr = some u→adrBox (u.ev env) = some b→∀ x,st[b]? = some x→st'[b]? = some x) : vop P vo env st' = some (.val v,st'):=by
  cases vo
  case load n a =>
    simp only [vop] at h ⊢
    split at h
    · rename_i b o he
      simp only [Option.map_eq_some_iff] at h ⊢
      obtain ⟨u,h1,h2⟩:=h
      simp at h2
      exact ⟨u,at1_mono h1 (hs a b rfl (by rw [he]; rfl)),by rw [h2]⟩
    · rename_i b o m he
      simp only [Option.map_eq_some_iff] at h ⊢
      obtain ⟨u,h1,h2⟩:=h
      simp at h2
      exact ⟨u,atN_mono h1 (hs a b rfl (by rw [he]; rfl)),by rw [h2]⟩
    · cases h
  case slice arr esz x lo hi mx =>
    simp only [vop] at h ⊢
    split at h
    · rename_i n b o he
      split at h
      · rename_i m hh l h1 h2 h3
        split at h
        · rename_i hc
          simp at h
          obtain ⟨c1,c2,c3,c4,c5⟩:=hc
          obtain ⟨u,hu⟩:=Option.isSome_iff_exists.1 c5
          have:=atN_mono hu (hs x b rfl (by rw [he]; rfl))
          rw [if_pos ⟨c1,c2,c3,c4,by rw [this]; rfl⟩,h]
        · cases h
      · cases h
    · split at h
      · split at h
        · rename_i hc; simp at h; rw [if_pos hc,h]
        · cases h
      · cases h
    · split at h
      · split at h
        · rename_i hc; simp at h; rw [if_pos hc,h]
        · cases h
      · cases h
    · cases h
  case b2s x =>
    simp only [vop] at h ⊢
    split at h
    · rename_i b o len esz full he
      split at h
      · rename_i hesz
        split at h
        · rename_i cs hcs
          rw [if_pos hesz,atN_mono hcs (hs x b rfl (by rw [he]; rfl))]
          split at h
          · rename_i l hl
            simp at h
            simp only [hl,h]
          · cases h
        · cases h
      · cases h
    · simp at h
      rw [h]
    · cases h
  case bin op t c x y =>
    simp only [vop] at h ⊢
    split at h
    · exact closed_st h
    · cases h
  case un op x =>
    simp only [vop] at h ⊢
    split at h
    · exact closed_st h
    · cases h
  case conv s d x =>
    simp only [vop] at h ⊢
    split at h
    · exact closed_st h
    · cases h
  case idxS t x i =>
    simp only [vop] at h ⊢
    split at h
    · exact closed_st h
    · cases h
  case slS t x lo hi =>
    simp only [vop] at h ⊢
    split at h
    · exact closed_st h
    · exact closed_st h
    · exact closed_st h
    · exact closed_st h
    · cases h
  all_goals
    simp only [VOp.kind] at hk
    first
    | omega
    | (simp only [vop] at h ⊢; (repeat' split at h)<;>simp_all; done)
    | (simp only [vop,Option.map_eq_some_iff] at h ⊢; obtain ⟨u,h1,h2⟩:=h; simp at h2; exact ⟨u,h1,by rw [h2]⟩)
end
end Go.VX
end
section
namespace Go.VX
open Go.RowKit (Below)

def Evo (st st1 : St) : Prop:=∀ (b : Nat) (x : Box),st[b]? = some x→∃ y : Box,st1[b]? = some y∧x.ver≤y.ver∧(x.mode = y.mode∨y.mode = 2)∧(x.ver = y.ver→x.mode = y.mode→x = y)
theorem Evo.refl (st : St) : Evo st st:=fun b x h=>⟨x,h,Nat.le_refl _,.inl rfl,fun _ _=>rfl⟩
theorem Evo.trans {st st1 st2 : St} (h : Evo st st1) (h' : Evo st1 st2) : Evo st st2:=fun b x hx=>by
  obtain ⟨y,hy,h1,h2,h3⟩:=h b x hx
  obtain ⟨z,hz,h4,h5,h6⟩:=h' b y hy
  refine ⟨z,hz,Nat.le_trans h1 h4,?_,fun e1 e2=>?_⟩
  · rcases h2 with h2 | h2
    · rcases h5 with h5 | h5
      · exact .inl (h2.trans h5)
      · exact .inr h5
    · rcases h5 with h5 | h5
      · exact .inr (h5 ▸ h2)
      · exact .inr h5
  · have e3 : x.mode = y.mode:=by
      rcases h2 with h2 | h2
      · exact h2
      · rcases h5 with h5 | h5
        · rw [e2,h5]
        · rw [e2,h5,h2]
    have e4:=h3 (by omega) e3
    have e5:=h6 (by omega) (by rw [←e3,e2])
    rw [e4,e5]
theorem Evo.more (st : St) (l : List Box) : Evo st (st++l):=fun b x h=>by
  refine ⟨x,?_,Nat.le_refl _,.inl rfl,fun _ _=>rfl⟩
  rw [List.getElem?_append_left (List.getElem?_eq_some_iff.1 h).1]; exact h
theorem Evo.set {st : St} {b : Nat} {x y : Box} (hx : st[b]? = some x) (h1 : x.ver≤y.ver) (h2 : x.mode = y.mode∨y.mode = 2) (h3 : x.ver = y.ver→x.mode = y.mode→x = y) : Evo st (st.set b y):=fun c z hz=>by
  by_cases hc : b = c
  · subst hc
    rw [hx] at hz; simp at hz; subst hz
    refine ⟨y,?_,h1,h2,h3⟩
    rw [List.getElem?_set_self (List.getElem?_eq_some_iff.1 hx).1]
  · exact ⟨z,by rw [List.getElem?_set_ne hc]; exact hz,Nat.le_refl _,.inl rfl,fun _ _=>rfl⟩
theorem Evo.kill (st : St) (b : Nat) : Evo st (st.kill b):=by
  unfold St.kill
  cases hx : st[b]? with
  | none=>exact Evo.refl st
  | some x=>exact Evo.set hx (Nat.le_refl _) (.inr rfl) (fun _ e=>by cases x; simp at e ⊢; exact e)
theorem Evo.put {st st' : St} {b o : Nat} {cs : List AV} (h : st.put b o cs = some st') : Evo st st':=by
  obtain ⟨x,hx,hm,hl,hc,rfl⟩:=put_parts h
  exact Evo.set hx (by simp) (.inl rfl) (fun e=>by simp at e)

section
variable {P : Program} {n0 : Nat} {wi : World} {gl : List Nat} {K : KM} {st st1 : St} {w : World} {env : Env} {n : VN} {vo : VOp}

theorem closed_st_eq {x : Option Value} {st st1 : St} {n : VN} (h : (x.bind fun v=>if cellVal v then some (VN.val (AV.sc v),st) else none) = some (n,st1)) : st1 = st:=by
  simp only [Option.bind_eq_some_iff] at h
  obtain ⟨v,_,h⟩:=h
  split at h
  · simp at h; exact h.2.symm
  · cases h

theorem vop_evo (h : vop P vo env st = some (n,st1)) : Evo st st1:=by
  cases vo
  case store m a x =>
    simp only [vop] at h
    split at h
    · split at h
      · simp only [Option.map_eq_some_iff] at h
        obtain ⟨st',h1,h2⟩:=h
        simp at h2
        rw [←h2.2]; exact Evo.put h1
      · cases h
    · cases h
  case append e b x y =>
    simp only [vop] at h
    (repeat' split at h)<;>first | (cases h; done) | skip
    all_goals (simp at h; obtain ⟨_,rfl⟩:=h)
    · exact Evo.refl _
    · exact Evo.more _ _
    · exact (Evo.kill _ _).trans (Evo.more _ _)
    · exact Evo.refl _
    · exact Evo.more _ _
  case copy e x y =>
    simp only [vop] at h
    (repeat' split at h)<;>first | (cases h; done) | skip
    · simp only [Option.map_eq_some_iff] at h
      obtain ⟨st',h1,h2⟩:=h
      simp at h2
      rw [←h2.2]; exact Evo.put h1
    · simp at h; rw [←h.2]; exact Evo.refl _
  case alloc=>simp [vop] at h; rw [←h.2]; exact Evo.more _ _
  case allocF=>simp [vop] at h; rw [←h.2]; exact Evo.more _ _
  case s2b x =>
    simp only [vop] at h
    split at h
    · simp only [Option.some.injEq,Prod.mk.injEq] at h
      rw [←h.2]; exact Evo.more _ _
    · cases h
  case b2s x =>
    simp only [vop] at h
    (repeat' split at h)<;>first | (cases h; done) | skip
    all_goals
      simp only [Option.some.injEq,Prod.mk.injEq] at h
      rw [←h.2]; exact Evo.refl _
  case frz x =>
    simp only [vop] at h
    (repeat' split at h)<;>first | (cases h; done) | skip
    simp only [Option.some.injEq,Prod.mk.injEq] at h
    rw [←h.2]; exact (Evo.kill _ _).trans (Evo.more _ _)
  case box=>simp [vop] at h; rw [←h.2]; exact Evo.more _ _
  case bslice=>simp [vop] at h; obtain ⟨cs,_,_,h⟩:=h; rw [←h]; exact Evo.more _ _
  case mksl =>
    simp only [vop] at h
    (repeat' split at h)<;>first | (cases h; done) | skip
    simp at h; rw [←h.2]; exact Evo.more _ _
  case bin op t c x y =>
    simp only [vop] at h
    split at h
    · rw [closed_st_eq h]; exact Evo.refl _
    · cases h
  case un op x =>
    simp only [vop] at h
    split at h
    · rw [closed_st_eq h]; exact Evo.refl _
    · cases h
  case conv s d x =>
    simp only [vop] at h
    split at h
    · rw [closed_st_eq h]; exact Evo.refl _
    · cases h
  case idxS t x i =>
    simp only [vop] at h
    split at h
    · rw [closed_st_eq h]; exact Evo.refl _
    · cases h
  case slS t x lo hi =>
    simp only [vop] at h
    split at h
    all_goals first | (rw [closed_st_eq h]; exact Evo.refl _) | (cases h; done)
  all_goals
    have e : st1 = st:=by
      first
      | (simp only [vop] at h; (repeat' split at h)<;>first | (simp at h; done) | (simp at h; exact h.2.symm))
      | (simp [vop] at h; exact h.2.symm)
      | (simp only [vop,Option.map_eq_some_iff] at h; obtain ⟨u,h1,h2⟩:=h; simp at h2; exact h2.2.symm)
      | (simp only [vop] at h; (repeat' split at h)<;>first | (simp at h; done) | (simp at h; exact h.2.symm) | (simp only [Option.map_eq_some_iff] at h; obtain ⟨u,h1,h2⟩:=h; simp at h2; exact h2.2.symm))
    rw [e]; exact Evo.refl _

theorem J_evo {F : FuncId→Option VFun} {H : FuncId→List AV→St→CRes→St→Prop} (hH : ∀ f args st r st',H f args st r st'→Evo st st') {j : Jdg} (h : J P F H j) :
    match j with
    | .code _ _ st _ _ st'=>Evo st st'
    | .ops _ _ st _ _ st'=>Evo st st'
    | .call _ _ st _ st'=>Evo st st':=by
  induction h with
  | skip=>exact Evo.refl _
  | seqN _ _ i1 i2=>exact Evo.trans i1 i2
  | seqX _ _ i1=>exact i1
  | cond _ _ i1=>exact i1
  | block _ i1=>exact i1
  | loopN _ _ i1 i2=>exact Evo.trans i1 i2
  | loopX _ _ i1=>exact i1
  | exit=>exact Evo.refl _
  | ret=>exact Evo.refl _
  | reg _ i1=>exact i1
  | nil=>exact Evo.refl _
  | idle _ _ i1=>exact i1
  | val _ hv _ _ i1=>exact (vop_evo hv).trans i1
  | done _ hv _ _ i1=>exact (vop_evo hv).trans i1
  | callR _ _ _ _ _ i1 i2=>exact Evo.trans i1 i2
  | callP _ _ _ i1=>exact i1
  | panic _ _=>exact Evo.refl _
  | call _ _ _ _ i1=>exact i1
  | callX _ _ i1=>exact i1
  | hook h=>exact hH _ _ _ _ _ h
  | forget _ _ _=>exact Evo.refl _
end
end Go.VX
end
section
namespace Go.VX
open Go.RowKit (Below)

def opr (ops : Array Oper) (o : VOper) : Oper:=ops.getD o.idx default
def hvy (ops : Array Oper) (o : VOper) : Bool:=opHeavy (opr ops o).op o.op
def tmpsOf (l : List VOpd) : List Nat:=l.filterMap fun x=>match x with | .tmp t=>some t | _=>none
def names (ops : Array Oper) (o : VOper) : List Nat:=tmpsOf o.op.opds++(o.guard.toList.map (·.1))++(opr ops o).looksAt ops
def opdEq : VOpd→VOpd→Bool
  | .tmp a,.tmp b=>a == b
  | .glo a,.glo b=>a == b
  | _,_=>false
theorem opdEq_eq {x y : VOpd} (h : opdEq x y = true) : x = y:=by
  unfold opdEq at h
  split at h<;>simp_all

structure Pair (ops : Array Oper) (anc : Nat→Nat→Bool) (x y : VOper) : Prop where
  heavy : hvy ops x = true→anc y.idx x.idx = true
  light : hvy ops y = false→∀ t,y.dst = some t→t ∉ names ops x∧x.dst≠some t
  dst : hvy ops y = true→∀ t,y.dst = some t→(t ∈ names ops x∨x.dst = some t)→anc y.idx x.idx = true
  data : ∀ t,x.dst = some t→t ∈ names ops y→anc y.idx x.idx = true
  keep : hvy ops y = true→∀ u,x.op.addr = some u→y.keep.any (opdEq u) = true∨anc y.idx x.idx = true

structure AncOk (ops : Array Oper) (anc : Nat→Nat→Bool) : Prop where
  ok : ∀ i o,anc i o = true→∀ listed : Array Bool,(∀ j,listed.getD j false = true→∀ k ∈ needsOf ops j,listed.getD k false = true)→(∀ k ∈ needsOf ops i,listed.getD k false = true)→listed.getD o false = true

structure Dl where
  o : VOper
  v : AV
  m : Option Nat

def DelOk (P : Program) (env : Env) (K : KM) (st st0 : St) (d : Dl) : Prop :=
  match d.m with
  | none=>(wantedA env d.o.guard = false∧d.v = undefA)∨(wantedA env d.o.guard = true∧d.o.op.kind≤1∧vop P d.o.op env st = some (.val d.v,st))
  | some b=>wantedA env d.o.guard = true∧d.o.op.kind = 2∧st0.length≤b∧K b = none∧∃ (sta : St) (x : Box),sta.length = b∧vop P d.o.op env sta = some (.val d.v,sta++[x])∧st[b]? = some x

def dsts (D : List Dl) : List Nat:=D.filterMap (·.o.dst)

structure LInv (P : Program) (gl : List Nat) (anc : Nat→Nat→Bool) (ops : Array Oper) (nt : Nat) (L : List VOper) (listed : Array Bool) : Prop where
  isop : ∀ o ∈ L,IsOp P gl nt ops o (opr ops o)
  self : ∀ o ∈ L,hvy ops o = false→∀ t,o.dst = some t→t ∉ names ops o
  pair : L.Pairwise (Pair ops anc)
  idxs : ∀ i,i < ops.size→(listed.getD i true = false↔∃ o ∈ L,o.idx = i)
  nodup : (L.map (·.idx)).Nodup
  lsz : listed.size = ops.size
  closed : ∀ j,listed.getD j false = true→∀ k ∈ needsOf ops j,listed.getD k false = true
  needs : ∀ (k : Nat) (o : VOper),L[k]? = some o→∀ j ∈ needsOf ops o.idx,listed.getD j false = true∨∃ o' ∈ L.take k,o'.idx = j

structure DInv (P : Program) (n0 : Nat) (wi : World) (gl : List Nat) (anc : Nat→Nat→Bool) (ops : Array Oper) (nt : Nat) (K0 : KM) (st0 : St) (a0 : Act) (l : List VOper) (D : List Dl) (listed : Array Bool) (env : Env) (st : St) (K : KM) (a : Act) (w : World) : Prop where
  lin : LInv P gl anc ops nt (D.map (·.o)++l) listed
  light : ∀ d ∈ D,hvy ops d.o = false
  envr : EnvBut K (dsts D) env a.tmps
  wrel : WRel n0 wi gl K st w
  del : ∀ d ∈ D,DelOk P env K st st0 d∧∀ t,d.o.dst = some t→env t = d.v
  boxes : D.Pairwise fun d e=>∀ b,d.m = some b→e.m≠some b
  bnd : ∀ d ∈ D,∀ b,d.m = some b→b < st.length
  fr : Fr K0 K st0 st
  nt : nt≤a.tmps.size
  tsz : a.tmps.size = a0.tmps.size
  def_ : a.defers = a0.defers

section
variable {P : Program} {n0 : Nat} {wi : World} {gl : List Nat} {anc : Nat→Nat→Bool} {ops : Array Oper} {nt : Nat} {K0 K : KM} {st0 st st1 : St} {a0 a : Act} {l : List VOper} {D : List Dl} {listed : Array Bool} {env : Env} {w : World}

theorem mem_tmpsOf {l : List VOpd} {t : Nat} : t ∈ tmpsOf l↔VOpd.tmp t ∈ l:=by
  unfold tmpsOf
  rw [List.mem_filterMap]
  constructor
  · rintro ⟨x,hx,h⟩
    cases x<;>simp at h
    subst h; exact hx
  · intro h; exact ⟨_,h,rfl⟩

theorem agreeV {o : VOper} {env' : Env} (h : ∀ t ∈ names ops o,env' t = env t) (st : St) : vop P o.op env' st = vop P o.op env st:=by
  refine vop_congr fun x hx=>?_
  cases x with
  | tmp t=>exact h t (by unfold names; simp [mem_tmpsOf.2 hx])
  | _=>rfl
theorem agreeW {o : VOper} {env' : Env} (h : ∀ t ∈ names ops o,env' t = env t) : wantedA env' o.guard = wantedA env o.guard:=by
  cases hg : o.guard with
  | none=>rfl
  | some p =>
    obtain ⟨t,b⟩:=p
    simp only [wantedA]
    rw [h t (by unfold names; simp [hg])]

theorem env_put_ne {d : Option Nat} {v : AV} {t : Nat} (h : ∀ e,d = some e→t≠e) : (env.put d v) t = env t:=by
  cases d with
  | none=>rfl
  | some e=>unfold Env.put; exact if_neg (h e rfl)
theorem env_put_eq {t : Nat} {v : AV} : (env.put (some t) v) t = v:=by unfold Env.put; exact if_pos rfl

theorem getD_true_false {listed : Array Bool} {i : Nat} (h : listed.getD i false = true) : listed.getD i true = true:=by
  simp only [Array.getD_eq_getD_getElem?] at h ⊢
  cases hq : listed[i]? with
  | none=>rfl
  | some b=>rw [hq] at h; simpa using h

theorem DInv.ready (h : DInv P n0 wi gl anc ops nt K0 st0 a0 l D listed env st K a w) {i : Nat} (hi : i ∈ Region.ready .any ops listed) : (∀ k ∈ needsOf ops i,listed.getD k false = true)∧∃ o ∈ D.map (·.o)++l,o.idx = i:=by
  obtain ⟨h0,r,hr,hall⟩:=mem_ready.1 hi
  refine ⟨fun k hk=>?_,(h.lin.idxs i (Array.getElem?_eq_some_iff.1 hr).1).1 h0⟩
  unfold needsOf at hk
  rw [hr] at hk
  simp only [List.mem_map,List.mem_filter] at hk
  obtain ⟨e,⟨he,hb⟩,rfl⟩:=hk
  exact hall e (by simpa using he) hb

theorem DInv.notanc (h : DInv P n0 wi gl anc ops nt K0 st0 a0 l D listed env st K a w) (ha : AncOk ops anc) {i : Nat} (hi : i ∈ Region.ready .any ops listed) {o : VOper} (ho : o ∈ D.map (·.o)++l) : anc i o.idx = false:=by
  cases hq : anc i o.idx with
  | false=>rfl
  | true =>
    have h1:=ha.ok i o.idx hq listed h.lin.closed (h.ready hi).1
    have h2:=getD_true_false h1
    have hlt : o.idx < ops.size:=(Array.getElem?_eq_some_iff.1 (h.lin.isop o ho).at_).1
    rw [(h.lin.idxs o.idx hlt).2 ⟨o,ho,rfl⟩] at h2
    cases h2

theorem DInv.some_ready (h : DInv P n0 wi gl anc ops nt K0 st0 a0 l D listed env st K a w) (hne : D.map (·.o)++l≠[]) : Region.ready .any ops listed≠[]:=by
  obtain ⟨o,r,e⟩:=List.exists_cons_of_ne_nil hne
  have ho : o ∈ D.map (·.o)++l:=by rw [e]; simp
  have hop:=h.lin.isop o ho
  have hlt : o.idx < ops.size:=(Array.getElem?_eq_some_iff.1 hop.at_).1
  have : o.idx ∈ Region.ready .any ops listed:=by
    rw [mem_ready]
    refine ⟨(h.lin.idxs o.idx hlt).2 ⟨o,ho,rfl⟩,_,hop.at_,fun ed hed hb=>?_⟩
    have:=h.lin.needs 0 o (by rw [e]; rfl) ed.on (by
      unfold needsOf
      rw [hop.at_]
      simp only [List.mem_map,List.mem_filter]
      exact ⟨ed,⟨by simpa using hed,hb⟩,rfl⟩)
    rcases this with h1 | ⟨o',h1,_⟩
    · exact h1
    · simp at h1
  intro hn
  rw [hn] at this
  cases this

theorem DInv.delay {o : VOper} (h : DInv P n0 wi gl anc ops nt K0 st0 a0 (o :: l) D listed env st K a w) (hl : hvy ops o = false) {v : AV} {m : Option Nat} (hst : (m = none∧st1 = st)∨(∃ x,m = some st.length∧st1 = st++[x]))
    (hok : (m = none∧((wantedA env o.guard = false∧v = undefA)∨(wantedA env o.guard = true∧o.op.kind≤1∧vop P o.op env st = some (.val v,st))))∨(m = some st.length∧wantedA env o.guard = true∧o.op.kind = 2∧vop P o.op env st = some (.val v,st1))) :
    DInv P n0 wi gl anc ops nt K0 st0 a0 l (D++[⟨o,v,m⟩]) listed (env.put o.dst v) st1 K a w:=by
  have hmap : (D++[(⟨o,v,m⟩ : Dl)]).map (·.o)++l = D.map (·.o)++o :: l:=by simp
  have hpw:=h.lin.pair
  rw [List.pairwise_append] at hpw
  obtain ⟨hp1,hp2,hp3⟩:=hpw
  -- what was put off before does not name this one's slot
  have hfree : ∀ d ∈ D,∀ t,o.dst = some t→t ∉ names ops d.o∧d.o.dst≠some t:=fun d hd t ht =>
    (hp3 d.o (List.mem_map.2 ⟨d,hd,rfl⟩) o (by simp)).light hl t ht
  have hself : ∀ t,o.dst = some t→t ∉ names ops o:=h.lin.self o (by simp) hl
  have hlen : st.length≤st1.length:=by rcases hst with ⟨_,rfl⟩ | ⟨x,_,rfl⟩<;>simp
  have hget : ∀ (b : Nat) (x : Box),st[b]? = some x→st1[b]? = some x:=fun b x hb=>by
    rcases hst with ⟨_,rfl⟩ | ⟨y,_,rfl⟩
    · exact hb
    · rw [List.getElem?_append_left (List.getElem?_eq_some_iff.1 hb).1]; exact hb
  refine ⟨by rw [hmap]; exact h.lin,?_,?_,?_,?_,?_,?_,?_,h.nt,h.tsz,h.def_⟩
  · intro d hd
    rcases List.mem_append.1 hd with hd | hd
    · exact h.light d hd
    · simp at hd; subst hd; exact hl
  · intro t ht
    have h1 : t ∉ dsts D:=fun hh=>ht (by unfold dsts at hh ⊢; rw [List.filterMap_append]; exact List.mem_append_left _ hh)
    have h2 : ∀ e,o.dst = some e→t≠e:=fun e he hte=>ht (by unfold dsts; rw [List.filterMap_append]; exact List.mem_append_right _ (by simp [he,hte]))
    rw [env_put_ne h2]
    exact h.envr t h1
  · rcases hst with ⟨_,rfl⟩ | ⟨x,_,rfl⟩
    · exact h.wrel
    · exact h.wrel.more x
  · intro d hd
    rcases List.mem_append.1 hd with hd | hd
    · obtain ⟨hdl,hde⟩:=h.del d hd
      have hag : ∀ t ∈ names ops d.o,(env.put o.dst v) t = env t:=fun t ht=>env_put_ne fun e he hte=>(hfree d hd e he).1 (hte ▸ ht)
      refine ⟨?_,fun t ht=>?_⟩
      · unfold DelOk at hdl ⊢
        split at hdl
        · rename_i hm
          rw [agreeW hag]
          rcases hdl with hdl | ⟨h1,h2,h3⟩
          · exact .inl hdl
          · refine .inr ⟨h1,h2,?_⟩
            rw [agreeV hag st1]
            exact vop_st h2 h3 (fun u b _ _ x hx=>hget b x hx)
        · rename_i b hm
          rw [agreeW hag]
          obtain ⟨h1,h2,h3,h4,sta,x,h5,h6,h7⟩:=hdl
          exact ⟨h1,h2,h3,h4,sta,x,h5,by rw [agreeV hag sta]; exact h6,hget b x h7⟩
      · rw [env_put_ne fun e he hte=>(hfree d hd e he).2 (by rw [ht,hte])]
        exact hde t ht
    · simp at hd; subst hd
      have hag : ∀ t ∈ names ops o,(env.put o.dst v) t = env t:=fun t ht=>env_put_ne fun e he hte=>hself e he (hte ▸ ht)
      refine ⟨?_,fun t ht=>?_⟩
      · rcases hok with ⟨rfl,hok⟩ | ⟨rfl,h1,h2,h3⟩
        · unfold DelOk
          simp only
          rw [agreeW hag,agreeV hag st1]
          rcases hok with hok | ⟨h1,h2,h3⟩
          · exact .inl hok
          · exact .inr ⟨h1,h2,vop_st h2 h3 (fun u b _ _ x hx=>hget b x hx)⟩
        · unfold DelOk
          simp only
          rw [agreeW hag]
          rcases hst with ⟨hn,_⟩ | ⟨x,_,rfl⟩
          · cases hn
          · exact ⟨h1,h2,h.fr.len,h.wrel.none,st,x,rfl,by rw [agreeV hag st]; exact h3,by simp⟩
      · show (env.put o.dst v) t = v
        have ht' : o.dst = some t:=ht
        rw [ht']
        exact env_put_eq
  · rw [List.pairwise_append]
    refine ⟨h.boxes,by simp,fun d hd e he b hb=>?_⟩
    simp at he; subst he
    have:=h.bnd d hd b hb
    rcases hst with ⟨rfl,_⟩ | ⟨x,rfl,_⟩
    · simp
    · simp; omega
  · intro d hd b hb
    rcases List.mem_append.1 hd with hd | hd
    · exact Nat.lt_of_lt_of_le (h.bnd d hd b hb) hlen
    · simp at hd; subst hd
      rcases hst with ⟨rfl,_⟩ | ⟨x,rfl,rfl⟩
      · cases hb
      · simp at hb; subst hb; simp
  · exact ⟨h.fr.le,Nat.le_trans h.fr.len hlen,h.fr.old,fun b hb hk=>by
      rw [←h.fr.un b hb hk]
      rcases hst with ⟨_,rfl⟩ | ⟨x,_,rfl⟩
      · rfl
      · rw [List.getElem?_append_left (Nat.lt_of_lt_of_le hb h.fr.len)]⟩

theorem getD_set_self {listed : Array Bool} {i : Nat} (hi : i < listed.size) (d : Bool) : (listed.setIfInBounds i true).getD i d = true:=by
  simp [Array.getD_eq_getD_getElem?,hi]

theorem LInv.list {X Y : List VOper} {o : VOper} (h : LInv P gl anc ops nt (X++o :: Y) listed) (hr : ∀ k ∈ needsOf ops o.idx,listed.getD k false = true) : LInv P gl anc ops nt (X++Y) (listed.setIfInBounds o.idx true):=by
  have hsub : (X++Y).Sublist (X++o :: Y):=List.Sublist.append (List.Sublist.refl _) (List.sublist_cons_self _ _)
  have hmem : ∀ p ∈ X++Y,p ∈ X++o :: Y:=fun p hp=>hsub.subset hp
  have hop:=h.isop o (by simp)
  have hlt : o.idx < ops.size:=(Array.getElem?_eq_some_iff.1 hop.at_).1
  have hnd:=h.nodup
  rw [List.map_append,List.map_cons,List.nodup_append,List.nodup_cons] at hnd
  obtain ⟨hn1,⟨hn2,hn3⟩,hn4⟩:=hnd
  have hne : ∀ p ∈ X++Y,p.idx≠o.idx:=fun p hp he=>by
    rcases List.mem_append.1 hp with hp | hp
    · exact hn4 _ (List.mem_map.2 ⟨p,hp,rfl⟩) _ (by simp) he
    · exact hn2 (List.mem_map.2 ⟨p,hp,he⟩)
  refine ⟨fun p hp=>h.isop p (hmem p hp),fun p hp=>h.self p (hmem p hp),h.pair.sublist hsub,fun i hi=>?_,?_,by simp [h.lsz],fun j hj k hk=>?_,fun k p hp j hj=>?_⟩
  · by_cases hio : i = o.idx
    · subst hio
      rw [getD_set_self (by rw [h.lsz]; exact hlt)]
      refine ⟨fun h=>(by cases h),fun ⟨p,hp,he⟩=>absurd he (hne p hp)⟩
    · rw [getD_set_ne true (fun e=>hio e.symm),h.idxs i hi]
      constructor
      · rintro ⟨p,hp,he⟩
        refine ⟨p,?_,he⟩
        rcases List.mem_append.1 hp with hp | hp
        · exact List.mem_append_left _ hp
        · rcases List.mem_cons.1 hp with rfl | hp
          · exact absurd he.symm hio
          · exact List.mem_append_right _ hp
      · rintro ⟨p,hp,he⟩
        exact ⟨p,hmem p hp,he⟩
  · exact List.Nodup.sublist (hsub.map _) h.nodup
  · by_cases hjo : j = o.idx
    · subst hjo
      exact getD_set_true (hr k hk)
    · rw [getD_set_ne false (fun e=>hjo e.symm)] at hj
      exact getD_set_true (h.closed j hj k hk)
  · -- what it needs is listed,or comes before it
    by_cases hkx : k < X.length
    · rw [List.getElem?_append_left hkx] at hp
      have:=h.needs k p (by rw [List.getElem?_append_left hkx]; exact hp) j hj
      rcases this with h1 | ⟨q,hq,he⟩
      · exact .inl (getD_set_true h1)
      · refine .inr ⟨q,?_,he⟩
        rw [List.take_append_of_le_length (by omega)] at hq ⊢
        exact hq
    · rw [List.getElem?_append_right (by omega)] at hp
      have:=h.needs (k + 1) p (by
        rw [List.getElem?_append_right (by omega),show k + 1 - X.length = (k - X.length) + 1 from by omega]
        simpa using hp) j hj
      rcases this with h1 | ⟨q,hq,he⟩
      · exact .inl (getD_set_true h1)
      · by_cases hqo : j = o.idx
        · exact .inl (by rw [hqo]; exact getD_set_self (by rw [h.lsz]; exact hlt) false)
        · refine .inr ⟨q,?_,he⟩
          rw [List.take_append,show k + 1 - X.length = (k - X.length) + 1 from by omega,List.take_succ_cons] at hq
          rw [List.take_append]
          rcases List.mem_append.1 hq with hq | hq
          · refine List.mem_append_left _ ?_
            rw [List.take_of_length_le (by omega)] at hq ⊢
            exact hq
          · rcases List.mem_cons.1 hq with rfl | hq
            · exact absurd he.symm hqo
            · exact List.mem_append_right _ hq

theorem dsts_mem {D : List Dl} {t : Nat} : t ∈ dsts D↔∃ d ∈ D,d.o.dst = some t:=by
  unfold dsts
  rw [List.mem_filterMap]

theorem DInv.opds (h : DInv P n0 wi gl anc ops nt K0 st0 a0 l D listed env st K a w) (ha : AncOk ops anc) {o : VOper} (ho : o ∈ D.map (·.o)++l) (hi : o.idx ∈ Region.ready .any ops listed) : ∀ t ∈ names ops o,t ∉ dsts D:=by
  intro t ht hd
  obtain ⟨d,hd,hdt⟩:=dsts_mem.1 hd
  have hdm : d.o ∈ D.map (·.o)++l:=List.mem_append_left _ (List.mem_map.2 ⟨d,hd,rfl⟩)
  have hna:=h.notanc ha hi hdm
  -- d.o and o are in some order
  have hpw:=h.lin.pair
  rcases Classical.em (d.o = o) with heq | hneq
  · exact h.lin.self o ho (heq ▸ h.light d hd) t (heq ▸ hdt) ht
  · have key : ∀ (L : List VOper),L.Pairwise (Pair ops anc)→d.o ∈ L→o ∈ L→Pair ops anc d.o o∨Pair ops anc o d.o:=by
      intro L
      induction L with
      | nil=>intro _ h1; cases h1
      | cons x L ih =>
        intro hp h1 h2
        rw [List.pairwise_cons] at hp
        rcases List.mem_cons.1 h1 with e1 | g1
        · rcases List.mem_cons.1 h2 with e2 | g2
          · exact absurd (e1.trans e2.symm) hneq
          · exact .inl (e1 ▸ hp.1 _ g2)
        · rcases List.mem_cons.1 h2 with e2 | g2
          · exact .inr (e2 ▸ hp.1 _ g1)
          · exact ih hp.2 g1 g2
    rcases key _ hpw hdm ho with hp | hp
    · rw [hp.data t hdt ht] at hna; cases hna
    · exact (hp.light (h.light d hd) t hdt).1 ht

theorem DInv.opdOk (h : DInv P n0 wi gl anc ops nt K0 st0 a0 l D listed env st K a w) (ha : AncOk ops anc) {o : VOper} (ho : o ∈ D.map (·.o)++l) (hi : o.idx ∈ Region.ready .any ops listed) : OpdOk gl K env a.eval (opr ops o).op.operands.toList:=by
  refine opds_ok h.wrel h.envr fun t ht=>h.opds ha ho hi t ?_
  unfold names Oper.looksAt
  refine List.mem_append_right _ (List.mem_append_left _ (List.mem_filterMap.2 ⟨.tmp t,by simpa using ht,rfl⟩))
theorem DInv.wanted (h : DInv P n0 wi gl anc ops nt K0 st0 a0 l D listed env st K a w) (ha : AncOk ops anc) {o : VOper} (ho : o ∈ D.map (·.o)++l) (hi : o.idx ∈ Region.ready .any ops listed) : Region.wanted (opr ops o) (yielded ops a.tmps) = wantedA env o.guard:=by
  refine wanted_rel (h.lin.isop o ho) fun t b hg=>h.envr t (h.opds ha ho hi t ?_)
  unfold names
  simp [hg]

theorem DInv.exec {ro : Option Nat} {D1 D2 : List Dl} {d : Dl} (h : DInv P n0 wi gl anc ops nt K0 st0 a0 l (D1++d :: D2) listed env st K a w) (ha : AncOk ops anc) (hn : n0≤wi.heap.size) (hi : d.o.idx ∈ Region.ready .any ops listed) {Q : Exit→Act→World→Prop} {Kn : Act→World→Prop}
    (hK : ∀ K' a' w',DInv P n0 wi gl anc ops nt K0 st0 a0 l (D1++D2) (listed.setIfInBounds d.o.idx true) env st K' a' w'→Kn a' w') : wpOpIn (WF ro) 0 P ops Q d.o.idx Kn a w:=by
  have hdm : d ∈ D1++d :: D2:=by simp
  have ho : d.o ∈ (D1++d :: D2).map (·.o)++l:=List.mem_append_left _ (List.mem_map.2 ⟨d,hdm,rfl⟩)
  have hop:=h.lin.isop d.o ho
  obtain ⟨hdel,hde⟩:=h.del d hdm
  have hwant:=h.wanted ha ho hi
  have hopd:=h.opdOk ha ho hi
  have hsub : ∀ e ∈ D1++D2,e ∈ D1++d :: D2:=fun e he=>by
    rcases List.mem_append.1 he with he | he
    · exact List.mem_append_left _ he
    · exact List.mem_append_right _ (List.mem_cons_of_mem _ he)
  have hLin : LInv P gl anc ops nt ((D1++D2).map (·.o)++l) (listed.setIfInBounds d.o.idx true):=by
    have:=h.lin
    rw [List.map_append,List.map_cons,List.append_assoc,List.cons_append] at this
    have:=this.list (h.ready hi).1
    rw [List.map_append,List.append_assoc]
    exact this
  have hbx:=h.boxes
  rw [List.pairwise_append,List.pairwise_cons] at hbx
  obtain ⟨hb1,⟨hb2,hb3⟩,hb4⟩:=hbx
  have hboxes : (D1++D2).Pairwise fun d e=>∀ b,d.m = some b→e.m≠some b:=by
    rw [List.pairwise_append]
    exact ⟨hb1,hb3,fun x hx y hy=>hb4 x hx y (List.mem_cons_of_mem _ hy)⟩
  -- what holds behind it
  have fin : ∀ K' v' w',KM.le K K'→WRel n0 wi gl K' st w'→Fr K0 K' st0 st→VRel K' d.v v'→(∀ e ∈ D1++D2,∀ b,e.m = some b→K b = none→K' b = none)→Kn (a.put d.o.dst v') w':=by
    intro K' v' w' hle hW' hfr hv' hun
    refine hK K' _ w' ⟨hLin,fun e he=>h.light e (hsub e he),fun t ht=>?_,hW',fun e he=>?_,hboxes,fun e he=>h.bnd e (hsub e he),hfr,by rw [put_size]; exact h.nt,by rw [put_size]; exact h.tsz,by rw [put_def]; exact h.def_⟩
    · by_cases htd : d.o.dst = some t
      · have hlt:=Nat.lt_of_lt_of_le (hop.lt t htd) h.nt
        rw [hde t htd]
        unfold Act.put
        simp only [htd,Array.getD_eq_getD_getElem?]
        simp [hlt]
        exact hv'
      · have hne : t ∉ dsts (D1++d :: D2):=fun hh=>by
          obtain ⟨e,he,het⟩:=dsts_mem.1 hh
          rcases List.mem_append.1 he with he | he
          · exact ht (dsts_mem.2 ⟨e,List.mem_append_left _ he,het⟩)
          · rcases List.mem_cons.1 he with rfl | he
            · exact htd het
            · exact ht (dsts_mem.2 ⟨e,List.mem_append_right _ he,het⟩)
        have hold:=(h.envr t hne).mono hle
        cases hdd : d.o.dst with
        | none=>simpa [Act.put] using hold
        | some s =>
          have hst : s≠t:=fun e=>htd (by rw [hdd,e])
          unfold Act.put
          simp only [Array.getD_eq_getD_getElem?]
          rw [Array.getElem?_setIfInBounds_ne hst]
          rwa [Array.getD_eq_getD_getElem?] at hold
    · obtain ⟨hed,hee⟩:=h.del e (hsub e he)
      refine ⟨?_,hee⟩
      unfold DelOk at hed ⊢
      split at hed
      · exact hed
      · rename_i b hm
        obtain ⟨h1,h2,h3,h4,h5⟩:=hed
        exact ⟨h1,h2,h3,hun e he b hm h4,h5⟩
  unfold wpOpIn
  rw [hop.at_]
  simp only
  rw [hwant]
  unfold DelOk at hdel
  split at hdel
  · rcases hdel with ⟨hw,hu⟩ | ⟨hw,hk,hv⟩
    · rw [hw,if_neg (by simp),hop.dst]
      exact ⟨fun _ _=>trivial,fin K undef w (KM.le_refl K) h.wrel h.fr (by rw [hu]; exact undefA_rel K) (fun _ _ _ _ hk=>hk)⟩
    · rw [hw,if_pos rfl]
      obtain ⟨_,v,v',e1,hrun,hrel⟩:=op_read h.wrel hop.op hk hopd hv
      simp at e1; subst e1
      refine hop.wpIn ?_
      rw [hrun]
      show Kn (a.put (opr ops d.o).dst v') w
      rw [hop.dst]
      exact fin K v' w (KM.le_refl K) h.wrel h.fr hrel (fun _ _ _ _ hk=>hk)
  · rename_i b hm
    obtain ⟨hw,hk,hb0,hKb,sta,x,hsl,hv,hx⟩:=hdel
    rw [hw,if_pos rfl]
    obtain ⟨x',v,e1,e2,hmode,hal⟩:=op_alloc hop.op hk hv
    simp at e1 e2
    subst e1; subst e2
    obtain ⟨v',w',kb,hrun,hW',hrel⟩:=hal n0 wi K st w a.eval h.wrel (h.wrel.size hn) hopd (by rw [hsl]; exact hx) (by rw [hsl]; exact hKb)
    rw [hsl] at hW' hrel
    refine hop.wpIn ?_
    rw [hrun]
    show Kn (a.put (opr ops d.o).dst v') w'
    rw [hop.dst]
    refine fin _ v' w' (KM.le_set hKb) hW' ⟨KM.le_trans h.fr.le (KM.le_set hKb),h.fr.len,fun c hc=>?_,h.fr.un⟩ hrel (fun e he c hec hkc=>?_)
    · unfold KM.set
      rw [if_neg (by omega)]
      exact h.fr.old c hc
    · have hcb : c≠b:=fun hcb=>by
        subst hcb
        rcases List.mem_append.1 he with he | he
        · exact hb4 e he d (by simp) c hec hm
        · exact hb2 e he c hm hec
      unfold KM.set
      rw [if_neg hcb]
      exact hkc
end
end Go.VX
end
section
namespace Go.VX
open Go.RowKit (Below)

section
variable {P : Program} {n0 : Nat} {wi : World} {gl : List Nat} {anc : Nat→Nat→Bool} {ops : Array Oper} {nt : Nat} {K0 K K1 : KM} {st0 st st1 : St} {a0 a : Act} {l : List VOper} {D : List Dl} {listed : Array Bool} {env : Env} {w w1 : World}

theorem kept_same {o : VOper} (h : keptA env st st1 o.keep = true) (he : Evo st st1) {u : VOpd} (hu : o.keep.any (opdEq u) = true) {b : Nat} (hb : adrBox (u.ev env) = some b) (x : Box) (hx : st[b]? = some x) : st1[b]? = some x:=by
  obtain ⟨u',hu',e⟩:=List.any_eq_true.1 hu
  have:=opdEq_eq e
  subst this
  unfold keptA at h
  rw [List.all_eq_true] at h
  have:=h u hu'
  rw [hb] at this
  simp only [hx] at this
  obtain ⟨y,hy,h1,h2,h3⟩:=he b x hx
  simp only [hy] at this
  simp only [Bool.and_eq_true,beq_iff_eq] at this
  rw [h3 this.1 this.2]
  exact hy

theorem kept_refl (env : Env) (st : St) (l : List VOpd) : keptA env st st l = true:=by
  unfold keptA
  rw [List.all_eq_true]
  intro u _
  split
  · split
    · simp
    · rfl
  · rfl
theorem skip_kind {vo : VOp} (hv : vop P vo env st = some (.skip,st1)) : vo.kind = 3:=by
  by_cases h2 : vo.kind = 2
  · obtain ⟨x,v,e,_⟩:=alloc_shape h2 hv
    cases e
  · cases vo<;>simp [VOp.kind] at h2 ⊢
    all_goals
      exfalso
      simp only [vop] at hv
      (repeat' split at hv)<;>simp_all [Option.bind_eq_some_iff]
theorem read_st {vo : VOp} {n : VN} (hk : vo.kind≤1) (hv : vop P vo env st = some (n,st1)) : st1 = st:=by
  cases vo<;>simp [VOp.kind] at hk
  case bin op t c x y =>
    simp only [vop] at hv
    split at hv
    · exact closed_st_eq hv
    · cases hv
  case un op x =>
    simp only [vop] at hv
    split at hv
    · exact closed_st_eq hv
    · cases hv
  case conv s d x =>
    simp only [vop] at hv
    split at hv
    · exact closed_st_eq hv
    · cases hv
  case idxS t x i =>
    simp only [vop] at hv
    split at hv
    · exact closed_st_eq hv
    · cases hv
  case slS t x lo hi =>
    simp only [vop] at hv
    split at hv
    all_goals first | exact closed_st_eq hv | (cases hv; done)
  all_goals
    first
    | (simp only [vop] at hv; (repeat' split at hv)<;>first | (simp at hv; done) | (simp at hv; exact hv.2.symm))
    | (simp [vop] at hv; exact hv.2.symm)
    | (simp only [vop,Option.map_eq_some_iff] at hv; obtain ⟨u,h1,h2⟩:=hv; simp at h2; exact h2.2.symm)
    | (simp only [vop] at hv; (repeat' split at hv)<;>first | (simp at hv; done) | (simp at hv; exact hv.2.symm) | (simp only [Option.map_eq_some_iff] at hv; obtain ⟨u,h1,h2⟩:=hv; simp at h2; exact h2.2.symm))

theorem DInv.step {o : VOper} (h : DInv P n0 wi gl anc ops nt K0 st0 a0 (o :: l) D listed env st K a w) (ha : AncOk ops anc) (hh : hvy ops o = true) (hi : o.idx ∈ Region.ready .any ops listed)
    (hW : WRel n0 wi gl K1 st1 w1) (hf : Fr K K1 st st1) (he : Evo st st1) (hk : keptA env st st1 o.keep = true) {u : AV} {v' : Value} (hv : VRel K1 u v') :
    DInv P n0 wi gl anc ops nt K0 st0 a0 l D (listed.setIfInBounds o.idx true) (env.put o.dst u) st1 K1 (a.put o.dst v') w1:=by
  have hop:=h.lin.isop o (by simp)
  have hpw:=h.lin.pair
  rw [List.pairwise_append] at hpw
  obtain ⟨hp1,hp2,hp3⟩:=hpw
  have hpair : ∀ d ∈ D,Pair ops anc d.o o:=fun d hd=>hp3 d.o (List.mem_map.2 ⟨d,hd,rfl⟩) o (by simp)
  have hna : ∀ d ∈ D,anc o.idx d.o.idx = false:=fun d hd=>h.notanc ha hi (List.mem_append_left _ (List.mem_map.2 ⟨d,hd,rfl⟩))
  have hfree : ∀ d ∈ D,∀ t,o.dst = some t→t ∉ names ops d.o∧d.o.dst≠some t:=fun d hd t ht=>by
    have h1:=(hpair d hd).dst hh t ht
    have h2:=hna d hd
    refine ⟨fun h3=>?_,fun h3=>?_⟩
    · rw [h1 (.inl h3)] at h2; cases h2
    · rw [h1 (.inr h3)] at h2; cases h2
  refine ⟨h.lin.list (h.ready hi).1,h.light,fun t ht=>?_,hW,fun d hd=>?_,h.boxes,fun d hd b hb=>Nat.lt_of_lt_of_le (h.bnd d hd b hb) hf.len,h.fr.trans hf,by rw [put_size]; exact h.nt,by rw [put_size]; exact h.tsz,by rw [put_def]; exact h.def_⟩
  · exact put_rel (h.envr.mono hf.le) (fun t ht=>Nat.lt_of_lt_of_le (hop.lt t ht) h.nt) hv t ht
  · obtain ⟨hdl,hde⟩:=h.del d hd
    have hag : ∀ t ∈ names ops d.o,(env.put o.dst u) t = env t:=fun t ht=>env_put_ne fun e he hte=>(hfree d hd e he).1 (hte ▸ ht)
    refine ⟨?_,fun t ht=>?_⟩
    · unfold DelOk at hdl ⊢
      split at hdl
      · rw [agreeW hag]
        rcases hdl with hdl | ⟨h1,h2,h3⟩
        · exact .inl hdl
        · refine .inr ⟨h1,h2,?_⟩
          rw [agreeV hag st1]
          refine vop_st h2 h3 fun u' b hu' hb x hx=>?_
          rcases (hpair d hd).keep hh u' hu' with h4 | h4
          · exact kept_same hk he h4 hb x hx
          · rw [hna d hd] at h4; cases h4
      · rename_i b hm
        rw [agreeW hag]
        obtain ⟨h1,h2,h3,h4,sta,x,h5,h6,h7⟩:=hdl
        have hbl:=h.bnd d hd b hm
        refine ⟨h1,h2,h3,by rw [hf.old b hbl]; exact h4,sta,x,h5,by rw [agreeV hag sta]; exact h6,by rw [hf.un b hbl h4]; exact h7⟩
    · rw [env_put_ne fun e he hte=>(hfree d hd e he).2 (by rw [ht,hte])]
      exact hde t ht

theorem drain {ro : Option Nat} {o : VOper} {Q : Exit→Act→World→Prop} (ha : AncOk ops anc) (hn : n0≤wi.heap.size) (hh : hvy ops o = true)
    (hfin : ∀ D listed K a w,DInv P n0 wi gl anc ops nt K0 st0 a0 (o :: l) D listed env st K a w→o.idx ∈ Region.ready .any ops listed→wpOpIn (WF ro) 0 P ops Q o.idx (wpAnyIn (WF ro) 0 P .any ops Q (D.length + l.length) (listed.setIfInBounds o.idx true)) a w) :
    ∀ (fuel : Nat) D listed K a w,DInv P n0 wi gl anc ops nt K0 st0 a0 (o :: l) D listed env st K a w→fuel = D.length + l.length + 1→wpAnyIn (WF ro) 0 P .any ops Q fuel listed a w:=by
  intro fuel
  induction fuel with
  | zero=>intro D listed K a w _ hf; omega
  | succ fuel ih =>
    intro D listed K a w h hf
    refine ⟨fun h0=>absurd h0 (h.some_ready (by simp)),fun i hi=>?_⟩
    obtain ⟨_,p,hp,rfl⟩:=h.ready hi
    rcases List.mem_append.1 hp with hp | hp
    · obtain ⟨d,hd,rfl⟩:=List.mem_map.1 hp
      obtain ⟨D1,D2,rfl⟩:=List.append_of_mem hd
      refine h.exec ha hn hi fun K' a' w' h'=>ih _ _ K' a' w' h' ?_
      simp at hf ⊢; omega
    · rcases List.mem_cons.1 hp with rfl | hp
      · have : fuel = D.length + l.length:=by omega
        rw [this]
        exact hfin D listed K a w h hi
      · exfalso
        have hpw:=h.lin.pair
        rw [List.pairwise_append,List.pairwise_cons] at hpw
        have h1:=(hpw.2.1.1 p hp).heavy hh
        rw [h.notanc ha hi (o:=o) (by simp)] at h1
        cases h1
theorem drain_nil {ro : Option Nat} {Q : Exit→Act→World→Prop} (ha : AncOk ops anc) (hn : n0≤wi.heap.size) (hfin : ∀ listed K a w,DInv P n0 wi gl anc ops nt K0 st0 a0 [] [] listed env st K a w→Q .normal a w) :
    ∀ (fuel : Nat) D listed K a w,DInv P n0 wi gl anc ops nt K0 st0 a0 [] D listed env st K a w→fuel = D.length→wpAnyIn (WF ro) 0 P .any ops Q fuel listed a w:=by
  intro fuel
  induction fuel with
  | zero =>
    intro D listed K a w h hf
    have hD : D = []:=List.eq_nil_of_length_eq_zero hf.symm
    subst hD
    refine ⟨?_,hfin _ _ _ _ h⟩
    cases hr : Region.ready .any ops listed with
    | nil=>rfl
    | cons i r =>
      obtain ⟨_,p,hp,_⟩:=h.ready (i:=i) (by rw [hr]; simp)
      simp at hp
  | succ fuel ih =>
    intro D listed K a w h hf
    refine ⟨fun h0=>absurd h0 (h.some_ready (by intro e; simp at e; subst e; simp at hf)),fun i hi=>?_⟩
    obtain ⟨_,p,hp,rfl⟩:=h.ready hi
    rw [List.append_nil] at hp
    obtain ⟨d,hd,rfl⟩:=List.mem_map.1 hp
    obtain ⟨D1,D2,rfl⟩:=List.append_of_mem hd
    refine h.exec ha hn hi fun K' a' w' h'=>ih _ _ K' a' w' h' ?_
    simp at hf ⊢; omega

def SoundDraw (P : Program) (gl : List Nat) (anc : Nat→Nat→Bool) (ops : Array Oper) (nt : Nat) (l : List VOper) (env : Env) (st : St) (x : VX) (env' : Env) (st' : St) : Prop :=
  ∀ (ro : Option Nat) n0 wi K0 st0 a0 D listed K a w Q fuel,DInv P n0 wi gl anc ops nt K0 st0 a0 l D listed env st K a w→n0≤wi.heap.size→fuel = D.length + l.length→Post n0 wi gl K0 st0 a0 x env' st' Q→wpAnyIn (WF ro) 0 P .any ops Q fuel listed a w

theorem draw_nil (ha : AncOk ops anc) : SoundDraw P gl anc ops nt [] env st .norm env st:=by
  intro ro n0 wi K0 st0 a0 D listed K a w Q fuel h hn hf hQ
  refine drain_nil ha hn (fun listed K a w h=>?_) fuel D listed K a w h (by simpa using hf)
  exact hQ K a w .normal h.wrel h.fr h.def_ h.tsz (fun _=>EnvBut.all (by simpa [dsts] using h.envr)) rfl

theorem draw_light {o : VOper} {x : VX} {env' : Env} {st' : St} {v : AV} (hl : hvy ops o = false) {m : Option Nat} (hst : (m = none∧st1 = st)∨(∃ x,m = some st.length∧st1 = st++[x]))
    (hok : (m = none∧((wantedA env o.guard = false∧v = undefA)∨(wantedA env o.guard = true∧o.op.kind≤1∧vop P o.op env st = some (.val v,st))))∨(m = some st.length∧wantedA env o.guard = true∧o.op.kind = 2∧vop P o.op env st = some (.val v,st1)))
    (ih : SoundDraw P gl anc ops nt l (env.put o.dst v) st1 x env' st') : SoundDraw P gl anc ops nt (o :: l) env st x env' st':=by
  intro ro n0 wi K0 st0 a0 D listed K a w Q fuel h hn hf hQ
  exact ih ro n0 wi K0 st0 a0 _ listed K a w Q fuel (h.delay hl hst hok) hn (by simp at hf ⊢; omega) hQ

theorem draw_heavy {o : VOper} {x : VX} {env' : Env} {st' : St} (ha : AncOk ops anc) (hh : hvy ops o = true)
    (hrun : ∀ (ro : Option Nat) n0 wi K0 st0 a0 D listed K a w Q,DInv P n0 wi gl anc ops nt K0 st0 a0 (o :: l) D listed env st K a w→n0≤wi.heap.size→o.idx ∈ Region.ready .any ops listed→Post n0 wi gl K0 st0 a0 x env' st' Q →
      wpOpIn (WF ro) 0 P ops Q o.idx (wpAnyIn (WF ro) 0 P .any ops Q (D.length + l.length) (listed.setIfInBounds o.idx true)) a w) : SoundDraw P gl anc ops nt (o :: l) env st x env' st':=by
  intro ro n0 wi K0 st0 a0 D listed K a w Q fuel h hn hf hQ
  exact drain ha hn hh (fun D listed K a w h hi=>hrun ro n0 wi K0 st0 a0 D listed K a w Q h hn hi hQ) fuel D listed K a w h (by simp at hf ⊢; omega)

theorem draw_idle {o : VOper} {x : VX} {env' : Env} {st' : St} (ha : AncOk ops anc) (hw : wantedA env o.guard = false) (ih : SoundDraw P gl anc ops nt l (env.put o.dst undefA) st x env' st') : SoundDraw P gl anc ops nt (o :: l) env st x env' st':=by
  cases hl : hvy ops o with
  | false=>exact draw_light hl (.inl ⟨rfl,rfl⟩) (.inl ⟨rfl,.inl ⟨hw,rfl⟩⟩) ih
  | true =>
    refine draw_heavy ha hl fun ro n0 wi K0 st0 a0 D listed K a w Q h hn hi hQ=>?_
    have hop:=h.lin.isop o (by simp)
    unfold wpOpIn
    rw [hop.at_]
    simp only
    rw [h.wanted ha (by simp) hi,hw,if_neg (by simp),hop.dst]
    refine ⟨fun _ _=>trivial,?_⟩
    refine ih ro n0 wi K0 st0 a0 D _ K _ w Q _ (h.step ha hl hi h.wrel (Fr.refl K st) (Evo.refl st) ?_ (undefA_rel K)) hn rfl hQ
    exact kept_refl env st _

theorem draw_now {o : VOper} {x : VX} {env' : Env} {st' : St} {u : AV} {n : VN} (ha : AncOk ops anc) (hw : wantedA env o.guard = true) (hv : vop P o.op env st = some (n,st1)) (hu : (n = .val u)∨(n = .skip∧u = undefA)) (hk : keptA env st st1 o.keep = true)
    (ih : SoundDraw P gl anc ops nt l (env.put o.dst u) st1 x env' st') : SoundDraw P gl anc ops nt (o :: l) env st x env' st':=by
  cases hl : hvy ops o with
  | false =>
    have hkind : o.op.kind≤2:=by
      have : o.op.kind≠3:=fun h3=>by
        unfold hvy opHeavy at hl
        split at hl
        · cases hl
        · rw [h3] at hl; cases hl
      revert this
      cases o.op<;>simp [VOp.kind]
    have hne : n≠.skip:=fun e=>by
      have:=skip_kind (e ▸ hv)
      omega
    have hnu : n = .val u:=by
      rcases hu with h | ⟨h,_⟩
      · exact h
      · exact absurd h hne
    subst hnu
    by_cases hk1 : o.op.kind≤1
    · have hst : st1 = st:=read_st hk1 hv
      subst hst
      exact draw_light hl (.inl ⟨rfl,rfl⟩) (.inl ⟨rfl,.inr ⟨hw,hk1,hv⟩⟩) ih
    · obtain ⟨y,v,e1,e2,_⟩:=alloc_shape (by omega) hv
      exact draw_light hl (.inr ⟨y,rfl,e2⟩) (.inr ⟨rfl,hw,by omega,hv⟩) ih
  | true =>
    refine draw_heavy ha hl fun ro n0 wi K0 st0 a0 D listed K a w Q h hn hi hQ=>?_
    have hop:=h.lin.isop o (by simp)
    have hnow : n.now = true:=by rcases hu with rfl | ⟨rfl,_⟩<;>rfl
    obtain ⟨K1,n',w1,hrun,hnr,hW1,hf⟩:=op_now h.wrel (h.wrel.size hn) hop.op (h.opdOk ha (by simp) hi) hv hnow
    unfold wpOpIn
    rw [hop.at_]
    simp only
    rw [h.wanted ha (by simp) hi,hw,if_pos rfl]
    refine hop.wpIn ?_
    rw [hrun]
    have fin : ∀ v',VRel K1 u v'→wpAnyIn (WF ro) 0 P .any ops Q (D.length + l.length) (listed.setIfInBounds o.idx true) (a.put (opr ops o).dst v') w1:=fun v' hv'=>by
      rw [hop.dst]
      exact ih ro n0 wi K0 st0 a0 D _ K1 _ w1 Q _ (h.step ha hl hi hW1 hf (vop_evo hv) hk hv') hn rfl hQ
    rcases hu with rfl | ⟨rfl,rfl⟩
    · obtain ⟨v',rfl,hv'⟩:=hnr
      exact fin v' hv'
    · have : n' = .skip:=hnr
      subst this
      exact fin undef (undefA_rel K1)

theorem call_hvy {o : VOper} {f : FuncId} {args : List AV} (hv : vop P o.op env st = some (.call f args,st1)) : hvy ops o = true:=by
  have : o.op.kind = 3:=by
    rcases vop_call_shape hv with ⟨xs,e,_⟩ | ⟨y,xs,_,_,e,_⟩<;>rw [e]<;>rfl
  unfold hvy opHeavy
  split
  · rfl
  · rw [this]; rfl
theorem pan_hvy {o : VOper} {v : AV} (hv : vop P o.op env st = some (.pan v,st1)) : hvy ops o = true:=by
  have : o.op.kind = 3:=by
    obtain ⟨y,t,v,e,_⟩:=vop_pan_shape hv
    rw [e]; rfl
  unfold hvy opHeavy
  split
  · rfl
  · rw [this]; rfl

theorem draw_call {o : VOper} {x : VX} {env' : Env} {st' : St} {f : FuncId} {args : List AV} {v : AV} (ha : AncOk ops anc) (hw : wantedA env o.guard = true) (hv : vop P o.op env st = some (.call f args,st))
    (hc : SoundCall P gl f args st (.ret v) st1) (hevo : Evo st st1) (hk : keptA env st st1 o.keep = true)
    (ih : SoundDraw P gl anc ops nt l (env.put o.dst v) st1 x env' st') : SoundDraw P gl anc ops nt (o :: l) env st x env' st':=by
  have hl:=call_hvy (ops:=ops) hv
  refine draw_heavy ha hl fun ro n0 wi K0 st0 a0 D listed K a w Q h hn hi hQ=>?_
  have hop:=h.lin.isop o (by simp)
  obtain ⟨_,args',hrun,hargs⟩:=op_call (w:=w) hop.op (h.opdOk ha (by simp) hi) hv
  unfold wpOpIn
  rw [hop.at_]
  simp only
  rw [h.wanted ha (by simp) hi,hw,if_pos rfl]
  refine hop.wpIn ?_
  rw [hrun]
  have:=hc n0 wi K w args'.toList h.wrel hn hargs
  simp only [Array.toArray_toList] at this
  refine this.upon ro fun e w1 hh=>?_
  obtain ⟨K1,hW1,hf1,v',rfl,hv'⟩:=hh
  show wpAnyIn (WF ro) 0 P .any ops Q (D.length + l.length) (listed.setIfInBounds o.idx true) (a.put (opr ops o).dst v') w1
  rw [hop.dst]
  exact ih ro n0 wi K0 st0 a0 D _ K1 _ w1 Q _ (h.step ha hl hi hW1 hf1 hevo hk hv') hn rfl hQ

theorem draw_callP {o : VOper} {f : FuncId} {args : List AV} {v : AV} (ha : AncOk ops anc) (hw : wantedA env o.guard = true) (hv : vop P o.op env st = some (.call f args,st))
    (hc : SoundCall P gl f args st (.pan v) st1) : SoundDraw P gl anc ops nt (o :: l) env st (.pan v) env st1:=by
  have hl:=call_hvy (ops:=ops) hv
  refine draw_heavy ha hl fun ro n0 wi K0 st0 a0 D listed K a w Q h hn hi hQ=>?_
  have hop:=h.lin.isop o (by simp)
  obtain ⟨_,args',hrun,hargs⟩:=op_call (w:=w) hop.op (h.opdOk ha (by simp) hi) hv
  unfold wpOpIn
  rw [hop.at_]
  simp only
  rw [h.wanted ha (by simp) hi,hw,if_pos rfl]
  refine hop.wpIn ?_
  rw [hrun]
  have:=hc n0 wi K w args'.toList h.wrel hn hargs
  simp only [Array.toArray_toList] at this
  refine this.upon ro fun e w1 hh=>?_
  obtain ⟨K1,hW1,hf1,v',rfl,hv'⟩:=hh
  exact hQ K1 a w1 _ hW1 (h.fr.trans hf1) h.def_ h.tsz (fun hp=>by cases hp) ⟨v',rfl,hv'⟩

theorem draw_panic {o : VOper} {v : AV} (ha : AncOk ops anc) (hw : wantedA env o.guard = true) (hv : vop P o.op env st = some (.pan v,st)) : SoundDraw P gl anc ops nt (o :: l) env st (.pan v) env st:=by
  have hl:=pan_hvy (ops:=ops) hv
  refine draw_heavy ha hl fun ro n0 wi K0 st0 a0 D listed K a w Q h hn hi hQ=>?_
  have hop:=h.lin.isop o (by simp)
  obtain ⟨_,v',hrun,hv'⟩:=op_pan (w:=w) hop.op (h.opdOk ha (by simp) hi) hv
  unfold wpOpIn
  rw [hop.at_]
  simp only
  rw [h.wanted ha (by simp) hi,hw,if_pos rfl]
  refine hop.wpIn ?_
  rw [hrun]
  exact hQ K a w _ h.wrel h.fr h.def_ h.tsz (fun hp=>by cases hp) ⟨v',rfl,hv'⟩
end
end Go.VX
end
