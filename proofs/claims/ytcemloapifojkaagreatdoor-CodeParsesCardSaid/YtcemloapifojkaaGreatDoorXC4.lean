/- A part of the proofs of the statements of one layer: V8, V9. No condition is added here. -/
import Derived.IntWalk
import Derived.Test.YtcemloapifojkaaGreatDoorXC3
set_option linter.unusedVariables false
set_option linter.unusedSimpArgs false
section
namespace Go.VX
open Go.RowKit (Below)

section
variable {P : Program} {n0 : Nat} {wi : World} {gl : List Nat} {K : KM} {st st1 : St} {w : World} {env : Env} {ρ : Operand→Value} {n : VN} {vo : VOp}

theorem srcLen_rel {a : AV} {v : Value} {m : Nat} (h : VRel K a v) (e : srcLen a = some m) : (Builtin.lenOf v).run P w = .ok m w:=by
  unfold srcLen at e
  split at e
  · simp at e; subst e
    obtain ⟨kb,ad,cap,_,_,rfl⟩:=sl_inv h
    rfl
  · simp at e; subst e
    rw [VRel.sc_eq h]; rfl
  · simp at e; subst e
    rw [VRel.sc_eq h]; rfl
  · cases e

theorem read_len {c : Call} {x : Operand} {dst ty pos_ af g} {ti : TI} {e : TypeId} {x' : VOpd} {t : TypeId} (hb : c.callee = .builtin .len) (ht : c.argTypes[0]? = some t) (hti : tiOf P t = some ti) (hd : ti.desc = .slice e) (ha : c.args.toList = [x])
    (hx : po gl x = some x') (hρ : OpdOk gl K env ρ c.operands.toList) (hv : vop P (.len x') env st = some (n,st1)) : ReadOk P K ρ ⟨dst,.call c,ty,pos_,af,g⟩ w st st1 n:=by
  have hrx:=hρ x (by simp [Call.operands,hb,ha]) x' hx
  have haa : c.args = #[x]:=by rw [←Array.toList_inj,ha]
  have key : ∀ m : Nat,st1 = st→n = .val (.sc (.int .i64 m))→(∃ a cap,ρ x = .slice a m cap)→ReadOk P K ρ ⟨dst,.call c,ty,pos_,af,g⟩ w st st1 n:=by
    rintro m rfl rfl ⟨a,cap,e1⟩
    refine ⟨rfl,_,.int .i64 m,rfl,?_,.sc rfl⟩
    simp only [execOp,resolve,hb,haa]
    rw [run_bind _ _ _ (run_pure _ _)]
    simp only [invoke,builtin]
    refine run_val ?_
    unfold Builtin.len_
    simp only [ht,List.map_toArray,List.map_cons,List.map_nil,List.getElem?_toArray,List.getElem?_cons_zero]
    rw [run_bind _ _ _ (run_und hti),hd,e1]
    rfl
  simp only [vop] at hv
  split at hv
  · rename_i b o m esz full he
    simp at hv
    rw [he] at hrx
    obtain ⟨kb,ad,cap,_,_,e1⟩:=sl_inv hrx
    exact key m hv.2.symm hv.1.symm ⟨_,_,e1⟩
  · rename_i he
    simp at hv
    rw [he] at hrx
    exact key 0 hv.2.symm hv.1.symm ⟨_,_,VRel.sc_eq hrx⟩
  · cases hv

theorem read_bi {c : Call} {b : Builtin} {dst ty pos_ af g} {xs : List VOpd} (hb : c.callee = .builtin b) (hbb : b = .len∨b = .min∨b = .max) (hx : pos gl c.args.toList = some xs) (hρ : OpdOk gl K env ρ c.operands.toList)
    (hv : vop P (.bi b c.argTypes.toList ty xs) env st = some (n,st1)) : ReadOk P K ρ ⟨dst,.call c,ty,pos_,af,g⟩ w st st1 n:=by
  have h1:=pos_rel (K:=K) (env:=env) (ρ:=ρ) (l:=c.args.toList) (fun y hy=>hρ y (by simp [Call.operands,hb]; simpa using hy)) hx
  simp only [vop] at hv
  split at hv
  · rename_i vs hvs
    have h2:=VRels.cellsV h1 hvs
    split at hv
    · rename_i v hcl
      split at hv
      · rename_i hc
        simp at hv; obtain ⟨rfl,rfl⟩:=hv
        refine ⟨rfl,_,v,rfl,?_,.sc hc⟩
        have hr:=run_closed (P:=P) _ hcl w
        simp only [execOp,resolve,hb]
        rw [run_bind _ _ _ (run_pure _ _)]
        simp only [invoke]
        have e : c.args.map ρ = vs.toArray:=by rw [←h2,map_toArr]
        rw [e]
        rcases hbb with rfl | rfl | rfl<;>simpa [builtin] using hr
      · cases hv
    · cases hv
  · cases hv

theorem read_assert {x : Operand} {xt t : TypeId} {ok : Bool} {dst ty pos_ af g} (h : prepOp P gl ty (.typeAssert x xt t ok) = some vo) (hρ : OpdOk gl K env ρ [x]) (hv : vop P vo env st = some (n,st1)) :
    ReadOk P K ρ ⟨dst,.typeAssert x xt t ok,ty,pos_,af,g⟩ w st st1 n:=by
  simp only [prepOp] at h
  split at h
  · rename_i x' ti hx hti
    split at h
    · cases h
    · rename_i hno
      simp only [not_or,Bool.not_eq_true,Bool.not_eq_false] at hno
      simp at h; subst h
      have hrx:=hρ x (by simp) x' hx
      have hz : VRel K (ofV ti.zero) ti.zero:=VRel.ofV K _ (zok_parts hno.2).1
      have hund : ∀ v : Value,(∀ ms,ti.desc≠.interface ms):=fun _ ms e=>by rw [e] at hno; simp [isIface] at hno
      simp only [vop] at hv
      split at hv
      · rename_i u v he
        simp at hv; obtain ⟨rfl,rfl⟩:=hv
        rw [he] at hrx
        cases hx2 : ρ x<;>rw [hx2] at hrx<;>cases hrx
        rename_i v' hvr
        by_cases hut : u = t
        · subst hut
          refine ⟨rfl,_,.tuple #[v',.bool true],rfl,?_,?_⟩
          · simp only [execOp]
            refine run_val ?_
            unfold Instr.typeAssert
            rw [hx2,run_bind _ _ _ (run_und hti)]
            cases hd : ti.desc<;>first | exact absurd hd (hund ti.zero _) | (simp; done) | (simp; rfl)
          · simp only [if_true]
            exact .tup (vs:=[v',.bool true]) (.cons hvr (.cons (.sc rfl) .nil))
        · refine ⟨rfl,_,.tuple #[ti.zero,.bool false],rfl,?_,?_⟩
          · simp only [execOp]
            refine run_val ?_
            unfold Instr.typeAssert
            rw [hx2,run_bind _ _ _ (run_und hti)]
            cases hd : ti.desc<;>first | exact absurd hd (hund ti.zero _) | (simp only [hut,if_false,if_true]; rw [run_bind _ _ _ (run_zero hti)]; rfl)
          · simp only [if_neg hut]
            exact .tup (vs:=[ti.zero,.bool false]) (.cons hz (.cons (.sc rfl) .nil))
      · rename_i u v he
        split at hv
        · rename_i hut
          simp at hv; obtain ⟨rfl,rfl⟩:=hv
          subst hut
          rw [he] at hrx
          cases hx2 : ρ x<;>rw [hx2] at hrx<;>cases hrx
          rename_i v' hvr
          refine ⟨rfl,_,v',rfl,?_,hvr⟩
          simp only [execOp]
          refine run_val ?_
          unfold Instr.typeAssert
          rw [hx2,run_bind _ _ _ (run_und hti)]
          cases hd : ti.desc<;>first | exact absurd hd (hund ti.zero _) | (simp; done) | (simp; rfl)
        · cases hv
      · rename_i he
        simp at hv; obtain ⟨rfl,rfl⟩:=hv
        rw [he] at hrx
        have e1:=VRel.sc_eq hrx
        refine ⟨rfl,_,.tuple #[ti.zero,.bool false],rfl,?_,.tup (vs:=[ti.zero,.bool false]) (.cons hz (.cons (.sc rfl) .nil))⟩
        simp only [execOp]
        refine run_val ?_
        unfold Instr.typeAssert
        rw [e1,run_bind _ _ _ (run_und hti)]
        cases hd : ti.desc<;>first | exact absurd hd (hund ti.zero _) | (simp only [if_true]; rw [run_bind _ _ _ (run_zero hti)]; rfl)
      · cases hv
  · cases h

def AllocOk (P : Program) (n0 : Nat) (wi : World) (gl : List Nat) (K : KM) (ρ : Operand→Value) (o : Oper) (w : World) (st : St) (b : Nat) (v : AV) : Prop :=
  ∃ v' w' kb,(execOp ρ o).run P w = .ok (.value v') w'∧WRel n0 wi gl (K.set b kb) st w'∧VRel (K.set b kb) v v'

theorem run_newRow (el : TypeId) (c : Array Value) : (newRow el c).run P w = .ok ⟨w.heap.size,0,none⟩ (World.push w (.cells c el)):=by
  unfold newRow newObj
  rw [Sem.run_bind]
  rfl

theorem alloc_alloc (hW : WRel n0 wi gl K st w) (hn : n0≤w.heap.size) {t : TypeId} {dst ty pos_ af g} (h : prepOp P gl ty (.alloc t) = some vo) (hk2 : vo.kind = 2) {st0 st0' : St} {v : AV} (hv : vop P vo env st0 = some (.val v,st0')) :
    ∃ x,st0' = st0++[x]∧x.mode = 0∧∀ b,st[b]? = some x→K b = none→b = st0.length→AllocOk P n0 wi gl K ρ ⟨dst,.alloc t,ty,pos_,af,g⟩ w st b v:=by
  simp only [prepOp] at h
  split at h
  · simp at h; subst h; cases hk2
  split at h
  · rename_i ti hti
    split at h
    · rename_i hz
      simp at h; subst h
      simp [vop] at hv
      obtain ⟨rfl,rfl⟩:=hv
      refine ⟨_,rfl,rfl,fun b hb hk hbl=>?_⟩
      have hc : ∀ (o : Nat) (a : AV),(ti.zs.map AV.sc)[o]? = some a→∃ v,ti.zero.cells[o]? = some v∧VRel K a v:=fun o a ha=>by
        obtain ⟨v,h1,h2⟩:=(zs_rel K hz).get o ha
        exact ⟨v,by simpa using h1,h2⟩
      have hnew:=hW.new hn (x:=⟨ti.zs.map AV.sc,0,0⟩) hk hb rfl (c:=ti.zero.cells) (el:=t) rfl hc
      refine ⟨.pointer (some ⟨w.heap.size,0,none⟩),_,_,?_,hnew,?_⟩
      · simp only [execOp]
        refine run_val ?_
        unfold Instr.alloc
        rw [run_bind _ _ _ (run_zero hti)]
        simp only
        unfold newVar
        rw [run_bind _ _ _ (run_newRow _ _)]
        rfl
      · subst hbl
        have:=VRel.ptr (K:=K.set st0.length ⟨w.heap.size,0,ti.zero.cells.size⟩) (b:=st0.length) (o:=0) (kb:=⟨w.heap.size,0,ti.zero.cells.size⟩) (by simp [KM.set])
        exact this
    · cases h
  · cases h

theorem alloc_box (hW : WRel n0 wi gl K st w) (hn : n0≤w.heap.size) {t : TypeId} {x : Operand} {dst ty pos_ af g} (h : prepOp P gl ty (.box t x) = some vo) (hρ : OpdOk gl K env ρ [x]) {st0 st0' : St} {v : AV} (hv : vop P vo env st0 = some (.val v,st0')) :
    ∃ y,st0' = st0++[y]∧y.mode = 0∧∀ b,st[b]? = some y→K b = none→b = st0.length→AllocOk P n0 wi gl K ρ ⟨dst,.box t x,ty,pos_,af,g⟩ w st b v:=by
  simp only [prepOp] at h
  split at h
  · rename_i x' hx
    simp at h; subst h
    have hrx:=hρ x (by simp) x' hx
    simp [vop] at hv
    obtain ⟨rfl,rfl⟩:=hv
    refine ⟨_,rfl,rfl,fun b hb hk hbl=>?_⟩
    have hc : ∀ (o : Nat) (a : AV),(cellsOf (x'.ev env))[o]? = some a→∃ v,(ρ x).cells[o]? = some v∧VRel K a v:=fun o a ha=>by
      obtain ⟨v,h1,h2⟩:=hrx.cells.get o ha
      exact ⟨v,by simpa using h1,h2⟩
    have hnew:=hW.new hn (x:=⟨cellsOf (x'.ev env),0,0⟩) hk hb rfl (c:=(ρ x).cells) (el:=t) rfl hc
    refine ⟨.pointer (some ⟨w.heap.size,0,none⟩),_,_,?_,hnew,?_⟩
    · simp only [execOp]
      refine run_val ?_
      unfold Instr.box newVar
      rw [run_bind _ _ _ (run_newRow _ _)]
      rfl
    · subst hbl
      have:=VRel.ptr (K:=K.set st0.length ⟨w.heap.size,0,(ρ x).cells.size⟩) (b:=st0.length) (o:=0) (kb:=⟨w.heap.size,0,(ρ x).cells.size⟩) (by simp [KM.set])
      exact this
  · cases h

theorem zeroes_get (z : List Value) (n i : Nat) (h : i < n * z.length) : (zeroes z n)[i]? = some (.sc (z[i % z.length]!)):=by
  unfold zeroes
  induction n generalizing i with
  | zero=>simp at h
  | succ n ih =>
    rw [List.replicate_succ,List.flatten_cons]
    by_cases hi : i < z.length
    · rw [List.getElem?_append_left (by simpa using hi),List.getElem?_map,Nat.mod_eq_of_lt hi]
      simp [hi]
    · rw [List.getElem?_append_right (by simp; omega)]
      simp only [List.length_map]
      rw [ih (i - z.length) (by rw [Nat.succ_mul] at h; omega)]
      congr 3
      conv=>rhs; rw [show i = (i - z.length) + z.length from by omega]
      rw [Nat.add_mod_right]
theorem zeroes_length (z : List Value) (n : Nat) : (zeroes z n).length = n * z.length:=by
  unfold zeroes
  simp
theorem zeroes_rel (K : KM) {ti : TI} (hz : ti.zok = true) (n : Nat) : VRels K (zeroes ti.zs n) ((Array.range (n * ti.size)).map (ti.zero.cells[· % ti.zero.cells.size]!)).toList:=by
  have h2:=(zok_parts hz).2
  have h1:=(zok_parts hz).1
  have hl : ti.zs.length = ti.size:=by simpa [TI.zs] using h2
  refine VRels.of_get (by rw [zeroes_length,hl]; simp) fun i a ha=>?_
  have hi : i < n * ti.size:=by
    have:=(List.getElem?_eq_some_iff.1 ha).1
    rwa [zeroes_length,hl] at this
  rw [zeroes_get _ _ _ (by rw [hl]; exact hi)] at ha
  simp at ha; subst ha
  have hs : 0 < ti.size:=Nat.pos_of_ne_zero fun e=>by rw [e] at hi; simp at hi
  have hlt : i % ti.size < ti.zero.cells.size:=by rw [h2]; exact Nat.mod_lt _ hs
  have hlt' : i % ti.size < ti.zs.length:=by rw [hl]; exact Nat.mod_lt _ hs
  refine ⟨ti.zero.cells[i % ti.zero.cells.size]!,?_,?_⟩
  · simp [hi]
  · have e : ti.zs[i % ti.zs.length]?.getD default = ti.zero.cells[i % ti.size]'hlt:=by
      rw [hl,List.getElem?_eq_getElem hlt']
      simp [TI.zs]
    have e2 : ti.zero.cells[i % ti.zero.cells.size]! = ti.zero.cells[i % ti.size]'hlt:=by
      rw [h2]; exact getElem!_pos ti.zero.cells (i % ti.size) hlt
    rw [e,e2]
    refine .sc ?_
    rw [List.all_eq_true] at h1
    exact h1 _ (by simp)

theorem alloc_bslice (hW : WRel n0 wi gl K st w) (hn : n0≤w.heap.size) {t : TypeId} {len : Nat} {ps : Array (Nat × Operand)} {dst ty pos_ af g} (h : prepOp P gl ty (.buildSlice t len ps) = some vo) (hρ : OpdOk gl K env ρ (ps.toList.map (·.2))) {st0 st0' : St} {v : AV} (hv : vop P vo env st0 = some (.val v,st0')) :
    ∃ y,st0' = st0++[y]∧y.mode = 0∧∀ b,st[b]? = some y→K b = none→b = st0.length→AllocOk P n0 wi gl K ρ ⟨dst,.buildSlice t len ps,ty,pos_,af,g⟩ w st b v:=by
  simp only [prepOp] at h
  split at h
  · rename_i ti hti
    split at h
    · rename_i e hd
      split at h
      · rename_i ei hei
        split at h
        · rename_i hc0
          obtain ⟨hz,hsz⟩:=hc0
          split at h
          · rename_i qs hqs
            simp at h; subst h
            simp only [vop,Option.map_eq_some_iff] at hv
            obtain ⟨cs,hcs,hv⟩:=hv
            simp at hv; obtain ⟨rfl,rfl⟩:=hv
            refine ⟨_,rfl,rfl,fun b hb hk hbl=>?_⟩
            obtain ⟨hl,hrel⟩:=parts_elem (K:=K) (env:=env) (ρ:=ρ) hqs hρ
            obtain ⟨out,ho,hor⟩:=fill_rel (K:=K) (place:=fun i=>some (i * ei.size,ei.size)) (partsEv env qs) (ps.toList.map fun p=>(p.1,ρ p.2)) _ _ cs (zeroes_rel K hz len) hl (fun k p q a b=>by
              obtain ⟨⟨h3,h4⟩,h5⟩:=hrel k p q a b
              exact ⟨by rw [h3,h4],h5⟩) hcs
            have hc : ∀ (o : Nat) (a : AV),cs[o]? = some a→∃ v,out[o]? = some v∧VRel K a v:=fun o a ha=>by
              obtain ⟨v,h1,h2⟩:=hor.get o ha
              exact ⟨v,by simpa using h1,h2⟩
            have hnew:=hW.new hn (x:=⟨cs,0,0⟩) hk hb rfl (c:=out) (el:=e) rfl hc
            have hcl : cs.length = len * ei.size:=by
              have key : ∀ (ps : List (Nat × Nat × AV)) (c0 out : List AV),fillA c0 ps = some out→out.length = c0.length:=by
                intro ps
                induction ps with
                | nil=>intro c0 out h; simp [fillA] at h; rw [h]
                | cons p ps ih =>
                  intro c0 out h
                  obtain ⟨off,size,v⟩:=p
                  simp only [fillA] at h
                  split at h
                  · rename_i hcc
                    rw [ih _ _ h,splice_length _ _ _ (by omega)]
                  · cases h
              rw [key _ _ _ hcs,zeroes_length]
              have:=(zok_parts hz).2
              simp [TI.zs,this]
            have hos : out.size = len * ei.size:=by rw [←hcl,hor.length]; simp
            refine ⟨.slice (some ⟨w.heap.size,0,none⟩) len len,_,_,?_,hnew,?_⟩
            · simp only [execOp]
              refine run_val ?_
              unfold Instr.buildSlice
              rw [run_bind _ _ _ (run_und hti),hd]
              simp only
              rw [run_bind _ _ _ (run_size hei)]
              rw [if_neg (by omega)]
              have hfill : (Array.map (fun x=>(x.1,ρ x.2)) ps).toList = ps.toList.map fun p=>(p.1,ρ p.2):=by simp
              by_cases h0 : len * ei.size = 0
              · rw [if_pos h0,run_bind _ _ _ (run_pure _ _)]
                have hr0 : ∀ f : Nat→Value,Array.map f (Array.range (len * ei.size)) = #[]:=fun f=>by rw [h0]; simp
                rw [hr0] at ho
                rw [hr0,hfill,ho]
                simp only
                rw [run_bind _ _ _ (run_newRow _ _)]
                rfl
              · rw [if_neg h0,run_bind _ _ _ (run_zero hei),run_bind _ _ _ (run_pure _ _),hfill,ho]
                simp only
                rw [run_bind _ _ _ (run_newRow _ _)]
                rfl
            · subst hbl
              refine .sl (kb:=⟨w.heap.size,0,out.size⟩) (by simp [KM.set]) ⟨Nat.le_refl _,fun _=>rfl,.inl ⟨rfl,?_⟩⟩
              show 0 + 0 + len * ei.size≤out.size
              omega
          · cases h
        · cases h
      · cases h
    · cases h
  · cases h

theorem alloc_mksl (hW : WRel n0 wi gl K st w) (hn : n0≤w.heap.size) {t : TypeId} {l c : Operand} {dst ty pos_ af g} (h : prepOp P gl ty (.makeSlice t l c) = some vo) (hρ : OpdOk gl K env ρ [l,c]) {st0 st0' : St} {v : AV} (hv : vop P vo env st0 = some (.val v,st0')) :
    ∃ y,st0' = st0++[y]∧y.mode = 0∧∀ b,st[b]? = some y→K b = none→b = st0.length→AllocOk P n0 wi gl K ρ ⟨dst,.makeSlice t l c,ty,pos_,af,g⟩ w st b v:=by
  simp only [prepOp] at h
  split at h
  · rename_i ti l' c' hti hl hc
    split at h
    · rename_i e hd
      split at h
      · rename_i ei hei
        split at h
        · rename_i hz0
          obtain ⟨hz,hpos⟩:=hz0
          simp at h; subst h
          simp only [vop] at hv
          split at hv
          · rename_i a b ha hb
            split at hv
            · rename_i hbd
              obtain ⟨h1,h2,h3⟩:=hbd
              simp at hv; obtain ⟨rfl,rfl⟩:=hv
              refine ⟨_,rfl,rfl,fun bb hbb hk hbl=>?_⟩
              obtain ⟨k1,e1⟩:=asNat_inv (hρ l (by simp) l' hl) ha
              obtain ⟨k2,e2⟩:=asNat_inv (hρ c (by simp) c' hc) hb
              obtain ⟨inf,hi1,hi2,hi3,hi4,hi5⟩:=ti_parts hei
              have hzr:=zeroes_rel K hz b
              have hcc : ∀ (o : Nat) (x : AV),(zeroes ei.zs b)[o]? = some x→∃ v,((Array.range (b * ei.size)).map (ei.zero.cells[· % ei.zero.cells.size]!))[o]? = some v∧VRel K x v:=fun o x hx=>by
                obtain ⟨v,g1,g2⟩:=hzr.get o hx
                exact ⟨v,by rw [←Array.getElem?_toList]; exact g1,g2⟩
              have hnew:=hW.new hn (x:=⟨zeroes ei.zs b,0,0⟩) hk hbb rfl (c:=(Array.range (b * ei.size)).map (ei.zero.cells[· % ei.zero.cells.size]!)) (el:=e) rfl hcc
              have hw1 : IntKind.i64.wrap (a : Int) = a:=IntWalk.i64_in _ (by omega)
              have hw2 : IntKind.i64.wrap (b : Int) = b:=IntWalk.i64_in _ (by omega)
              refine ⟨.slice (some ⟨w.heap.size,0,none⟩) a b,_,_,?_,hnew,?_⟩
              · simp only [execOp]
                refine run_val ?_
                unfold Instr.makeSlice
                rw [run_bind _ _ _ (run_und hti),hd]
                simp only
                rw [e1,e2]
                unfold asInt
                rw [run_bind _ _ w (a:=(a : Int)) (w':=w) rfl,run_bind _ _ w (a:=(b : Int)) (w':=w) rfl,run_bind _ _ _ (run_typeInfo hi1)]
                simp only [hw1,hw2,hi4]
                have hb1 : (ei.bytes : Int) * (b : Int)≤1000000000:=by
                  rw [Int.mul_comm,← Int.natCast_mul]; omega
                have t1 : decide ((b : Int) < 0) = false:=decide_eq_false (by omega)
                have t2 : decide ((ei.bytes : Int) * (b : Int) > 2 ^ 48) = false:=decide_eq_false (by omega)
                have t3 : decide ((a : Int) < 0) = false:=decide_eq_false (by omega)
                have t4 : decide ((a : Int) > (b : Int)) = false:=decide_eq_false (by omega)
                rw [t1,t2,t3,t4,if_neg (by simp only [Bool.or_self,Bool.false_eq_true,not_false_eq_true])]
                simp only [Int.toNat_natCast]
                unfold askRoom roomBytes
                rw [if_neg (by omega),run_bind _ _ _ (run_pure _ _),run_bind _ _ _ (run_size hei)]
                by_cases h0 : b * ei.size = 0
                · simp only [h0,if_true]
                  rw [run_bind _ _ _ (run_pure _ _)]
                  have hr0 : ∀ f : Nat→Value,Array.map f (Array.range 0) = #[]:=fun f=>by simp
                  rw [hr0,hr0,run_bind _ _ _ (run_newRow _ _)]
                  rfl
                · simp only [h0,if_false]
                  rw [run_bind _ _ _ (run_zero hei),run_bind _ _ _ (run_pure _ _),run_bind _ _ _ (run_newRow _ _)]
                  rfl
              · subst hbl
                refine .sl (kb:=⟨w.heap.size,0,((Array.range (b * ei.size)).map (ei.zero.cells[· % ei.zero.cells.size]!)).size⟩) (by simp [KM.set]) ⟨h1,?_,.inl ⟨rfl,?_⟩⟩
                · intro hf
                  have : a = b:=by simpa using hf
                  omega
                show 0 + 0 + b * ei.size≤_
                simp
            · cases hv
          · cases hv
        · cases h
      · cases h
    · cases h
  · cases h
end
end Go.VX
end
section
namespace Go.VX
open Go.RowKit (Below)

structure Fr (K K' : KM) (st st1 : St) : Prop where
  le : KM.le K K'
  len : st.length≤st1.length
  old : ∀ b,b < st.length→K' b = K b
  un : ∀ b,b < st.length→K b = none→st1[b]? = st[b]?
theorem Fr.refl (K : KM) (st : St) : Fr K K st st:=⟨KM.le_refl K,Nat.le_refl _,fun _ _=>rfl,fun _ _ _=>rfl⟩
theorem Fr.trans {K K1 K2 : KM} {st st1 st2 : St} (h : Fr K K1 st st1) (h' : Fr K1 K2 st1 st2) : Fr K K2 st st2 where
  le:=KM.le_trans h.le h'.le
  len:=Nat.le_trans h.len h'.len
  old:=fun b hb=>(h'.old b (Nat.lt_of_lt_of_le hb h.len)).trans (h.old b hb)
  un:=fun b hb hk=>(h'.un b (Nat.lt_of_lt_of_le hb h.len) ((h.old b hb).trans hk)).trans (h.un b hb hk)

section
variable {P : Program} {n0 : Nat} {wi : World} {gl : List Nat} {K : KM} {st st1 : St} {w : World} {env : Env} {ρ : Operand→Value} {n : VN} {vo : VOp}

def NextRel (K : KM) : VN→Next→Prop
  | .val v,n'=>∃ v',n' = .value v'∧VRel K v v'
  | .skip,n'=>n' = .skip
  | _,_=>False
def HeavyOk (P : Program) (n0 : Nat) (wi : World) (gl : List Nat) (K : KM) (ρ : Operand→Value) (o : Oper) (w : World) (st st1 : St) (n : VN) : Prop :=
  ∃ K' n' w',(execOp ρ o).run P w = .ok n' w'∧NextRel K' n n'∧WRel n0 wi gl K' st1 w'∧Fr K K' st st1

theorem WRel.none (hW : WRel n0 wi gl K st w) : K st.length = none:=by
  cases h : K st.length with
  | none=>rfl
  | some kb=>have:=hW.dom _ _ h; omega

theorem put_parts {b o : Nat} {cs : List AV} {st' : St} (h : st.put b o cs = some st') : ∃ x,st[b]? = some x∧x.mode = 0∧o + cs.length≤x.cells.length∧cs.all AV.isCell = true∧st' = st.set b { x with cells:=splice x.cells o cs,ver:=x.ver + 1 }:=by
  unfold St.put at h
  split at h
  · rename_i x hx
    split at h
    · rename_i hc
      simp at h
      exact ⟨x,hx,hc.1,hc.2.1,hc.2.2,h.symm⟩
    · cases h
  · cases h
theorem all_cellVal : ∀ {cs : List AV} {vs : List Value},VRels K cs vs→cs.all AV.isCell = true→∀ v ∈ vs,cellVal v = true
  | _,_,.nil,_=>fun v hv=>by cases hv
  | _,_,.cons h h2,hc=>fun v hv=>by
    simp only [List.all_cons,Bool.and_eq_true] at hc
    cases hv with
    | head=>exact h.cellVal hc.1
    | tail _ hv=>exact all_cellVal h2 hc.2 v hv

theorem run_put (hW : WRel n0 wi gl K st w) {b o : Nat} {kb : KB} {cs : List AV} {vs : List Value} {st' : St} (hb : K b = some kb) (hr : VRels K cs vs) (hp : st.put b o cs = some st') :
    ∃ w',(storeCells ⟨kb.rb,kb.ro + o,none⟩ vs).run P w = .ok () w'∧WRel n0 wi gl K st' w'∧Fr K K st st':=by
  obtain ⟨x,hx,hm,hl,hc,rfl⟩:=put_parts hp
  obtain ⟨h1,c,el,hh,hs⟩:=hW.live b x kb hx hm hb
  have hfit:=hW.fit b x kb hx (by rw [hm]; decide) hb
  have hlen:=hr.length
  obtain ⟨w',c',hrun,hob,hget⟩:=run_storeCells (P:=P) kb.rb (el:=el) vs 0 (kb.ro + o) w c hh (by omega) (all_cellVal hr hc)
  refine ⟨w',hrun,?_,KM.le_refl K,by simp,fun _ _=>rfl,fun b' hb' hk=>?_⟩
  · refine hW.write hb hx hm hob hs (splice_length _ _ _ hl) hm fun i a ha=>?_
    rw [splice_get _ _ _ hl] at ha
    rw [hget]
    by_cases hi : o≤i∧i < o + cs.length
    · rw [if_pos hi] at ha
      rw [if_pos (by omega)]
      obtain ⟨v,hv,hrel⟩:=hr.get _ ha
      exact ⟨v,by rw [show kb.ro + i - (kb.ro + o + 0) = i - o from by omega]; exact hv,hrel⟩
    · rw [if_neg hi] at ha
      rw [if_neg (by omega)]
      obtain ⟨v,hv,hrel⟩:=hW.cell b x kb hx (by rw [hm]; decide) hb i a ha
      exact ⟨v,by simpa [World.cell?,hh] using hv,hrel⟩
  · have hne : b'≠b:=fun e=>by rw [e,hb] at hk; cases hk
    rw [List.getElem?_set_ne (Ne.symm hne)]

theorem heavy_store (hW : WRel n0 wi gl K st w) {t : TypeId} {a x : Operand} {dst ty pos_ af g} (h : prepOp P gl ty (.store t a x) = some vo) (hρ : OpdOk gl K env ρ [a,x]) (hv : vop P vo env st = some (n,st1)) :
    HeavyOk P n0 wi gl K ρ ⟨dst,.store t a x,ty,pos_,af,g⟩ w st st1 n:=by
  simp only [prepOp] at h
  split at h
  · rename_i ti a' x' hti ha hx
    simp at h; subst h
    have hra:=hρ a (by simp) a' ha
    have hrx:=hρ x (by simp) x' hx
    simp only [vop] at hv
    split at hv
    · rename_i b o he
      split at hv
      · rename_i hl
        simp only [Option.map_eq_some_iff] at hv
        obtain ⟨st',hp,e⟩:=hv
        simp at e; obtain ⟨rfl,rfl⟩:=e
        rw [he] at hra
        obtain ⟨kb,hkb,e1⟩:=ptr_inv hra
        have hcs:=hrx.cells
        obtain ⟨w',hr,hW',hf⟩:=run_put (P:=P) hW hkb hcs hp
        refine ⟨K,.skip,w',?_,rfl,hW',hf⟩
        simp only [execOp]
        have hs : (Instr.storeAt t (ρ a) (ρ x)).run P w = .ok () w':=by
          unfold Instr.storeAt
          rw [e1,run_bind _ _ _ (sureAddr_ptr _)]
          unfold storeVar
          rw [run_bind _ _ _ (run_size hti),if_neg (by have:=hcs.length; simp at this; omega)]
          exact hr
        rw [run_bind _ _ _ hs]
        rfl
      · cases hv
    · cases hv
  · cases h

theorem src_rel (hW : WRel n0 wi gl K st w) {esz m : Nat} {y : AV} {v : Value} {cs : List AV} (hr : VRel K y v) (hc : srcCells st esz m y = some cs) :
    ∃ c : Array Value,(∀ w2 : World,w2.heap = w.heap→(Builtin.firstCells esz m v).run P w2 = .ok c w2)∧VRels K cs c.toList:=by
  unfold srcCells at hc
  split at hc
  · rename_i b o len esz' full
    split at hc
    · rename_i hm
      obtain ⟨hm,he⟩:=hm
      subst he
      obtain ⟨kb,a,cap,hkb,hok,e1⟩:=sl_inv hr
      subst e1
      obtain ⟨hl,vs,hrel,hcell⟩:=hW.cells hkb hc
      have hlen : vs.length = m * esz':=by rw [←hrel.length,hl]
      refine ⟨vs.toArray,fun w2 hw2=>?_,by simpa using hrel⟩
      simp only [Builtin.firstCells]
      rcases hok.2.2 with ⟨ha,_⟩ | ⟨hz,_⟩
      · rw [ha]
        exact run_loadCells (fun j v hv=>by have:=hcell j v hv; unfold World.cell? at this ⊢; rw [hw2]; exact this) hlen
      · have : m = 0:=by omega
        subst this
        simp at hlen
        subst hlen
        simp [loadCells,loadCellsFrom,run_pure]
    · cases hc
  · split at hc
    · rename_i hm
      simp at hc; subst hc
      rw [VRel.sc_eq hr]
      exact ⟨#[],fun _ _=>rfl,.nil⟩
    · cases hc
  · rename_i s
    split at hc
    · rename_i hm
      simp at hc; subst hc
      rw [VRel.sc_eq hr]
      refine ⟨(s.extract 0 m).data.map fun b=>.int .u8 b.toNat,fun _ _=>rfl,?_⟩
      have : ((s.extract 0 m).data.map fun b=>Value.int .u8 b.toNat).toList = (s.data.toList.take m).map fun b=>Value.int .u8 b.toNat:=by
        simp [ByteArray.extract,ByteArray.copySlice,Array.toList_extract,List.extract_eq_take_drop]
      rw [this]
      have key : ∀ l : List UInt8,VRels K (l.map fun b=>AV.sc (.int .u8 b.toNat)) (l.map fun b=>Value.int .u8 b.toNat):=by
        intro l
        induction l with
        | nil=>exact .nil
        | cons b l ih=>exact .cons (.sc rfl) ih
      have:=key (s.data.toList.take m)
      simpa using this
    · cases hc
  · cases hc

theorem growBy_le (nl : Nat) : ∀ (r c : Nat),c≤2 * nl + 192→Builtin.growBy nl r c≤2 * nl + 192
  | 0,c,h=>h
  | r + 1,c,h=>by
    unfold Builtin.growBy
    split
    · exact h
    · exact growBy_le nl r _ (by omega)
theorem nextcap_le (nl oc : Nat) (h : oc < nl) : Builtin.nextslicecap nl oc≤2 * nl + 512:=by
  unfold Builtin.nextslicecap
  split
  · omega
  · split
    · omega
    · have:=growBy_le nl 4 oc (by omega)
      omega

section
variable {c : Call} {s t : TypeId} {ti tj : TI} {e : TypeId} {ei : TI}
theorem run_append_fit (hs : c.argTypes[0]? = some s) (ht : c.argTypes[1]? = some t) (hti : tiOf P s = some ti) (htj : tiOf P t = some tj)
    (hd : ti.desc = .slice e) (hint : isInt tj.desc = false) (hei : tiOf P e = some ei) {base : Option Addr} {len cap m : Nat} {vy : Value} (hm : (Builtin.lenOf vy).run P w = .ok m w) (hle : len + m≤cap)
    {new : Array Value} (hnew : (Builtin.firstCells ei.size m vy).run P w = .ok new w) {w' : World} (hst : ∀ a,base = some a→(storeCells (a.add (len * ei.size)) new.toList).run P w = .ok () w') (hno : base = none→w' = w) (ty : TypeId) :
    (Builtin.append_ c.argTypes ty #[.slice base len cap,vy]).run P w = .ok (.slice base (len + m) cap) w':=by
  unfold Builtin.append_
  simp only [hs,ht,List.getElem?_toArray,List.getElem?_cons_zero,List.getElem?_cons_succ]
  rw [run_bind _ _ _ (run_und hti),hd]
  simp only
  rw [run_bind _ _ _ (run_size hei),run_bind _ _ _ (run_und htj)]
  refine (run_bind _ _ w (a:=false) (w':=w) (by cases hdj : tj.desc<;>first | rfl | (rw [hdj] at hint; simp [isInt] at hint))).trans ?_
  simp only [Bool.false_eq_true,if_false,Bool.not_false,if_true]
  rw [run_bind _ _ _ hm,if_pos hle,run_bind _ _ _ hnew]
  cases base with
  | none=>rw [hno rfl]; rfl
  | some a =>
    simp only
    rw [run_bind _ _ _ (hst a rfl)]
    rfl

theorem run_append_grow (hs : c.argTypes[0]? = some s) (ht : c.argTypes[1]? = some t) (hti : tiOf P s = some ti) (htj : tiOf P t = some tj)
    (hd : ti.desc = .slice e) (hint : isInt tj.desc = false) (hei : tiOf P e = some ei) {base : Option Addr} {len cap m : Nat} {vy : Value} (hm : (Builtin.lenOf vy).run P w = .ok m w) (hgt : cap < len + m)
    (hsz : (len + m) * (ei.bytes + 1)≤1000000000)
    {old new : Array Value} (hold : ∀ n,(Builtin.firstCells ei.size len (.slice base len cap)).run P { w with drawn:=n } = .ok old { w with drawn:=n }) (hnew : ∀ n,(Builtin.firstCells ei.size m vy).run P { w with drawn:=n } = .ok new { w with drawn:=n }) (ty : TypeId) :
    ∃ nc,len + m≤nc∧(Builtin.append_ c.argTypes ty #[.slice base len cap,vy]).run P w =
      .ok (.slice (some ⟨w.heap.size,0,none⟩) (len + m) nc) (World.push { w with drawn:=w.drawn + 1 } (.cells (old++new++Builtin.zeroCells ei.zero.cells (nc - (len + m))) e)):=by
  obtain ⟨inf,hi1,hi2,hi3,hi4,hi5⟩:=ti_parts hei
  have hcap:=nextcap_le (len + m) cap hgt
  have hneed : len + m≤1000000000:=Nat.le_trans (Nat.le_mul_of_pos_right _ (by omega)) hsz
  have hb9 : ei.bytes≤1000000000:=by
    have h1 : 1 * (ei.bytes + 1)≤(len + m) * (ei.bytes + 1):=Nat.mul_le_mul_right _ (by omega)
    omega
  have hprod : Builtin.nextslicecap (len + m) cap * ei.bytes≤2 ^ 48:=by
    have h1 : Builtin.nextslicecap (len + m) cap * ei.bytes≤(2 * (len + m) + 512) * ei.bytes:=Nat.mul_le_mul_right _ hcap
    have h2 : (2 * (len + m) + 512) * ei.bytes = 2 * ((len + m) * ei.bytes) + 512 * ei.bytes:=by rw [Nat.add_mul,Nat.mul_assoc]
    have h3 : (len + m) * ei.bytes≤(len + m) * (ei.bytes + 1):=Nat.mul_le_mul_left _ (by omega)
    omega
  have hmax : ¬ (((len + m : Nat) : Int) > IntKind.i64.max):=by
    have : IntKind.i64.max = 9223372036854775807:=by decide
    rw [this]; omega
  refine ⟨(len + m) + w.tape w.drawn (.appendCap (len + m) cap e) % (2 ^ 63 - (len + m)),by omega,?_⟩
  unfold Builtin.append_
  simp only [hs,ht,List.getElem?_toArray,List.getElem?_cons_zero,List.getElem?_cons_succ]
  rw [run_bind _ _ _ (run_und hti),hd]
  simp only
  rw [run_bind _ _ _ (run_size hei),run_bind _ _ _ (run_und htj)]
  refine (run_bind _ _ w (a:=false) (w':=w) (by cases hdj : tj.desc<;>first | rfl | (rw [hdj] at hint; simp [isInt] at hint))).trans ?_
  simp only [Bool.false_eq_true,if_false,Bool.not_false,if_true]
  rw [run_bind _ _ _ hm,if_neg (by omega),run_bind _ _ _ (run_typeInfo hi1)]
  rw [if_neg (fun h=>hmax h.1),run_bind _ _ _ (run_typeInfo hi1),hi4,if_neg (by omega)]
  rw [run_bind _ _ w (a:=(len + m) + w.tape w.drawn (.appendCap (len + m) cap e) % (2 ^ 63 - (len + m))) (w':={ w with drawn:=w.drawn + 1 }) (by
    unfold choose
    simp [Sem.run,Question.forced,Question.cut])]
  rw [run_bind _ _ _ (run_typeInfo hi1)]
  have hask : ∀ (k : Nat) (W : World),(askRoom k).run P W = .ok () W:=fun k W=>by
    unfold askRoom
    split<;>rfl
  rw [run_bind _ _ _ (hask _ _),run_bind _ _ _ (hold _),run_bind _ _ _ (hnew _),run_bind _ _ _ (run_zero hei),run_bind _ _ _ (run_newRow _ _)]
  rfl
end


theorem heavy_append (hW : WRel n0 wi gl K st w) (hn : n0≤w.heap.size) {c : Call} {x y : Operand} {x' y' : VOpd} {s t : TypeId} {ti tj : TI} {e : TypeId} {ei : TI} {dst ty pos_ af g}
    (hb : c.callee = .builtin .append) (hs : c.argTypes[0]? = some s) (ht : c.argTypes[1]? = some t) (hti : tiOf P s = some ti) (htj : tiOf P t = some tj)
    (hd : ti.desc = .slice e) (hint : isInt tj.desc = false) (hei : tiOf P e = some ei) (hzok : ei.zok = true) (ha : c.args.toList = [x,y]) (hx : po gl x = some x') (hy : po gl y = some y')
    (hρ : OpdOk gl K env ρ c.operands.toList) (hv : vop P (.append ei.size ei.bytes x' y') env st = some (n,st1)) : HeavyOk P n0 wi gl K ρ ⟨dst,.call c,ty,pos_,af,g⟩ w st st1 n:=by
  have hrx:=hρ x (by simp [Call.operands,hb,ha]) x' hx
  have hry:=hρ y (by simp [Call.operands,hb,ha]) y' hy
  have haa : c.args = #[x,y]:=by rw [←Array.toList_inj,ha]
  have hexec : ∀ {v : Value} {w' : World},(Builtin.append_ c.argTypes ty #[ρ x,ρ y]).run P w = .ok v w'→(execOp ρ ⟨dst,.call c,ty,pos_,af,g⟩).run P w = .ok (.value v) w':=by
    intro v w' h
    simp only [execOp,resolve,hb,haa]
    rw [run_bind _ _ _ (run_pure _ _)]
    simp only [invoke,builtin]
    refine run_val ?_
    simpa using h
  simp only [vop] at hv
  split at hv
  · rename_i len m hlx hly
    split at hv
    · rename_i hsz
      split at hv
      · rename_i old new hold hnew
        have hlm:=srcLen_rel (P:=P) (w:=w) hry hly
        obtain ⟨cn,hcn,hcnr⟩:=src_rel (P:=P) hW hry hnew
        obtain ⟨co,hco,hcor⟩:=src_rel (P:=P) hW hrx hold
        have hcnl:=hcnr.length
        have hcol:=hcor.length
        -- the lengths of what is read
        have hlenOf : ∀ {k : Nat} {z : AV} {cs : List AV},srcCells st ei.size k z = some cs→cs.length = k * ei.size:=by
          intro k z cs h
          unfold srcCells at h
          split at h
          · split at h
            · rename_i hc
              unfold St.atN at h
              split at h
              · split at h
                · cases h
                · split at h
                  · simp at h; subst h; simp; omega
                  · cases h
              · cases h
            · cases h
          · split at h
            · rename_i hk
              simp at h; subst h; subst hk; simp
            · cases h
          · split at h
            · rename_i s0 hk
              simp at h; subst h
              rw [hk.2]
              have h1:=hk.1
              simp only [ByteArray.size] at h1
              simp
              omega
            · cases h
          · cases h
        -- a new block
        have grown : ∀ (stK : St) (base : Option Addr) (cap : Nat),WRel n0 wi gl K stK w→stK.length = st.length→(∀ b,b < st.length→K b = none→stK[b]? = st[b]?)→ρ x = .slice base len cap→cap < len + m →
            st1 = stK++[⟨old++new,0,0⟩]→n = .val (.sl st.length 0 (len + m) ei.size false)→old.length = len * ei.size→new.length = m * ei.size→HeavyOk P n0 wi gl K ρ ⟨dst,.call c,ty,pos_,af,g⟩ w st st1 n:=by
          intro stK base cap hWK hlK hun hxs hgt e1 e2 hol hnl
          subst e1; subst e2
          have hcol2 : co.size = len * ei.size:=by rw [←hol,hcol]; simp
          have hcnl2 : cn.size = m * ei.size:=by rw [←hnl,hcnl]; simp
          obtain ⟨nc,hnc,hrun⟩:=run_append_grow (P:=P) (w:=w) hs ht hti htj hd hint hei hlm hgt hsz (fun k=>by rw [←hxs]; exact hco _ rfl) (fun k=>hcn _ rfl) ty (base:=base) (cap:=cap) (len:=len)
          have hmore:=(hWK.drawn (w.drawn + 1)).more ⟨old++new,0,0⟩
          have hb1 : (stK++[(⟨old++new,0,0⟩ : Box)])[st.length]? = some ⟨old++new,0,0⟩:=by rw [←hlK]; simp
          have hcells : ∀ (o : Nat) (a : AV),(old++new)[o]? = some a→∃ v,(co++cn++Builtin.zeroCells ei.zero.cells (nc - (len + m)))[o]? = some v∧VRel K a v:=fun o a hoa=>by
            obtain ⟨v,hv,hr⟩:=(hcor.append hcnr).get o hoa
            refine ⟨v,?_,hr⟩
            have hlt : o < (co++cn).size:=by
              have:=(List.getElem?_eq_some_iff.1 hv).1
              simpa using this
            rw [Array.getElem?_append_left hlt,← Array.getElem?_toList]
            simpa using hv
          have hnone:=hW.none
          have hnew2:=hmore.new (by simpa using hn) (b:=st.length) (x:=⟨old++new,0,0⟩) hnone hb1 rfl (el:=e) rfl hcells
          have hzl : (Builtin.zeroCells ei.zero.cells (nc - (len + m))).size = (nc - (len + m)) * ei.size:=by
            unfold Builtin.zeroCells
            simp [(zok_parts hzok).2]
          refine ⟨_,_,_,hexec (by rw [hxs]; exact hrun),⟨_,rfl,?_⟩,hnew2,⟨KM.le_set hnone,by simp [hlK],fun b hb=>?_,fun b hb hk=>?_⟩⟩
          · refine .sl (kb:=⟨w.heap.size,0,_⟩) (by simp [KM.set]; rfl) ⟨hnc,fun hf=>(by cases hf),.inl ⟨rfl,?_⟩⟩
            simp only [Array.size_append,hzl,hcol2,hcnl2]
            have : nc * ei.size = len * ei.size + m * ei.size + (nc - (len + m)) * ei.size:=by
              rw [←Nat.add_mul,← Nat.add_mul]; congr 1; omega
            omega
          · unfold KM.set
            rw [if_neg (by omega)]
          · rw [List.getElem?_append_left (by omega)]
            exact hun b hb hk
        split at hv
        · rename_i b o len' esz' full he
          rw [he] at hrx hold hlx
          simp [srcLen] at hlx; subst hlx
          obtain ⟨kb,ad,cap,hkb,hok,exs⟩:=sl_inv hrx
          have hol:=hlenOf hold
          have hnl:=hlenOf hnew
          split at hv
          · rename_i hm0
            simp at hv; obtain ⟨rfl,rfl⟩:=hv
            subst hm0
            refine ⟨K,.value (.slice (some ad) len' cap),w,hexec ?_,⟨_,rfl,.sl hkb hok⟩,hW,Fr.refl K st⟩
            rw [exs]
            have hc0 : cn = #[]:=by
              simp at hnl
              subst hnl
              simp at hcnl
              exact Array.eq_empty_of_size_eq_zero (by omega)
            refine run_append_fit hs ht hti htj hd hint hei hlm (by have:=hok.1; omega) (hcn w rfl) (fun a _=>by rw [hc0]; rfl) (fun h=>by cases h) ty
          · rename_i hm0
            split at hv
            · rename_i hfull
              simp at hv
              have hcap:=hok.2.1 hfull
              exact grown st (some ad) cap hW rfl (fun _ _ _=>rfl) exs (by omega) hv.2.symm hv.1.symm hol hnl
            · split at hv
              · rename_i hmode
                obtain ⟨hmode,hcellv⟩:=hmode
                simp at hv
                obtain ⟨bx,hbx,hbm⟩ : ∃ bx,st[b]? = some bx∧bx.mode = 0:=by
                  cases hq : st[b]? with
                  | none=>rw [hq] at hmode; simp at hmode
                  | some bx=>rw [hq] at hmode; simp at hmode; exact ⟨bx,rfl,hmode⟩
                have hkl : (st.kill b).length = st.length:=by unfold St.kill; rw [hbx]; simp
                by_cases hfit : len' + m≤cap
                · -- where it lies
                  have had : ad = ⟨kb.rb,kb.ro + o,none⟩∧kb.ro + o + cap * esz'≤kb.rsz:=by
                    rcases hok.2.2 with h | ⟨h1,h2⟩
                    · exact h
                    · omega
                  have hesz : esz' = ei.size:=by
                    unfold srcCells at hold
                    simp only at hold
                    split at hold
                    · rename_i h; exact h.2
                    · cases hold
                  subst hesz
                  obtain ⟨hn1,cc,el,hh,hcs⟩:=hW.live b bx kb hbx hbm hkb
                  have hcap2 : (len' + m) * ei.size≤cap * ei.size:=Nat.mul_le_mul_right _ hfit
                  rw [Nat.add_mul] at hcap2
                  have hcnl2 : cn.toList.length = m * ei.size:=by rw [←hnl,hcnl]
                  obtain ⟨w',c',hrun,hob,hget⟩:=run_storeCells (P:=P) kb.rb (el:=el) cn.toList 0 (kb.ro + o + len' * ei.size) w cc hh (by omega) (all_cellVal hcnr hcellv)
                  have holdc : st.atN b o (len' * ei.size) = some old:=by
                    unfold srcCells at hold
                    simp only at hold
                    split at hold
                    · exact hold
                    · cases hold
                  obtain ⟨_,vs,hvs,hvc⟩:=hW.cells hkb holdc
                  have hvl:=hvs.length
                  have hreg:=hW.regrow (x':=⟨old++new,0,0⟩) (o:=o) hkb hbx hbm hW.none hob hcs (by simp; omega) rfl (fun i a hi=>by
                    rw [hget]
                    by_cases hio : i < old.length
                    · rw [if_neg (by omega)]
                      simp only [] at hi
                      rw [List.getElem?_append_left hio] at hi
                      obtain ⟨v,hv1,hv2⟩:=hvs.get i hi
                      have:=hvc i v hv1
                      exact ⟨v,by simpa [World.cell?,hh] using this,hv2⟩
                    · simp only [] at hi
                      rw [List.getElem?_append_right (by omega)] at hi
                      have hlt:=(List.getElem?_eq_some_iff.1 hi).1
                      rw [if_pos (by omega)]
                      obtain ⟨v,hv1,hv2⟩:=hcnr.get _ hi
                      exact ⟨v,by rw [show kb.ro + o + i - (kb.ro + o + len' * ei.size + 0) = i - old.length from by omega]; exact hv1,hv2⟩)
                  rw [←hv.2,← hv.1]
                  refine ⟨_,.value (.slice (some ad) (len' + m) cap),w',hexec ?_,⟨_,rfl,.sl (kb:=⟨kb.rb,kb.ro + o,kb.rsz⟩) (by simp [KM.set]) ⟨hfit,fun h=>(by cases h),.inl ⟨by rw [had.1]; rfl,by simpa using had.2⟩⟩⟩,hreg,
                    ⟨KM.le_set hW.none,by simp [hkl],fun b' hb'=>by unfold KM.set; rw [if_neg (by omega)],fun b' hb' hk'=>?_⟩⟩
                  · rw [exs]
                    refine run_append_fit hs ht hti htj hd hint hei hlm hfit (hcn w rfl) (fun a haa=>?_) (fun h=>by cases h) ty
                    simp at haa; subst haa
                    rw [had.1,add_eq]
                    exact hrun
                  · have hne : b'≠b:=fun h=>by rw [h,hkb] at hk'; cases hk'
                    rw [List.getElem?_append_left (by omega)]
                    unfold St.kill
                    rw [hbx]
                    simp only
                    rw [List.getElem?_set_ne (Ne.symm hne)]
                · refine grown (st.kill b) (some ad) cap (hW.killed b) hkl (fun b' hb' hk'=>?_) exs (by omega) hv.2.symm hv.1.symm hol hnl
                  have hne : b'≠b:=fun h=>by rw [h,hkb] at hk'; cases hk'
                  unfold St.kill
                  rw [hbx]
                  simp only
                  rw [List.getElem?_set_ne (Ne.symm hne)]
              · cases hv
        · rename_i he
          rw [he] at hrx hold hlx
          simp [srcLen] at hlx; subst hlx
          have exs:=VRel.sc_eq hrx
          have hol:=hlenOf hold
          have hnl:=hlenOf hnew
          split at hv
          · rename_i hm0
            simp at hv; obtain ⟨rfl,rfl⟩:=hv
            subst hm0
            refine ⟨K,.value (.slice none 0 0),w,hexec ?_,⟨_,rfl,.sc rfl⟩,hW,Fr.refl K st⟩
            rw [exs]
            exact run_append_fit hs ht hti htj hd hint hei hlm (Nat.le_refl _) (hcn w rfl) (fun a h=>by cases h) (fun _=>rfl) ty
          · rename_i hm0
            simp at hv
            have hold0 : old = []:=by
              have : old.length = 0:=by rw [hol]; simp
              exact List.eq_nil_of_length_eq_zero this
            exact grown st none 0 hW rfl (fun _ _ _=>rfl) exs (by omega) (by rw [hold0]; exact hv.2.symm) (by rw [Nat.zero_add]; exact hv.1.symm) hol hnl
        · cases hv
      · cases hv
    · cases hv
  · cases hv

theorem heavy_copy (hW : WRel n0 wi gl K st w) {c : Call} {x y : Operand} {x' y' : VOpd} {s : TypeId} {ti : TI} {e : TypeId} {ei : TI} {dst ty pos_ af g}
    (hb : c.callee = .builtin .copy) (hs : c.argTypes[0]? = some s) (hti : tiOf P s = some ti) (hd : ti.desc = .slice e) (hei : tiOf P e = some ei) (ha : c.args.toList = [x,y]) (hx : po gl x = some x') (hy : po gl y = some y')
    (hρ : OpdOk gl K env ρ c.operands.toList) (hv : vop P (.copy ei.size x' y') env st = some (n,st1)) : HeavyOk P n0 wi gl K ρ ⟨dst,.call c,ty,pos_,af,g⟩ w st st1 n:=by
  have hrx:=hρ x (by simp [Call.operands,hb,ha]) x' hx
  have hry:=hρ y (by simp [Call.operands,hb,ha]) y' hy
  have haa : c.args = #[x,y]:=by rw [←Array.toList_inj,ha]
  have hexec : ∀ {v : Value} {w' : World},(Builtin.copy_ c.argTypes ty #[ρ x,ρ y]).run P w = .ok v w'→(execOp ρ ⟨dst,.call c,ty,pos_,af,g⟩).run P w = .ok (.value v) w':=by
    intro v w' h
    simp only [execOp,resolve,hb,haa]
    rw [run_bind _ _ _ (run_pure _ _)]
    simp only [invoke,builtin]
    refine run_val ?_
    simpa using h
  simp only [vop] at hv
  split at hv
  · rename_i b o len esz' full m he hm
    split at hv
    · rename_i cs hcs
      simp only [Option.map_eq_some_iff] at hv
      obtain ⟨st',hp,hv⟩:=hv
      simp at hv; obtain ⟨rfl,rfl⟩:=hv
      rw [he] at hrx
      obtain ⟨kb,ad,cap,hkb,hok,exs⟩:=sl_inv hrx
      obtain ⟨cn,hcn,hcr⟩:=src_rel (P:=P) hW hry hcs
      have hlm:=srcLen_rel (P:=P) (w:=w) hry hm
      have hmin : Nat.min m len = min m len:=rfl
      have hbase : ∃ w',(storeCells ad cn.toList).run P w = .ok () w'∧WRel n0 wi gl K st' w'∧Fr K K st st':=by
        rcases hok.2.2 with ⟨h1,_⟩ | ⟨h1,_⟩
        · rw [h1]
          exact run_put (P:=P) hW hkb hcr hp
        · have h0 : min m len = 0:=by omega
          obtain ⟨bx,hbx,hbm,hl,hc,e⟩:=put_parts hp
          have hcs0 : cs = []:=by
            rw [h0] at hcs
            unfold srcCells at hcs
            split at hcs
            · split at hcs
              · unfold St.atN at hcs
                split at hcs
                · split at hcs
                  · cases hcs
                  · split at hcs
                    · simpa using hcs.symm
                    · cases hcs
                · cases hcs
              · cases hcs
            · split at hcs
              · simpa using hcs.symm
              · cases hcs
            · split at hcs
              · simpa using hcs.symm
              · cases hcs
            · cases hcs
          subst hcs0
          have hcn0 : cn.toList = []:=by cases hcr' : cn.toList with
            | nil=>rfl
            | cons a l=>rw [hcr'] at hcr; cases hcr
          rw [hcn0]
          -- nothing is written,but the version
          obtain ⟨hn1,cc,el,hh,hsz⟩:=hW.live b bx kb hbx hbm hkb
          have hob : OneBlock kb.rb w w cc cc el:=⟨rfl,rfl,rfl,rfl,fun _ _=>rfl,hh,rfl⟩
          refine ⟨w,rfl,?_,KM.le_refl K,by rw [e]; simp,fun _ _=>rfl,fun b' hb' hk'=>?_⟩
          · rw [e]
            refine hW.write hkb hbx hbm hob hsz (splice_length _ _ _ hl) hbm fun i a ha=>?_
            rw [splice_get _ _ _ hl,if_neg (by simp)] at ha
            obtain ⟨v,hv1,hv2⟩:=hW.cell b bx kb hbx (by rw [hbm]; decide) hkb i a ha
            exact ⟨v,by simpa [World.cell?,hh] using hv1,hv2⟩
          · have hne : b'≠b:=fun h=>by rw [h,hkb] at hk'; cases hk'
            rw [e,List.getElem?_set_ne (Ne.symm hne)]
      obtain ⟨w',hst,hW',hf⟩:=hbase
      refine ⟨K,.value (.int .i64 (min m len : Nat)),w',hexec ?_,⟨_,rfl,.sc rfl⟩,hW',hf⟩
      rw [exs]
      unfold Builtin.copy_
      simp only [hs,List.getElem?_toArray,List.getElem?_cons_zero,List.getElem?_cons_succ]
      rw [run_bind _ _ _ (run_und hti),hd]
      simp only
      rw [run_bind _ _ _ hlm,run_bind _ _ _ (run_size hei),hmin,run_bind _ _ _ (hcn w rfl),run_bind _ _ _ hst]
      rfl
    · cases hv
  · rename_i m he hm
    split at hv
    · rename_i cs hcs
      simp at hv; obtain ⟨rfl,rfl⟩:=hv
      rw [he] at hrx
      have exs:=VRel.sc_eq hrx
      obtain ⟨cn,hcn,hcr⟩:=src_rel (P:=P) hW hry hcs
      have hlm:=srcLen_rel (P:=P) (w:=w) hry hm
      refine ⟨K,.value (.int .i64 0),w,hexec ?_,⟨_,rfl,.sc rfl⟩,hW,Fr.refl K st⟩
      rw [exs]
      unfold Builtin.copy_
      simp only [hs,List.getElem?_toArray,List.getElem?_cons_zero,List.getElem?_cons_succ]
      rw [run_bind _ _ _ (run_und hti),hd]
      simp only
      have h0 : Nat.min m 0 = 0:=Nat.min_zero m
      rw [run_bind _ _ _ hlm,run_bind _ _ _ (run_size hei),h0,run_bind _ _ _ (hcn w rfl)]
      rfl
    · cases hv
  · cases hv
end
end Go.VX
end
