/- A part of the proofs of the statements of one layer: H3, H4, H7, H5, E2s, E4s, E3s, T5, T6, M1, M21, ST1. No condition is added here. -/
import Derived.Tactics
import Derived.Tactics2
import Derived.Defers
import Derived.Recover
import Derived.Laws.Pointers
import Derived.Shelf.RegionOpenPlain
import Derived.Lib.Walk
import Derived.Lib.Builder
import Derived.Lib.AppendStr
import Derived.Lib.UnsafeStr
import Derived.WalkKit
import Derived.Laws.Externs
import Derived.Test.YtddmdncdbhlkpaaDoorXB9
set_option linter.unusedVariables false
set_option linter.unusedSimpArgs false
section
namespace Go.Proofs
open Go.RowKit Go.Shelf
namespace VXB
theorem sizeBuilder : (Tryd.prog.info? 99).map (·.size) = some 2:=by kernel_rfl
theorem liesBuilder : liesAt Tryd.prog Tryd.prog.depth 99 (2 / Tryd.prog.cellsOf 99) 0 99 1 = true:=by kernel_rfl
set_option maxHeartbeats 1000000 in
set_option maxRecDepth 100000 in
theorem copyCheck_used (b : Nat) (w : World) (h0 : w.cell? ⟨b,0,none⟩ = some (.pointer (some ⟨b,0,none⟩))) :
    Calls Tryd.prog 73 #[.pointer (some ⟨b,0,none⟩)] w fun e w'=>e = .returned (.tuple #[])∧w' = w:=by
  obtain ⟨j,hj,_⟩:=Option.map_eq_some_iff.1 sizeBuilder
  go_enter Tryd.func73,Tryd.ntmps73
  go_wp2
  rw [Lib.run_neq_ptr_same w _ Tryd.underlying97 hj]
  go_wp2
  go_end0
  exact ⟨rfl,rfl⟩
set_option maxHeartbeats 1000000 in
set_option maxRecDepth 100000 in
theorem copyCheck_fresh (b : Nat) (w : World) (h0 : w.cell? ⟨b,0,none⟩ = some (.pointer none)) (hsh : w.shape? b = some (99,2)) (hfz : w.frozen? ⟨b,0,none⟩ = false) :
    Calls Tryd.prog 73 #[.pointer (some ⟨b,0,none⟩)] w fun e w'=>e = .returned (.tuple #[])∧w' = w.setCell ⟨b,0,none⟩ (.pointer (some ⟨b,0,none⟩)):=by
  obtain ⟨j,hj,hjs⟩:=Option.map_eq_some_iff.1 sizeBuilder
  go_enter Tryd.func73,Tryd.ntmps73
  go_wp2
  rw [Lib.run_to_unsafe w ⟨b,0,none⟩ Tryd.underlying97 Tryd.underlying130 hj (by rw [hjs]; decide) hsh (Nat.zero_lt_succ 1)]
  simp only [Result.andThen]
  rw [Oper.upon_value]
  go_wp2
  rw [run_callFunc_extern Tryd.func86 (by kernel_rfl) (by kernel_rfl) (by kernel_rfl) (e:=Extern.AbiNoEscape.same) (by kernel_rfl)]
  rw [Lib.run_noEscape]
  simp only [Result.andThen]
  rw [Oper.upon_value]
  go_wp2
  rw [Lib.run_from_unsafe w ⟨b,0,none⟩ Tryd.underlying130 Tryd.underlying97 hj hsh liesBuilder]
  simp only [Result.andThen]
  rw [Oper.upon_value]
  go_wp2
  go_end0
  exact ⟨rfl,rfl⟩
theorem ownsRowF_low {w : World} {base e n : Nat} {v : Value} {xs : List Value} (h : w.ownsRowF base e 1 v n xs) : w.ownsRowF 0 e 1 v n xs :=
  ⟨h.1,h.2.elim .inl fun ⟨g,cap,cur,fz,hv,_,rest⟩=>.inr ⟨g,cap,cur,fz,hv,Nat.zero_le _,rest⟩⟩
theorem run_append3 {P : Program} (w : World) (t u ty e : TypeId) (i : TypeInfo) (ht : P.underlying t = some (.slice e)) (hu : P.underlying u = some .string) (hi : P.info? e = some i) (hz : i.zero = some (.int .u8 0))
    (hsize : i.size = 1) (hby : i.bytes = 1) (v : Value) (n : Nat) (xs : List Value) (hown : w.ownsRowF 0 e 1 v n xs) (s : ByteArray) (h63 : n + s.size≤maxLen) (hbytes : n + s.size≤140737488355328) :
    ∃ v' w',(Builtin.append_ #[t,u] ty #[v,.string s]).run P w = .ok v' w'∧w'.ownsRowF 0 e 1 v' (n + s.size) (xs++Lib.strCells s)∧w.grownBy w' v.ownBlock ∧
      (v' = .slice none 0 0↔v = .slice none 0 0∧s.size = 0)∧∀ k,v'.ownBlock = some k→v.ownBlock = some k∨w.heap.size≤k:=by
  rcases hown.2 with ⟨rfl,rfl⟩ | ⟨g,cap,cur,fz,rfl,hbg,hg,hfz,hnc,hcm,hcs,htake⟩
  · obtain ⟨v',w',h1,h2,h3,h4⟩:=Lib.run_append_own_string (P:=P) w w.heap.size t u ty e i ht hu hi hz hsize hby (.slice none 0 0) 0 xs ⟨hown.1,.inl ⟨rfl,rfl⟩⟩ s h63 hbytes (Nat.le_refl _)
    exact ⟨v',w',h1,ownsRowF_low (World.ownsRowF_of h2),h3,h4,fun k hk=>.inr ((World.ownsRowF_of h2).lt k hk).1⟩
  · have hsmall : n + s.size≤9223372036854775807:=by simp only [maxLen] at h63; omega
    have hxl : xs.length = n:=by simpa using hown.1
    have hlen : (xs++Lib.strCells s).length = (n + s.size) * 1:=by rw [List.length_append,hxl,Lib.strCells_length,Nat.mul_one]
    by_cases hroom : n + s.size≤cap
    · have hcs' : cur.size = cap:=by simpa using hcs
      have hr:=Lib.run_append_room_stringF (P:=P) w t u ty e i ht hu hi hsize g n cap cur fz hg (by simpa using hfz) s hroom (by omega)
      refine ⟨_,_,hr,⟨hlen,.inr ⟨g,cap,_,fz,rfl,hbg,setRow_heap w g cur _ e _ hg,by omega,hroom,hcm,?_,?_⟩⟩,⟨rfl,rfl,rfl,by simp,fun k _ hk=>setRow_other w g k _ (fun e=>hk (by simp [Value.ownBlock,e]))⟩,by simp,fun k hk=>.inl hk⟩
      · simp only [List.size_toArray,List.length_append,List.length_take,List.length_drop,Array.length_toList,Lib.strCells_length]
        omega
      · have ht' : cur.toList.take n = xs:=by simpa using htake
        rw [ht',← hlen]
        exact List.take_left
    · have holds : ∀ j u,xs[j]? = some u→w.cell? ((⟨g,0,none⟩ : Addr).add j) = some u:=hown.cells (g:=g) rfl
      have hr:=Lib.run_append_grow_string (P:=P) w t u ty e i (.int .u8 0) ht hu hi hz ⟨g,0,none⟩ n cap xs (by rw [hsize]; simpa using hxl) holds s (by omega) (by omega) (by rw [hby]; exact growslice_fits (by omega) (by omega))
      have hge:=grownCap_ge w (n + s.size) cap e
      have hcm2 : grownCap w (n + s.size) cap e≤maxLen:=grownCap_le_maxLen w (n + s.size) cap e h63
      refine ⟨_,_,hr,⟨hlen,.inr ⟨w.heap.size,_,_,(0,0),rfl,Nat.zero_le _,heap_alloc_new w.drew _,Nat.zero_le _,hge,hcm2,?_,?_⟩⟩,⟨rfl,rfl,rfl,by simp,fun k hk _=>heap_alloc_old w.drew _ hk⟩,by simp,fun k hk=>.inr ?_⟩
      · have hz1 : (Value.int IntKind.u8 0).cells.size = 1:=rfl
        simp only [Array.size_append,List.size_toArray,size_zeroCells,hz1,hxl,Lib.strCells_length]
        omega
      · simp only [Array.toList_append,List.append_assoc]
        rw [←List.append_assoc,← hlen]
        exact List.take_left
      · simp [Value.ownBlock] at hk
        omega
theorem wpList_append3 {P : Program} (w : World) {ops : Array Oper} {rest : List Oper} {o : Oper} {a : Act} {Q : Exit→Act→World→Prop} (hgd : o.guard = none) (sl x : Operand) (t u : TypeId)
    (ho : o.op = .call { callee:=.builtin .append,args:=#[sl,x],argTypes:=#[t,u] })
    (e : TypeId) (i : TypeInfo) (ht : P.underlying t = some (.slice e)) (hu : P.underlying u = some .string) (hi : P.info? e = some i) (hz : i.zero = some (.int .u8 0))
    (hsize : i.size = 1) (hby : i.bytes = 1)
    (v : Value) (n : Nat) (xs : List Value) (hs : a.eval sl = v) (hown : w.ownsRowF 0 e 1 v n xs) (s : ByteArray) (hx : a.eval x = .string s)
    (h63 : n + s.size≤maxLen) (hbytes : n + s.size≤140737488355328)
    (h : ∀ v' w',w'.ownsRowF 0 e 1 v' (n + s.size) (xs++Lib.strCells s)→w.grownBy w' v.ownBlock→(v' = .slice none 0 0↔v = .slice none 0 0∧s.size = 0)→(∀ k,v'.ownBlock = some k→v.ownBlock = some k∨w.heap.size≤k)→wpList P ops Q rest (a.put o.dst v') w') : wpList P ops Q (o :: rest) a w:=by
  refine wpList_plain hgd fun K hK=>?_
  obtain ⟨v',w',hr,h2,h3,h4,h5⟩:=run_append3 (P:=P) w t u o.type e i ht hu hi hz hsize hby v n xs hown s h63 hbytes
  unfold Oper.wp execOp
  simp only [ho,resolve,invoke,builtin,Sem.run_bind,Sem.run_pure,Result.andThen_ok,List.map_toArray,List.map_cons,List.map_nil,hs,hx,hr]
  exact hK _ _ (h v' w' h2 h3 h4 h5)
structure BAt (w : World) (b : Nat) (p v : Value) (l : List UInt8) : Prop where
  pt : p = .pointer none∨p = .pointer (some ⟨b,0,none⟩)
  box : w.heap[b]? = some (.cells #[p,v] 99 (0,0))
  row : w.ownsRowF 0 5 1 v l.length (Lib.byteCells l)
  ne : v.ownBlock≠some b
  nil : v = .slice none 0 0↔l = []
theorem infoByte : (Tryd.prog.info? 5).map (fun i=>(i.zero,i.size,i.bytes)) = some (some (.int .u8 0),1,1):=by kernel_rfl
theorem cellsByte : Tryd.prog.cellsOf 5 = 1:=by kernel_rfl
theorem BAt.lt {w : World} {b : Nat} {p v : Value} {l : List UInt8} (h : BAt w b p v l) : b < w.heap.size:=(Array.getElem?_eq_some_iff.1 h.box).1
set_option maxHeartbeats 2000000 in
set_option maxRecDepth 100000 in
theorem write_calls (b : Nat) (p v : Value) (l : List UInt8) (s : ByteArray) (w : World) (h : BAt w b p v l) (hlen : l.length + s.size≤140737488355328) :
    Calls Tryd.prog 61 #[.pointer (some ⟨b,0,none⟩),.string s] w fun e w'=>e = .returned (.tuple #[.int .i64 s.size,.nilIface])∧∃ v',BAt w' b (.pointer (some ⟨b,0,none⟩)) v' (l++s.data.toList) ∧
      w'.os = w.os∧w'.tape = w.tape∧w'.output = w.output∧w.heap.size≤w'.heap.size∧(∀ k,k < w.heap.size→k≠b→v.ownBlock≠some k→w'.heap[k]? = w.heap[k]?)∧(∀ k,v'.ownBlock = some k→v.ownBlock = some k∨w.heap.size≤k):=by
  obtain ⟨i0,hi,hz0,hz1,hz2⟩:=info_parts infoByte
  have hcc : Calls Tryd.prog 73 #[.pointer (some ⟨b,0,none⟩)] w fun e w'=>e = .returned (.tuple #[])∧(w' = w∨w' = w.setCell ⟨b,0,none⟩ (.pointer (some ⟨b,0,none⟩)))∧w'.heap[b]? = some (.cells #[.pointer (some ⟨b,0,none⟩),v] 99 (0,0)):=by
    have hbx:=h.box
    rcases h.pt with rfl | rfl
    · refine (copyCheck_fresh b w (by simp [World.cell?,hbx]) (by simp [World.shape?,hbx]) (by simp [World.frozen?,hbx])).mono ?_
      rintro e w' ⟨rfl,rfl⟩
      exact ⟨rfl,.inr rfl,by simp [World.setCell,Array.getElem?_modify,hbx]⟩
    · refine (copyCheck_used b w (by simp [World.cell?,hbx])).mono ?_
      rintro e w' ⟨rfl,rfl⟩
      exact ⟨rfl,.inl rfl,hbx⟩
  go_enter Tryd.func61,Tryd.ntmps61
  go_wp2_with (go_at_call 73; refine hcc.mono ?_)
  rintro e w1 ⟨rfl,hw1,hbk⟩
  have hsz : w1.heap.size = w.heap.size:=by
    rcases hw1 with rfl | rfl
    · rfl
    · simp [World.setCell]
  have hot : w1.os = w.os∧w1.tape = w.tape∧w1.output = w.output:=by
    rcases hw1 with rfl | rfl<;>exact ⟨rfl,rfl,rfl⟩
  have hoth : ∀ k,k≠b→w1.heap[k]? = w.heap[k]?:=fun k hk=>by
    rcases hw1 with rfl | rfl
    · rfl
    · exact Below.heap_setCell _ _ _ _ hk
  have hown : w1.ownsRowF 0 5 1 v l.length (Lib.byteCells l):=Go.VX.ownsRowF_frame h.row fun i hi=>hoth i (fun e=>h.ne (by rw [hi,e]))
  have c0 : w1.cell? ⟨b,0,none⟩ = some (.pointer (some ⟨b,0,none⟩)):=by rw [Lib.cell_of_heap hbk]; rfl
  have c1 : w1.cell? ⟨b,1,none⟩ = some v:=by rw [Lib.cell_of_heap hbk]; rfl
  go_wp2_with (at_builtin; refine wpList_append3 _ rfl _ _ 45 9 rfl 5 i0 Tryd.underlying45 Tryd.underlying9 hi hz0 hz1 hz2 _ _ _ rfl hown s rfl ?c3 ?c4 ?_)
  case c3=>unfold maxLen; omega
  case c4=>omega
  intro v' w2 hown' hgrow hnil hown2
  have hlt : b < w1.heap.size:=by rw [hsz]; exact h.lt
  have hb2 : w2.heap[b]? = some (.cells #[.pointer (some ⟨b,0,none⟩),v] 99 (0,0)):=by
    rw [hgrow.block b hlt (fun e=>h.ne e.symm)]
    exact hbk
  have d0 : w2.cell? ⟨b,0,none⟩ = some (.pointer (some ⟨b,0,none⟩)):=by rw [Lib.cell_of_heap hb2]; rfl
  have d1 : w2.cell? ⟨b,1,none⟩ = some v:=by rw [Lib.cell_of_heap hb2]; rfl
  have f1 : w2.frozen? ⟨b,1,none⟩ = false:=Lib.frozen_of_heap hb2 1
  have hne' : v'.ownBlock≠some b:=Lib.ownBlock_neF hown' hb2 (by decide)
  obtain ⟨ao,n',cap,rfl⟩ : ∃ ao n' cap,v' = .slice ao n' cap:=by
    rcases hown'.2 with ⟨hv,_⟩ | ⟨g,cap,cur,fz,hv,_⟩
    · exact ⟨_,_,_,hv⟩
    · exact ⟨_,_,_,hv⟩
  go_wp2
  go_ret2
  have hlist : Lib.byteCells (l++s.data.toList) = Lib.byteCells l++Lib.strCells s:=by rw [Lib.byteCells_append,Lib.strCells_eq]
  have hsl : (l++s.data.toList).length = l.length + s.size:=by rw [List.length_append]; rfl
  refine ⟨rfl,_,⟨.inr rfl,?_,?_,hne',?_⟩,?_,?_,?_,?_,fun k hk hkb hkv=>?_,fun k hk=>?_⟩
  · simp [World.setCell,Array.getElem?_modify,hb2]
  · rw [hsl,hlist]
    exact Go.VX.ownsRowF_frame hown' fun i hi=>Below.heap_setCell _ _ _ _ (fun e=>hne' (by rw [hi,e]))
  · rw [hnil,h.nil]
    constructor
    · rintro ⟨rfl,h0⟩
      have h0 : s = ByteArray.empty:=h0
      subst h0
      rfl
    · intro he
      have h1:=List.append_eq_nil_iff.1 he
      exact ⟨h1.1,by
        have h2 : s.data = #[]:=by simpa using h1.2
        cases s
        cases h2
        rfl⟩
  · exact hgrow.os.trans hot.1
  · exact hgrow.tape.trans hot.2.1
  · exact hgrow.output.trans hot.2.2
  · rw [←hsz]; exact Nat.le_trans hgrow.size (by simp [World.setCell])
  · rw [Below.heap_setCell _ _ _ _ (show k≠b from hkb),hgrow.block k (by omega) (fun e=>hkv e.symm),hoth k hkb]
  · rcases hown2 k hk with h1 | h1
    · exact .inl h1
    · exact .inr (by omega)
theorem freeze_frame (w : World) (g n k : Nat) (hk : k≠g) : (w.freeze ⟨g,0,none⟩ n).heap[k]? = w.heap[k]?:=by
  unfold World.freeze
  split
  · rfl
  · simp only [Array.getElem?_modify]
    rw [if_neg (fun e=>hk e.symm)]
theorem freeze_rest (w : World) (g n : Nat) : (w.freeze ⟨g,0,none⟩ n).os = w.os∧(w.freeze ⟨g,0,none⟩ n).tape = w.tape∧(w.freeze ⟨g,0,none⟩ n).output = w.output∧(w.freeze ⟨g,0,none⟩ n).heap.size = w.heap.size:=by
  unfold World.freeze
  split
  · exact ⟨rfl,rfl,rfl,rfl⟩
  · exact ⟨rfl,rfl,rfl,by simp⟩
set_option maxHeartbeats 2000000 in
set_option maxRecDepth 100000 in
theorem string_calls (b : Nat) (p v : Value) (l : List UInt8) (w : World) (h : BAt w b p v l) (hlen : l.length≤140737488355328) :
    Calls Tryd.prog 62 #[.pointer (some ⟨b,0,none⟩)] w fun e w'=>e = .returned (.string ⟨l.toArray⟩)∧BAt w' b p v l ∧
      w'.os = w.os∧w'.tape = w.tape∧w'.output = w.output∧w.heap.size = w'.heap.size∧(∀ k,v.ownBlock≠some k→w'.heap[k]? = w.heap[k]?):=by
  have hbx : w.drew.heap[b]? = some (.cells #[p,v] 99 (0,0)):=h.box
  have c1 : w.drew.cell? ⟨b,1,none⟩ = some v:=by rw [Lib.cell_of_heap hbx]; rfl
  by_cases h0 : l = []
  · have hv:=h.nil.2 h0
    subst hv
    subst h0
    have hUS:=Lib.run_unsafeString_none (P:=Tryd.prog) w.drew 113 3 9 none
    have hSD : (Builtin.unsafeSliceData_ #[45] 113 #[.slice none 0 0]).run Tryd.prog w.drew = .ok (.pointer none) w.drew:=rfl
    have mixed : Tryd.prog.follows .mixedOrders = true:=by kernel_rfl
    go_enter Tryd.func62,Tryd.ntmps62
    go_wp2
    go_region_o
    all_goals (go_wp2; go_ret; exact ⟨rfl,⟨h.pt,h.box,h.row,h.ne,h.nil⟩,rfl,rfl,rfl,rfl,fun _ _=>rfl⟩)
  · have hl0 : l.length≠0:=by simpa using h0
    obtain ⟨g,cap,cur,fz,rfl,hbg,hg,hfz,hnc,hcm,hcs,htake⟩ : ∃ g cap cur fz,v = .slice (some ⟨g,0,none⟩) l.length cap∧0≤g∧w.heap[g]? = some (.cells cur 5 fz)∧fz.2≤l.length * 1∧l.length≤cap∧cap≤maxLen∧cur.size = cap * 1∧cur.toList.take (l.length * 1) = Lib.byteCells l:=by
      rcases h.row.2 with ⟨_,hz⟩ | ⟨g,cap,cur,fz,hv,r⟩
      · exact absurd hz hl0
      · exact ⟨g,cap,cur,fz,hv,r⟩
    have hSD : (Builtin.unsafeSliceData_ #[45] 113 #[.slice (some ⟨g,0,none⟩) l.length cap]).run Tryd.prog w.drew = .ok (.pointer (some ⟨g,0,none⟩)) w.drew :=
      Lib.run_unsafeSliceData_row _ _ _ _ _ _ (by omega)
    have hUS : (Builtin.unsafeString_ #[113,3] 9 #[.pointer (some ⟨g,0,none⟩),.int .i64 l.length]).run Tryd.prog w.drew = .ok (.string ⟨l.toArray⟩) (w.drew.freeze ⟨g,0,none⟩ l.length):=by
      refine Lib.run_unsafeString_row w.drew 113 3 9 5 Tryd.underlying113 cellsByte g cur.size (by have hg' : w.drew.heap[g]? = some (.cells cur 5 fz):=hg; simp [World.shape?,hg']) l h0 (by omega) (by omega) ?_
      intro j x hx
      have:=h.row.cells (g:=g) rfl j (.int .u8 x.toNat) (by simp [Lib.byteCells,hx])
      exact this
    have hA : Lib.BuilderAtF 99 5 0 b p (Lib.byteCells l) w.drew:=⟨Nat.zero_le _,_,hbx,by rw [Lib.byteCells_length]; exact h.row,h.ne⟩
    have hF:=hA.froze (g:=g) (cap:=cap) (by rw [Lib.byteCells_length]; exact c1)
    rw [Lib.byteCells_length] at hF
    have hB : BAt (w.drew.freeze ⟨g,0,none⟩ l.length) b p (.slice (some ⟨g,0,none⟩) l.length cap) l:=by
      obtain ⟨_,v',hb',hr',hn'⟩:=hF
      have hgb : b≠g:=fun e=>h.ne (by simp [Value.ownBlock,e])
      have hb2:=freeze_frame w.drew g l.length b hgb
      rw [hbx] at hb2
      rw [hb2] at hb'
      simp only [Option.some.injEq,Obj.cells.injEq,and_true] at hb'
      have e : Value.slice (some ⟨g,0,none⟩) l.length cap = v':=by
        have:=congrArg (fun a : Array Value=>a[1]?) hb'
        simpa using this
      subst e
      exact ⟨h.pt,hb2,by rw [Lib.byteCells_length] at hr'; exact hr',hn',h.nil⟩
    have hrest:=freeze_rest w.drew g l.length
    have mixed : Tryd.prog.follows .mixedOrders = true:=by kernel_rfl
    go_enter Tryd.func62,Tryd.ntmps62
    go_wp2
    go_region_o
    all_goals (go_wp2; go_ret; exact ⟨rfl,hB,hrest.1,hrest.2.1,hrest.2.2.1,hrest.2.2.2.symm,fun k hk=>freeze_frame w.drew g l.length k (fun e=>hk (by simp [Value.ownBlock,e]))⟩)
end VXB
end Go.Proofs
end
section
namespace Go.VX.Seat
open Go.Proofs
def bldCells (l : List UInt8) : List AV:=[iA 1,iA 99,iA 5,.sc (.string ⟨l.toArray⟩)]
def HBld : FuncId→List AV→St→CRes→St→Prop:=fun f args st r st' =>
  ∃ (b : Nat) (l : List UInt8) (ver : Nat),st[b]? = some ⟨bldCells l,3,ver⟩∧l.length≤1000000000 ∧
    ((f = 61∧∃ s : ByteArray,args = [.ptr b 0,.sc (.string s)]∧s.size≤1000000000∧r = .ret (.tup [iA s.size,.sc .nilIface])∧st' = st.set b ⟨bldCells (l++s.data.toList),3,ver + 1⟩) ∨
     (f = 62∧args = [.ptr b 0]∧r = .ret (.sc (.string ⟨l.toArray⟩))∧st' = st))
theorem callable_write : Callable Tryd.prog 61:=⟨Tryd.f61,by kernel_rfl,by kernel_rfl,by kernel_rfl⟩
theorem callable_string : Callable Tryd.prog 62:=⟨Tryd.f62,by kernel_rfl,by kernel_rfl,by kernel_rfl⟩
theorem bat_of_phi {l : List UInt8} {r : Nat} {S : List Nat} {w : World} (h : Phi (bldCells l) r S w) : ∃ p v,VXB.BAt w r p v l∧S = r :: v.ownBlock.toList:=by
  obtain ⟨tb,tu,l',p,v,h1,h0,h2,h3,h4,h5,h6,h7⟩:=h
  simp only [bldCells,List.cons.injEq,AV.sc.injEq,Value.int.injEq,Value.string.injEq,ByteArray.mk.injEq,true_and,and_true] at h1
  obtain ⟨e1,e2,e3⟩:=h1
  have e1 : 99 = tb:=by omega
  have e2 : 5 = tu:=by omega
  have e3 : l = l':=by simpa using e3
  subst e1; subst e2; subst e3
  exact ⟨p,v,⟨h2,h3,h4,h6,h7⟩,h5⟩
theorem phi_of_bat {l : List UInt8} {r : Nat} {w : World} {p v : Value} (h : VXB.BAt w r p v l) : Phi (bldCells l) r (r :: v.ownBlock.toList) w :=
  ⟨99,5,l,p,v,rfl,by decide,h.pt,h.box,h.row,rfl,h.ne,h.nil⟩
theorem hbld_sound {f : FuncId} {args : List AV} {st st' : St} {r : CRes} (h : HBld f args st r st') : SoundCall Tryd.prog [0,3,4,1,2] f args st r st':=by
  obtain ⟨b,l,ver,hx,hl,h⟩:=h
  rcases h with ⟨rfl,s,rfl,hs,rfl,rfl⟩ | ⟨rfl,rfl,rfl,rfl⟩
  · refine SoundC.sound ?_ callable_write
    intro n0 wi K w args' hW hn hargs
    obtain ⟨fp,hfp⟩:=hW.fo
    cases hargs with
    | cons h1 h2 =>
      cases h2 with
      | cons h2 h3 =>
        cases h3
        obtain ⟨kb,hk,rfl⟩:=ptr_inv h1
        have h2:=VRel.sc_eq h2
        subst h2
        obtain ⟨⟨hro,hphi⟩,hf2,hf3,hf4⟩:=hfp b _ kb hx rfl hk
        obtain ⟨p,v,hbat,hS⟩:=bat_of_phi hphi
        rw [hro]
        refine (VXB.write_calls kb.rb p v l s w hbat (by omega)).mono fun e w' he=>?_
        obtain ⟨rfl,v',hb',g1,g2,g3,g4,g5,g6⟩:=he
        refine ⟨K,WRel.setF hW hn hfp hx rfl rfl hk g1 g2 g3 g4 (fun k hk1 hk2=>g5 k hk1 (fun e=>hk2 (by rw [hS,e]; simp)) (fun e=>hk2 (by rw [hS,e]; simp))) (phi_of_bat hb') (fun k hk1=>?_),⟨KM.le_refl K,by simp,fun _ _=>rfl,fun b' hb' hk'=>?_⟩,_,rfl,.tup (.cons (.sc rfl) (.cons (.sc rfl) .nil))⟩
        · have hlt' : ∀ k,v'.ownBlock = some k→k < w'.heap.size:=fun k hk=>(hb'.row.lt k hk).2
          rw [hS]
          simp at hk1 ⊢
          rcases hk1 with rfl | hk1
          · exact ⟨.inl (.inl rfl),hb'.lt⟩
          · have hk1 : v'.ownBlock = some k:=by simpa using hk1
            refine ⟨?_,hlt' k hk1⟩
            rcases g6 k hk1 with h1 | h1
            · exact .inl (.inr h1)
            · exact .inr h1
        · have hne : b'≠b:=fun e=>by rw [e,hk] at hk'; cases hk'
          rw [List.getElem?_set_ne (Ne.symm hne)]
  · refine SoundC.sound ?_ callable_string
    intro n0 wi K w args' hW hn hargs
    obtain ⟨fp,hfp⟩:=hW.fo
    cases hargs with
    | cons h1 h2 =>
      cases h2
      obtain ⟨kb,hk,rfl⟩:=ptr_inv h1
      obtain ⟨⟨hro,hphi⟩,hf2,hf3,hf4⟩:=hfp b _ kb hx rfl hk
      obtain ⟨p,v,hbat,hS⟩:=bat_of_phi hphi
      rw [hro]
      refine (VXB.string_calls kb.rb p v l w hbat (by omega)).mono fun e w' he=>?_
      obtain ⟨rfl,hb',g1,g2,g3,g4,g5⟩:=he
      have hW':=WRel.setF hW hn hfp hx rfl (x':=⟨bldCells l,3,ver⟩) rfl hk g1 g2 g3 (by omega) (fun k hk1 hk2=>g5 k (fun e=>hk2 (by rw [hS,e]; simp))) (phi_of_bat hb') (fun k hk1=>⟨.inl (by rw [hS]; exact hk1),by
        have:=(hf2 k (by rw [hS]; exact hk1)).2
        omega⟩)
      have hset : st'.set b ⟨bldCells l,3,ver⟩ = st':=by
        refine List.ext_getElem? fun i=>?_
        by_cases hi : b = i
        · subst hi
          rw [List.getElem?_set_self (List.getElem?_eq_some_iff.1 hx).1,hx]
        · rw [List.getElem?_set_ne hi]
      rw [hset] at hW'
      exact ⟨K,hW',Fr.refl K st',_,rfl,.sc rfl⟩
theorem hbld_evo {f : FuncId} {args : List AV} {st st' : St} {r : CRes} (h : HBld f args st r st') : Evo st st':=by
  obtain ⟨b,l,ver,hx,hl,h⟩:=h
  rcases h with ⟨rfl,s,rfl,hs,rfl,rfl⟩ | ⟨rfl,rfl,rfl,rfl⟩
  · exact Evo.set hx (by simp) (.inl rfl) (fun e=>by simp at e)
  · exact Evo.refl _
def natF (f : FuncId) : Option (Array Value→Sem Value):=match f with
  | 102=>some Extern.BytealgIndexByte.indexByte
  | 81=>some Extern.BytealgCount.count
  | _=>none
def HNat : FuncId→List AV→St→CRes→St→Prop:=fun f args st r st' =>
  ∃ e vs v,natF f = some e∧cellsV args = some vs∧closed Tryd.prog (e vs.toArray) = some v∧cellVal v = true∧r = .ret (.sc v)∧st' = st
theorem natF_run {f : FuncId} {e : Array Value→Sem Value} (h : natF f = some e) (args : Array Value) (w : World) : (callFunc f args).run Tryd.prog w = ((e args).run Tryd.prog w).andThen fun v w'=>.ok (.value v) w':=by
  unfold natF at h
  split at h
  · cases h
    exact run_callFunc_extern Tryd.func102 (by kernel_rfl) (by kernel_rfl) (by kernel_rfl) (by kernel_rfl) args w
  · cases h
    exact run_callFunc_extern Tryd.func81 (by kernel_rfl) (by kernel_rfl) (by kernel_rfl) (by kernel_rfl) args w
  · cases h
theorem hnat_sound {f : FuncId} {args : List AV} {st st' : St} {r : CRes} (h : HNat f args st r st') : SoundCall Tryd.prog [0,3,4,1,2] f args st r st':=by
  obtain ⟨e,vs,v,he,hvs,hv,hc,rfl,rfl⟩:=h
  intro n0 wi K w args' hW hn hargs
  have h1:=hargs.cellsV hvs
  subst h1
  refine .inr ⟨v,w,?_,K,hW,Fr.refl K st',v,rfl,.sc hc⟩
  rw [natF_run he,run_closed _ hv]
  rfl
theorem hnat_evo {f : FuncId} {args : List AV} {st st' : St} {r : CRes} (h : HNat f args st r st') : Evo st st':=by
  obtain ⟨e,vs,v,he,hvs,hv,hc,rfl,rfl⟩:=h
  exact Evo.refl _
end Go.VX.Seat
end
section
namespace Go.VX
open Go.RowKit (Below)
open Go.Lib Go.Sort
theorem below_grow {w : World} (k : Nat) (os : Array Obj) : Below w.heap.size w (grow (w.drewN k) os) :=
  ⟨rfl,rfl,rfl,by simp [grow],fun i hi=>by
    simp only [grow]
    exact Array.getElem?_append_left (by simpa using hi)⟩
namespace Seat
open Go.Proofs
def GBv (st : St) : Prop:=∀ (j : Nat) (x : Box),glS[j]? = some x→st[j]? = some x
theorem pow_glob : glob_internal_strconv_uint64pow10 = Lib.pow10Tab.map fun z=>AV.sc (Value.int .u64 z):=by kernel_rfl
theorem tab_is {n0 : Nat} {wi : World} {K : KM} {st : St} {w : World} (hW : WRel n0 wi [0, 3, 4, 1, 2] K st w) (hn : n0 ≤ wi.heap.size) (hg : GBv st) : Lib.TabIs Tryd.prog w "internal/strconv.uint64pow10" .u64 Lib.pow10Tab := by
  have h1:=hg 1 ⟨glob_internal_strconv_uint64pow10,1,0⟩ rfl
  obtain ⟨kb,hk,hrb,hro,hsz⟩:=hW.glob 1 _ rfl
  have hfit:=hW.fit 1 _ kb h1 (by decide) hk
  have hl20 : glob_internal_strconv_uint64pow10.length = 20:=rfl
  simp only [hl20] at hfit
  rcases hsz with h0 | ⟨hlt,c,el,lv,hh,h20⟩
  · omega
  · have hb:=(hW.below.block _ hlt).trans hh
    have hc : ∀ (o : Nat) (v : Value),glob_internal_strconv_uint64pow10[o]? = some (.sc v)→c[o]? = some v:=fun o v ho=>by
      obtain ⟨v',hv',hr⟩:=hW.cell 1 _ kb h1 (by decide) hk o _ ho
      have:=VRel.sc_eq hr
      subst this
      rw [hrb,hro,Nat.zero_add] at hv'
      unfold World.cell? at hv'
      rw [hb] at hv'
      simpa using hv'
    have h20:=h20 (hc 0 _ rfl)
    have e : c = (Lib.pow10Tab.map fun z=>Value.int .u64 z).toArray:=by
      refine Array.ext_getElem? fun i=>?_
      by_cases hi : i < 20
      · have hp : i < Lib.pow10Tab.length:=by rw [pow10Tab_length]; exact hi
        rw [hc i (.int .u64 Lib.pow10Tab[i]) (by rw [pow_glob,List.getElem?_map,List.getElem?_eq_getElem hp]; rfl),List.getElem?_toArray,List.getElem?_map,List.getElem?_eq_getElem hp]
        rfl
      · rw [Array.getElem?_eq_none (by omega),Array.getElem?_eq_none (by rw [List.size_toArray,List.length_map,pow10Tab_length]; omega)]
    show World.var? _ _ _ = _
    unfold World.var?
    rw [show Tryd.prog.globalNamed "internal/strconv.uint64pow10" = some _ by kernel_rfl]
    simp only [Option.bind_some]
    rw [hb,e]
theorem err_is {n0 : Nat} {wi : World} {K : KM} {st : St} {w : World} (hW : WRel n0 wi [0,3,4,1,2] K st w) {j g : Nat} (hj : ([0,3,4,1,2] : List Nat)[j]? = some g) (hx : st[j]? = some ⟨[.err],1,0⟩) : ∃ te pe,w.cell? ⟨g,0,none⟩ = some (.iface te pe):=by
  obtain ⟨kb,hk,hrb,hro,_⟩:=hW.glob j _ hj
  obtain ⟨v,hv,hr⟩:=hW.cell j _ kb hx (show ¬ 2≤1 by decide) hk 0 .err rfl
  rw [hrb,hro] at hv
  cases hr
  exact ⟨_,_,hv⟩
def atoiV (s : ByteArray) : Int:=match Lib.atoiAll s.data.toList with
  | .ok v=>v
  | .range=>Lib.atoiSat s.data.toList
  | _=>0
def atoiE (s : ByteArray) : AV:=match Lib.atoiAll s.data.toList with
  | .ok _=>.sc .nilIface
  | _=>.err
def HSrt : FuncId→List AV→St→CRes→St→Prop:=fun f args st r st'=>GBv st∧st' = st ∧
  ((f = 35∧∃ n : Int,args = [iA n]∧-9223372036854775808≤n∧n≤9223372036854775807∧r = .ret (.sc (.string ⟨(Lib.itoa n).toArray⟩))) ∨
   (f = 38∧∃ s : ByteArray,args = [.sc (.string s)]∧s.size≤281474976710656∧r = .ret (.tup [iA (atoiV s),atoiE s])))
theorem callable_itoa : Callable Tryd.prog 35:=⟨Tryd.f35,by kernel_rfl,by kernel_rfl,by kernel_rfl⟩
theorem callable_atoi : Callable Tryd.prog 38:=⟨Tryd.f38,by kernel_rfl,by kernel_rfl,by kernel_rfl⟩
theorem hsrt_sound {f : FuncId} {args : List AV} {st st' : St} {r : CRes} (h : HSrt f args st r st') : SoundCall Tryd.prog [0,3,4,1,2] f args st r st':=by
  obtain ⟨hg,rfl,h⟩:=h
  rcases h with ⟨rfl,n,rfl,h0,h1,rfl⟩ | ⟨rfl,s,rfl,hs,rfl⟩
  · refine SoundC.sound ?_ callable_itoa
    intro n0 wi K w args' hW hn hargs
    cases hargs with
    | cons h2 h3 =>
      cases h3
      have h2:=VRel.sc_eq h2
      subst h2
      refine (Tryd.strconv_Itoa n h0 h1 w (tab_is hW hn hg)).mono fun e w' ⟨he,k,os,hw⟩=>?_
      subst he; subst hw
      exact ⟨K,hW.keep (hW.size hn) (below_grow k os),Fr.refl K _,_,rfl,.sc rfl⟩
  · refine SoundC.sound ?_ callable_atoi
    intro n0 wi K w args' hW hn hargs
    cases hargs with
    | cons h2 h3 =>
      cases h3
      have h2:=VRel.sc_eq h2
      subst h2
      have hv : ∀ z,Lib.atoiAll s.data.toList = z→atoiV s = (match z with | .ok v=>v | .range=>Lib.atoiSat s.data.toList | _=>0)∧atoiE s = (match z with | .ok _=>.sc .nilIface | _=>.err):=fun z e=>by
        unfold atoiV atoiE
        rw [e]
        cases z<;>exact ⟨rfl,rfl⟩
      cases hz : Lib.atoiAll s.data.toList with
      | ok v =>
        obtain ⟨e1,e2⟩:=hv _ hz
        rw [e1,e2]
        refine (Tryd.strconv_Atoi_ok s (by omega) v hz w).mono fun e w' ⟨he,hw⟩=>?_
        subst he
        have hb : Below w.heap.size w w':=by
          rcases hw with rfl | ⟨t,rfl⟩
          · exact Below.refl _ _
          · exact Lib.bytesWorld_below _ _ _
        exact ⟨K,hW.keep (hW.size hn) hb,Fr.refl K _,_,rfl,.tup (.cons (.sc rfl) (.cons (.sc rfl) .nil))⟩
      | range =>
        obtain ⟨e1,e2⟩:=hv _ hz
        rw [e1,e2]
        obtain ⟨te,pe,hc⟩:=err_is hW (j:=4) rfl (hg 4 _ rfl)
        refine (Tryd.strconv_Atoi_range s hs hz _ w hc (.inr ⟨te,pe,rfl⟩)).mono fun e w' ⟨N,he,_,_,hb⟩=>?_
        subst he
        exact ⟨K,hW.keep (hW.size hn) hb,Fr.refl K _,_,rfl,.tup (.cons (.sc rfl) (.cons .err .nil))⟩
      | _ =>
        obtain ⟨e1,e2⟩:=hv _ hz
        rw [e1,e2]
        obtain ⟨te,pe,hc⟩:=err_is hW (j:=3) rfl (hg 3 _ rfl)
        refine (Any.strconv_Atoi_syntax Tryd.laysC172 s hs hz _ w hc (.inr ⟨te,pe,rfl⟩)).mono fun e w' ⟨N,he,_,_,hb⟩=>?_
        subst he
        exact ⟨K,hW.keep (hW.size hn) hb,Fr.refl K _,_,rfl,.tup (.cons (.sc rfl) (.cons .err .nil))⟩
theorem hsrt_evo {f : FuncId} {args : List AV} {st st' : St} {r : CRes} (h : HSrt f args st r st') : Evo st st':=by
  obtain ⟨_,rfl,_⟩:=h
  exact Evo.refl _
end Seat
end Go.VX
end
section
namespace Go.VX.Seat
open Go.Proofs
open Go.RowKit (Below)
def strsOf (st : St) (v : AV) : Option (List ByteArray):=match v with
  | .sc (.slice none 0 0)=>some []
  | .sl b o n esz _=>if Nat.beq esz 1 then (match St.atN st b o n with
    | some cs=>cs.mapM fun a=>match a with | .sc (.string s)=>some s | _=>none
    | none=>none) else none
  | _=>none
def joinOf (xs : List ByteArray) (sep : ByteArray) : ByteArray:=⟨(Lib.join (xs.map (·.data.toList)) sep.data.toList).toArray⟩
def HLib : FuncId→List AV→St→CRes→St→Prop:=fun f args st r st' =>
  f = 50∧st' = st∧∃ v sep xs,args = [v,.sc (.string sep)]∧strsOf st v = some xs∧xs.length≤1000000∧(Lib.join (xs.map (·.data.toList)) sep.data.toList).length≤1000000000∧r = .ret (.sc (.string (joinOf xs sep)))
theorem callable_join : Callable Tryd.prog 50:=⟨Tryd.f50,by kernel_rfl,by kernel_rfl,by kernel_rfl⟩
theorem mapM_str : ∀ {cs : List AV} {xs : List ByteArray},(cs.mapM fun a=>match a with | .sc (.string s)=>some s | _=>none) = some xs→cs = xs.map fun s=>.sc (.string s)
  | [],xs,h=>by simp at h; subst h; rfl
  | c :: cs,xs,h=>by
    rw [List.mapM_cons] at h
    simp only [Option.bind_eq_bind,Option.bind_eq_some_iff,Option.pure_def,Option.some.injEq] at h
    obtain ⟨s,h1,ys,h2,rfl⟩:=h
    split at h1
    · simp only [Option.some.injEq] at h1
      subst h1
      rw [mapM_str h2]
      rfl
    · cases h1
theorem hlib_sound {f : FuncId} {args : List AV} {st st' : St} {r : CRes} (h : HLib f args st r st') : SoundCall Tryd.prog [0,3,4,1,2] f args st r st':=by
  obtain ⟨rfl,rfl,v,sep,xs,rfl,hv,hlen,hjl,rfl⟩:=h
  refine SoundC.sound ?_ callable_join
  intro n0 wi K w args' hW hn hargs
  cases hargs with
  | cons h1 h2 =>
    cases h2 with
    | cons h2 h3 =>
      cases h3
      have h2:=VRel.sc_eq h2
      subst h2
      unfold strsOf at hv
      split at hv
      · simp only [Option.some.injEq] at hv
        subst hv
        have h1:=VRel.sc_eq h1
        subst h1
        refine (Tryd.strings_Join_none none 0 sep w).mono fun e w' ⟨he,hw⟩=>?_
        subst he; subst hw
        exact ⟨K,hW,Fr.refl K _,_,rfl,.sc rfl⟩
      · rename_i b o n esz full
        split at hv
        · rename_i hesz
          have hesz:=Nat.eq_of_beq_eq_true hesz
          subst hesz
          split at hv
          · rename_i cs hcs
            have hcs2:=mapM_str hv
            subst hcs2
            cases h1 with
            | @sl _ _ _ _ _ kb a cap hk hok =>
              obtain ⟨hl1,hl2,hl3⟩:=hok
              unfold St.atN at hcs
              split at hcs
              · rename_i x hx
                split at hcs
                · cases hcs
                · rename_i hm
                  split at hcs
                  · rename_i hon
                    simp only [Option.some.injEq] at hcs
                    have hn : xs.length = n:=by
                      have:=congrArg List.length hcs
                      simp at this
                      omega
                    subst hn
                    have hcell : ∀ (j : Nat) (y : ByteArray),xs[j]? = some y→w.cell? ⟨kb.rb,kb.ro + o + j,none⟩ = some (.string y):=fun j y hy=>by
                      have hj:=(List.getElem?_eq_some_iff.1 hy).1
                      have : x.cells[o + j]? = some (.sc (.string y)):=by
                        have:=congrArg (fun l=>l[j]?) hcs
                        simp only [List.getElem?_map,hy,Option.map_some,List.getElem?_take,hj,if_true,List.getElem?_drop] at this
                        exact this
                      obtain ⟨v,hv1,hv2⟩:=hW.cell b x kb hx hm hk _ _ this
                      have:=VRel.sc_eq hv2
                      subst this
                      rw [←Nat.add_assoc] at hv1
                      exact hv1
                    rcases hl3 with ⟨rfl,_⟩ | ⟨h0,hc0⟩
                    · refine (Tryd.strings_Join kb.rb (kb.ro + o) cap xs sep w hcell (hW.lt b x kb hx (fun e=>hm (by rw [e]; exact Nat.le_refl _)) hk) (by omega) hl1 (by omega)).mono fun e w' ⟨he,hw⟩=>?_
                      subst he
                      exact ⟨K,hW.keep (hW.size hn) hw,Fr.refl K _,_,rfl,.sc rfl⟩
                    · have hx0 : xs = []:=List.length_eq_zero_iff.1 h0
                      subst hx0
                      refine (Tryd.strings_Join_none (some a) cap sep w).mono fun e w' ⟨he,hw⟩=>?_
                      subst he; subst hw
                      exact ⟨K,hW,Fr.refl K _,_,rfl,.sc rfl⟩
                  · cases hcs
              · cases hcs
          · cases hv
        · cases hv
      · cases hv
theorem hlib_evo {f : FuncId} {args : List AV} {st st' : St} {r : CRes} (h : HLib f args st r st') : Evo st st':=by
  obtain ⟨_,rfl,_⟩:=h
  exact Evo.refl _
noncomputable def evLib (call : EvF) : EvF:=fun f args st =>
  match Nat.beq f 50 with
  | true=>match args with
    | [v,.sc (.string sep)]=>match strsOf st v with
      | some xs=>match decide (xs.length≤1000000),decide ((Lib.join (xs.map (·.data.toList)) sep.data.toList).length≤1000000000) with
        | true,true=>some (.ret (.sc (.string (joinOf xs sep))),st)
        | _,_=>none
      | none=>none
    | _=>none
  | false=>call f args st
theorem evLib_ok {H : FuncId→List AV→St→CRes→St→Prop} (hH : ∀ f args st r st',HLib f args st r st'→H f args st r st') {call : EvF} (hc : CallOk Go.Proofs.Tryd.prog fnOf H call) : CallOk Go.Proofs.Tryd.prog fnOf H (evLib call):=by
  intro f args st r st' h
  unfold evLib at h
  split at h
  · rename_i hf
    have hf:=Nat.eq_of_beq_eq_true hf
    subst hf
    split at h
    · rename_i v sep
      split at h
      · rename_i xs hxs
        split at h
        · rename_i h1 h2
          simp only [Option.some.injEq,Prod.mk.injEq] at h
          obtain ⟨rfl,rfl⟩:=h
          exact .hook (hH _ _ _ _ _ ⟨rfl,rfl,v,sep,xs,rfl,hxs,of_decide_eq_true h1,of_decide_eq_true h2,rfl⟩)
        · cases h
      · cases h
    · cases h
  · exact hc _ _ _ _ _ h
end Go.VX.Seat
end
section
set_option maxRecDepth 100000
namespace Go.VX.Seat
open Go.Proofs
def HTold : FuncId→List AV→St→CRes→St→Prop:=fun f args st r st'=>HFind f args st r st'∨HBld f args st r st'∨HNat f args st r st'∨HLib f args st r st'
theorem htold_sound {f : FuncId} {args : List AV} {st st' : St} {r : CRes} (h : HTold f args st r st') : SoundCall Go.Proofs.Tryd.prog [0,3,4,1,2] f args st r st':=by
  rcases h with h | h | h | h
  · exact hfind_sound h
  · exact hbld_sound h
  · exact hnat_sound h
  · exact hlib_sound h
theorem htold_evo {f : FuncId} {args : List AV} {st st' : St} {r : CRes} (h : HTold f args st r st') : Evo st st':=by
  rcases h with h | h | h | h
  · exact hfind_evo h
  · exact hbld_evo h
  · exact hnat_evo h
  · exact hlib_evo h
def bldOfBox : Option Box→Option (List UInt8 × Nat)
  | some ⟨[.sc (.int .i64 a),.sc (.int .i64 b),.sc (.int .i64 c),.sc (.string s)],m,ver⟩=>if a = 1∧b = 99∧c = 5∧m = 3∧s.data.toList.length≤1000000000 then some (s.data.toList,ver) else none
  | _=>none
theorem bldOfBox_ok {x : Option Box} {l : List UInt8} {ver : Nat} (h : bldOfBox x = some (l,ver)) : x = some ⟨bldCells l,3,ver⟩∧l.length≤1000000000:=by
  unfold bldOfBox at h
  split at h
  · rename_i a b c s m v
    split at h
    · rename_i hc
      obtain ⟨rfl,rfl,rfl,rfl,hl⟩:=hc
      simp only [Option.some.injEq,Prod.mk.injEq] at h
      obtain ⟨rfl,rfl⟩:=h
      refine ⟨?_,hl⟩
      cases s
      simp [bldCells]
    · cases h
  · cases h
noncomputable def evBld (call : EvF) : EvF:=fun f args st =>
  match Nat.beq f 61 with
  | true=>match args with
    | [.ptr b o,.sc (.string s)]=>match Nat.beq o 0,bldOfBox st[b]?,decide (s.size≤1000000000) with
      | true,some (l,ver),true=>some (.ret (.tup [iA s.size,.sc .nilIface]),st.set b ⟨bldCells (l++s.data.toList),3,ver + 1⟩)
      | _,_,_=>none
    | _=>none
  | false=>match Nat.beq f 62 with
    | true=>match args with
      | [.ptr b o]=>match Nat.beq o 0,bldOfBox st[b]? with
        | true,some (l,ver)=>some (.ret (.sc (.string ⟨l.toArray⟩)),st)
        | _,_=>none
      | _=>none
    | false=>call f args st
theorem evBld_ok {call : EvF} (hc : CallOk Go.Proofs.Tryd.prog fnOf HTold call) : CallOk Go.Proofs.Tryd.prog fnOf HTold (evBld call):=by
  intro f args st r st' h
  unfold evBld at h
  split at h
  · rename_i hf
    have hf:=Nat.eq_of_beq_eq_true hf
    subst hf
    split at h
    · rename_i b o s
      split at h
      · rename_i l ver ho hb hs
        simp only [Option.some.injEq,Prod.mk.injEq] at h
        obtain ⟨rfl,rfl⟩:=h
        have ho:=Nat.eq_of_beq_eq_true ho
        subst ho
        obtain ⟨h1,h2⟩:=bldOfBox_ok hb
        exact .hook (.inr (.inl ⟨b,l,ver,h1,h2,.inl ⟨rfl,s,rfl,of_decide_eq_true hs,rfl,rfl⟩⟩))
      · cases h
    · cases h
  · split at h
    · rename_i hf
      have hf:=Nat.eq_of_beq_eq_true hf
      subst hf
      split at h
      · rename_i b o
        split at h
        · rename_i l ver ho hb
          simp only [Option.some.injEq,Prod.mk.injEq] at h
          obtain ⟨rfl,rfl⟩:=h
          have ho:=Nat.eq_of_beq_eq_true ho
          subst ho
          obtain ⟨h1,h2⟩:=bldOfBox_ok hb
          exact .hook (.inr (.inl ⟨b,l,ver,h1,h2,.inr ⟨rfl,rfl,rfl,rfl⟩⟩))
        · cases h
      · cases h
    · exact hc _ _ _ _ _ h
noncomputable def evNat (call : EvF) : EvF:=fun f args st =>
  match natF f with
  | some e=>match cellsV args with
    | some vs=>match closed Go.Proofs.Tryd.prog (e vs.toArray) with
      | some v=>match cellVal v with
        | true=>some (.ret (.sc v),st)
        | false=>none
      | none=>none
    | none=>none
  | none=>call f args st
theorem evNat_ok {call : EvF} (hc : CallOk Go.Proofs.Tryd.prog fnOf HTold call) : CallOk Go.Proofs.Tryd.prog fnOf HTold (evNat call):=by
  intro f args st r st' h
  unfold evNat at h
  split at h
  · rename_i e he
    split at h
    · rename_i vs hvs
      split at h
      · rename_i v hv
        split at h
        · rename_i hcv
          simp only [Option.some.injEq,Prod.mk.injEq] at h
          obtain ⟨rfl,rfl⟩:=h
          exact .hook (.inr (.inr (.inl ⟨e,vs,v,he,hvs,hv,hcv,rfl,rfl⟩)))
        · cases h
      · cases h
    · cases h
  · exact hc _ _ _ _ _ h
noncomputable def runClosed (n : Nat) (f : FuncId) (st : St) : Option (CRes × St):=evF fnOf (evC Go.Proofs.Tryd.prog fnOf (fun call=>evLib (evNat (evBld (evFind n call)))) n) f [] st
theorem runClosed_ok {n : Nat} {f : FuncId} {st st' : St} {r : CRes} (h : runClosed n f st = some (r,st')) : J Go.Proofs.Tryd.prog fnOf HTold (.call f [] st r st') :=
  evF_ok (fun _ _ _ _ _ h=>htold_evo h) (evC_ok (fun _ _ _ _ _ h=>htold_evo h) (fun _ h=>evLib_ok (fun _ _ _ _ _ h=>.inr (.inr (.inr h))) (evNat_ok (evBld_ok (evFind_ok (fun _ _ _ _ _ h=>.inl h) n h)))) n) _ _ _ _ _ h
end Go.VX.Seat
end
section
set_option maxRecDepth 1000000
namespace Go.VX.Seat
def okTrue : Option (CRes × St)→Bool
  | some (.ret (.sc (.bool true)),_)=>true
  | _=>false
theorem alive_run : okTrue (runClosed 1000 14 glS) = true:=by kernel_rfl
theorem okTrue_inv : ∀ {r : Option (CRes × St)},okTrue r = true→∃ st',r = some (.ret (bA true),st')
  | some (.ret (.sc (.bool true)),st'),_=>⟨st',rfl⟩
theorem alive_J : ∃ st',J Go.Proofs.Tryd.prog fnOf HTold (.call 14 [] glS (.ret (bA true)) st') :=
  let ⟨st',he⟩:=okTrue_inv alive_run
  ⟨st',runClosed_ok he⟩
end Go.VX.Seat
end
section
set_option maxRecDepth 1000000
namespace Go.VX
open Go.RowKit (Below)
namespace Seat
open Go.Proofs
def GB (st : St) : Prop:=∀ (j : Nat) (x : Box),glS[j]? = some x→st[j]? = some x
theorem GB.app {st : St} (h : GB st) (L : St) : GB (st++L):=fun j x hx=>by
  have:=h j x hx
  rw [List.getElem?_append_left (List.getElem?_eq_some_iff.1 this).1]; exact this
theorem GB.glob {st : St} (h : GB st) : GlobAt st:=BoxAt.of (m:=1) (v:=0) (h 0 formBox rfl) (by decide)
theorem glS_flat : (glS.all fun x=>Nat.beq x.mode 1 && x.cells.all AV.flat) = true:=by decide +kernel
theorem glS_len : ([0,3,4,1,2] : List Nat).length = glS.length:=rfl
theorem glS_in {j : Nat} {x : Box} (h : glS[j]? = some x) : x.mode = 1∧∀ a ∈ x.cells,a.flat = true:=by
  have:=List.all_eq_true.1 glS_flat x (List.mem_of_getElem? h)
  simp only [Bool.and_eq_true] at this
  exact ⟨Nat.eq_of_beq_eq_true this.1,fun a ha=>List.all_eq_true.1 this.2 a ha⟩
theorem callable_alive : Callable Go.Proofs.Tryd.prog 14:=⟨Go.Proofs.Tryd.f14,by kernel_rfl,by kernel_rfl,by kernel_rfl⟩
theorem alive_sound {st : St} (hg : GB st) : SoundCall Go.Proofs.Tryd.prog [0,3,4,1,2] 14 [] st (.ret (bA true)) st:=by
  obtain ⟨st',j⟩:=alive_J
  have S:=(sound (P:=Go.Proofs.Tryd.prog) (gl:=[0,3,4,1,2]) mixed (fun f fn h=>fn_ok f fn h) (fun _ _ _ _ _ h=>htold_sound h) (fun _ _ _ _ _ h=>htold_evo h) j).c callable_alive
  refine SoundC.sound ?_ callable_alive
  intro n0 wi K w args' hW hn hargs
  cases hargs
  have hlt : ∀ {b : Nat} {x : Box},glS[b]? = some x→b < glS.length:=fun h=>(List.getElem?_eq_some_iff.1 h).1
  have hkk : ∀ {b : Nat} {kb : KB},(if b < glS.length then K b else none) = some kb→b < glS.length∧K b = some kb:=fun {b kb} h=>by
    split at h
    · exact ⟨by assumption,h⟩
    · cases h
  have hW0 : WRel w.heap.size w [0,3,4,1,2] (fun b=>if b < glS.length then K b else none) glS w:={
    below:=⟨rfl,rfl,rfl,Nat.le_refl _,fun _ _=>rfl⟩
    dom:=fun b kb h=>(hkk h).1
    lt:=fun b x kb h1 h2 h3=>hW.lt b x kb (hg b x h1) h2 (hkk h3).2
    cell:=fun b x kb h1 h2 h3 o a h4=>by
      obtain ⟨v,hv,hr⟩:=hW.cell b x kb (hg b x h1) h2 (hkk h3).2 o a h4
      exact ⟨v,hv,hr.flat ((glS_in h1).2 a (List.mem_of_getElem? h4))⟩
    live:=fun b x kb h1 h2 h3=>by rw [(glS_in h1).1] at h2; cases h2
    excl:=fun b x kb b' x' kb' h1 h2 h3 h4 h5 h6 h7=>by rw [(glS_in h1).1] at h2; cases h2
    fit:=fun b x kb h1 h2 h3=>hW.fit b x kb (hg b x h1) h2 (hkk h3).2
    glob:=fun j g h=>by
      obtain ⟨kb,h1,h2,h3,h4⟩:=hW.glob j g h
      have hj : j < glS.length:=by rw [←glS_len]; exact (List.getElem?_eq_some_iff.1 h).1
      exact ⟨kb,by simp only [if_pos hj]; exact h1,h2,h3,h4.step hW.below hn⟩
    fo:=Fo.none fun b x h=>by rw [(glS_in h).1]; decide }
  refine (S w.heap.size w _ w [] hW0 (Nat.le_refl _) .nil).mono fun e w' hp=>?_
  obtain ⟨K',hW',_,v',rfl,hv⟩:=hp
  exact ⟨K,hW.keep (hW.size hn) hW'.below,Fr.refl K st,v',rfl,hv.flat rfl⟩
def HAll : FuncId→List AV→St→CRes→St→Prop:=fun f args st r st'=>HTold f args st r st'∨(f = 14∧args = []∧r = .ret (bA true)∧st' = st∧GB st)∨HSrt f args st r st'
theorem hall_sound {f : FuncId} {args : List AV} {st st' : St} {r : CRes} (h : HAll f args st r st') : SoundCall Go.Proofs.Tryd.prog [0,3,4,1,2] f args st r st':=by
  rcases h with h | ⟨rfl,rfl,rfl,rfl,hg⟩ | h
  · exact htold_sound h
  · exact alive_sound hg
  · exact hsrt_sound h
theorem hall_evo {f : FuncId} {args : List AV} {st st' : St} {r : CRes} (h : HAll f args st r st') : Evo st st':=by
  rcases h with h | ⟨rfl,rfl,rfl,rfl,hg⟩ | h
  · exact htold_evo h
  · exact Evo.refl _
  · exact hsrt_evo h
noncomputable def XS : Cx:=⟨Go.Proofs.Tryd.prog,fnOf,HAll⟩
theorem onXS : On XS:=⟨rfl,rfl⟩
theorem seat_sound {f : FuncId} {args : List AV} {st st' : St} {r : CRes} (h : J XS.P XS.F XS.H (.call f args st r st')) : SoundCall Go.Proofs.Tryd.prog [0,3,4,1,2] f args st r st' :=
  sound (P:=Go.Proofs.Tryd.prog) (gl:=[0,3,4,1,2]) mixed (fun f fn h=>fn_ok f fn h) (fun _ _ _ _ _ h=>hall_sound h) (fun _ _ _ _ _ h=>hall_evo h) h
structure OnH (X : Cx) : Prop extends On X where
  told : ∀ f args st r st',HTold f args st r st'→X.H f args st r st'
  alive : ∀ st : St,GB st→X.H 14 [] st (.ret (bA true)) st
  srt : ∀ f args st r st',HSrt f args st r st'→X.H f args st r st'
theorem onH : OnH XS:={ onXS with told:=fun _ _ _ _ _ h=>.inl h,alive:=fun st h=>.inr (.inl ⟨rfl,rfl,rfl,rfl,h⟩),srt:=fun _ _ _ _ _ h=>.inr (.inr h) }
end Seat
end Go.VX
end
open Go.VX.AV renaming cell? → xa, toV → xb
open Int renaming reduceAdd → xc, reduceLE → xd, reduceLT → xe, reduceNeg → xf, reduceToNat → xg
open Nat renaming reduceAdd → xh, reduceEqDiff → xi, reduceLeDiff → xj, reduceMul → xk, reduceSub → xm
open Go.VX.VOpd renaming ev → xn
open Go.VX renaming asInt? → xo, asNat? → xp, cellVal → xq, cellsV → xr, fillA → xv, partsEv → xw, resOf → xy, splice → xz, tupOf → ya, zeroes → yb
section
set_option maxRecDepth 4000
namespace Go.VX.Seat
open Go.Proofs
structure MachV where
  u0 : Int
  u1 : Int
  u2 : Int
  u3 : Int
  l0 : Int
  l1 : Int
  l2 : Int
  l3 : Int
  regs : Int
  banks : Int
  ports : Int
  deriving DecidableEq
def MachV.row (m : MachV) : List AV:=[iA m.u0,iA m.u1,iA m.u2,iA m.u3,iA m.l0,iA m.l1,iA m.l2,iA m.l3,iA m.regs,iA m.banks,iA m.ports]
def inB (n lo hi : Int) : Bool:=decide (lo≤n) && decide (n≤hi)
def okM (m : MachV) : Bool:=inB m.u0 1 8 && inB m.l0 1 8 && inB m.u1 1 8 && inB m.l1 1 8 && inB m.u2 1 8 && inB m.l2 1 8 && inB m.u3 1 8 && inB m.l3 1 8 && inB m.regs 1 4096 && inB m.banks 1 8 && inB m.ports 4 32
def chkM (m : MachV) : Int:=if okM m then 0 else 2
def MachV.us (m : MachV) : List Int:=[m.u0,m.u1,m.u2,m.u3]
def MachV.ls (m : MachV) : List Int:=[m.l0,m.l1,m.l2,m.l3]
theorem inB_iff {n lo hi : Int} : inB n lo hi = true↔lo≤n∧n≤hi:=by simp [inB]
section
variable {X : Cx} {st : St}
theorem j_machine_in (h : On X) (n lo hi : Int) : J X.P X.F X.H (.call 42 [iA n,iA lo,iA hi] st (.ret (bA (inB n lo hi))) st):=by
  refine pure_intro (by rw [h.F]; rfl) rfl ?_
  unfold inB
  simp only [v_machine_in,kB,kZ,kD,kE,xm,xg,xk,xc,xd,xe,xf,xj,xi,xh,reduceIte,reduceCtorEq,xz,xy,xq]
  cases hc : decide (lo≤n)<;>simp only [hc,kB,kZ,kD,kE,xm,xg,xk,xc,xd,xe,xf,xj,xi,xh,reduceIte,reduceCtorEq,xz,xy,xq]
  all_goals first | exact ⟨_,rfl⟩ | exact ⟨rfl,_,rfl⟩ | exact ⟨trivial,_,rfl⟩ | exact ⟨[],(List.append_nil _).symm⟩
theorem j_machine_Check (h : On X) (m : MachV) : J X.P X.F X.H (.call 27 [.agg m.row] st (.ret (iA (chkM m))) st):=by
  refine pure_intro (by rw [h.F]; rfl) rfl ?_
  have w1 : IntKind.wrap .i64 (0 + 1) = 1:=rfl
  have w2 : IntKind.wrap .i64 (1 + 1) = 2:=rfl
  have w3 : IntKind.wrap .i64 (2 + 1) = 3:=rfl
  have w4 : IntKind.wrap .i64 (3 + 1) = 4:=rfl
  simp only [v_machine_Check,MachV.row,kB,kZ,kD,kE,xm,xg,xk,xc,xd,xe,xf,xj,xi,xh,reduceIte,reduceCtorEq,xz,xy,xq]
  refine loop_unroll ?_
  simp only [kB,kZ,kD,kE,xm,xg,xk,xc,xd,xe,xf,xj,xi,xh,reduceIte,reduceCtorEq,xz,xy,xq]
  refine callO_same (j_machine_in h _ _ _) ?_
  cases h_u0 : inB m.u0 1 8
  · have e : chkM m = 2:=by unfold chkM okM; simp only [h_u0,Bool.false_and,Bool.and_false,Bool.false_eq_true,if_false]
    simp only [h_u0,e,w1,w2,w3,w4,kB,kZ,kD,kE,xm,xg,xk,xc,xd,xe,xf,xj,xi,xh,reduceIte,reduceCtorEq,xz,xy,xq]
    first | exact ⟨_,rfl⟩ | exact ⟨rfl,_,rfl⟩ | exact ⟨trivial,_,rfl⟩ | exact ⟨[],(List.append_nil _).symm⟩
  simp only [h_u0,w1,w2,w3,w4,kB,kZ,kD,kE,xm,xg,xk,xc,xd,xe,xf,xj,xi,xh,reduceIte,reduceCtorEq,xz,xy,xq]
  refine callO_same (j_machine_in h _ _ _) ?_
  cases h_l0 : inB m.l0 1 8
  · have e : chkM m = 2:=by unfold chkM okM; simp only [h_l0,Bool.false_and,Bool.and_false,Bool.false_eq_true,if_false]
    simp only [h_l0,e,w1,w2,w3,w4,kB,kZ,kD,kE,xm,xg,xk,xc,xd,xe,xf,xj,xi,xh,reduceIte,reduceCtorEq,xz,xy,xq]
    first | exact ⟨_,rfl⟩ | exact ⟨rfl,_,rfl⟩ | exact ⟨trivial,_,rfl⟩ | exact ⟨[],(List.append_nil _).symm⟩
  simp only [h_l0,w1,w2,w3,w4,kB,kZ,kD,kE,xm,xg,xk,xc,xd,xe,xf,xj,xi,xh,reduceIte,reduceCtorEq,xz,xy,xq]
  refine loop_unroll ?_
  simp only [kB,kZ,kD,kE,xm,xg,xk,xc,xd,xe,xf,xj,xi,xh,reduceIte,reduceCtorEq,xz,xy,xq]
  refine callO_same (j_machine_in h _ _ _) ?_
  cases h_u1 : inB m.u1 1 8
  · have e : chkM m = 2:=by unfold chkM okM; simp only [h_u1,Bool.false_and,Bool.and_false,Bool.false_eq_true,if_false]
    simp only [h_u1,e,w1,w2,w3,w4,kB,kZ,kD,kE,xm,xg,xk,xc,xd,xe,xf,xj,xi,xh,reduceIte,reduceCtorEq,xz,xy,xq]
    first | exact ⟨_,rfl⟩ | exact ⟨rfl,_,rfl⟩ | exact ⟨trivial,_,rfl⟩ | exact ⟨[],(List.append_nil _).symm⟩
  simp only [h_u1,w1,w2,w3,w4,kB,kZ,kD,kE,xm,xg,xk,xc,xd,xe,xf,xj,xi,xh,reduceIte,reduceCtorEq,xz,xy,xq]
  refine callO_same (j_machine_in h _ _ _) ?_
  cases h_l1 : inB m.l1 1 8
  · have e : chkM m = 2:=by unfold chkM okM; simp only [h_l1,Bool.false_and,Bool.and_false,Bool.false_eq_true,if_false]
    simp only [h_l1,e,w1,w2,w3,w4,kB,kZ,kD,kE,xm,xg,xk,xc,xd,xe,xf,xj,xi,xh,reduceIte,reduceCtorEq,xz,xy,xq]
    first | exact ⟨_,rfl⟩ | exact ⟨rfl,_,rfl⟩ | exact ⟨trivial,_,rfl⟩ | exact ⟨[],(List.append_nil _).symm⟩
  simp only [h_l1,w1,w2,w3,w4,kB,kZ,kD,kE,xm,xg,xk,xc,xd,xe,xf,xj,xi,xh,reduceIte,reduceCtorEq,xz,xy,xq]
  refine loop_unroll ?_
  simp only [kB,kZ,kD,kE,xm,xg,xk,xc,xd,xe,xf,xj,xi,xh,reduceIte,reduceCtorEq,xz,xy,xq]
  refine callO_same (j_machine_in h _ _ _) ?_
  cases h_u2 : inB m.u2 1 8
  · have e : chkM m = 2:=by unfold chkM okM; simp only [h_u2,Bool.false_and,Bool.and_false,Bool.false_eq_true,if_false]
    simp only [h_u2,e,w1,w2,w3,w4,kB,kZ,kD,kE,xm,xg,xk,xc,xd,xe,xf,xj,xi,xh,reduceIte,reduceCtorEq,xz,xy,xq]
    first | exact ⟨_,rfl⟩ | exact ⟨rfl,_,rfl⟩ | exact ⟨trivial,_,rfl⟩ | exact ⟨[],(List.append_nil _).symm⟩
  simp only [h_u2,w1,w2,w3,w4,kB,kZ,kD,kE,xm,xg,xk,xc,xd,xe,xf,xj,xi,xh,reduceIte,reduceCtorEq,xz,xy,xq]
  refine callO_same (j_machine_in h _ _ _) ?_
  cases h_l2 : inB m.l2 1 8
  · have e : chkM m = 2:=by unfold chkM okM; simp only [h_l2,Bool.false_and,Bool.and_false,Bool.false_eq_true,if_false]
    simp only [h_l2,e,w1,w2,w3,w4,kB,kZ,kD,kE,xm,xg,xk,xc,xd,xe,xf,xj,xi,xh,reduceIte,reduceCtorEq,xz,xy,xq]
    first | exact ⟨_,rfl⟩ | exact ⟨rfl,_,rfl⟩ | exact ⟨trivial,_,rfl⟩ | exact ⟨[],(List.append_nil _).symm⟩
  simp only [h_l2,w1,w2,w3,w4,kB,kZ,kD,kE,xm,xg,xk,xc,xd,xe,xf,xj,xi,xh,reduceIte,reduceCtorEq,xz,xy,xq]
  refine loop_unroll ?_
  simp only [kB,kZ,kD,kE,xm,xg,xk,xc,xd,xe,xf,xj,xi,xh,reduceIte,reduceCtorEq,xz,xy,xq]
  refine callO_same (j_machine_in h _ _ _) ?_
  cases h_u3 : inB m.u3 1 8
  · have e : chkM m = 2:=by unfold chkM okM; simp only [h_u3,Bool.false_and,Bool.and_false,Bool.false_eq_true,if_false]
    simp only [h_u3,e,w1,w2,w3,w4,kB,kZ,kD,kE,xm,xg,xk,xc,xd,xe,xf,xj,xi,xh,reduceIte,reduceCtorEq,xz,xy,xq]
    first | exact ⟨_,rfl⟩ | exact ⟨rfl,_,rfl⟩ | exact ⟨trivial,_,rfl⟩ | exact ⟨[],(List.append_nil _).symm⟩
  simp only [h_u3,w1,w2,w3,w4,kB,kZ,kD,kE,xm,xg,xk,xc,xd,xe,xf,xj,xi,xh,reduceIte,reduceCtorEq,xz,xy,xq]
  refine callO_same (j_machine_in h _ _ _) ?_
  cases h_l3 : inB m.l3 1 8
  · have e : chkM m = 2:=by unfold chkM okM; simp only [h_l3,Bool.false_and,Bool.and_false,Bool.false_eq_true,if_false]
    simp only [h_l3,e,w1,w2,w3,w4,kB,kZ,kD,kE,xm,xg,xk,xc,xd,xe,xf,xj,xi,xh,reduceIte,reduceCtorEq,xz,xy,xq]
    first | exact ⟨_,rfl⟩ | exact ⟨rfl,_,rfl⟩ | exact ⟨trivial,_,rfl⟩ | exact ⟨[],(List.append_nil _).symm⟩
  simp only [h_l3,w1,w2,w3,w4,kB,kZ,kD,kE,xm,xg,xk,xc,xd,xe,xf,xj,xi,xh,reduceIte,reduceCtorEq,xz,xy,xq]
  refine loop_unroll ?_
  simp only [kB,kZ,kD,kE,xm,xg,xk,xc,xd,xe,xf,xj,xi,xh,reduceIte,reduceCtorEq,xz,xy,xq]
  refine callO_same (j_machine_in h _ _ _) ?_
  cases h_regs : inB m.regs 1 4096
  · have e : chkM m = 2:=by unfold chkM okM; simp only [h_regs,Bool.false_and,Bool.and_false,Bool.false_eq_true,if_false]
    simp only [h_regs,e,w1,w2,w3,w4,kB,kZ,kD,kE,xm,xg,xk,xc,xd,xe,xf,xj,xi,xh,reduceIte,reduceCtorEq,xz,xy,xq]
    first | exact ⟨_,rfl⟩ | exact ⟨rfl,_,rfl⟩ | exact ⟨trivial,_,rfl⟩ | exact ⟨[],(List.append_nil _).symm⟩
  simp only [h_regs,w1,w2,w3,w4,kB,kZ,kD,kE,xm,xg,xk,xc,xd,xe,xf,xj,xi,xh,reduceIte,reduceCtorEq,xz,xy,xq]
  refine callO_same (j_machine_in h _ _ _) ?_
  cases h_banks : inB m.banks 1 8
  · have e : chkM m = 2:=by unfold chkM okM; simp only [h_banks,Bool.false_and,Bool.and_false,Bool.false_eq_true,if_false]
    simp only [h_banks,e,w1,w2,w3,w4,kB,kZ,kD,kE,xm,xg,xk,xc,xd,xe,xf,xj,xi,xh,reduceIte,reduceCtorEq,xz,xy,xq]
    first | exact ⟨_,rfl⟩ | exact ⟨rfl,_,rfl⟩ | exact ⟨trivial,_,rfl⟩ | exact ⟨[],(List.append_nil _).symm⟩
  simp only [h_banks,w1,w2,w3,w4,kB,kZ,kD,kE,xm,xg,xk,xc,xd,xe,xf,xj,xi,xh,reduceIte,reduceCtorEq,xz,xy,xq]
  refine callO_same (j_machine_in h _ _ _) ?_
  cases h_ports : inB m.ports 4 32
  · have e : chkM m = 2:=by unfold chkM okM; simp only [h_ports,Bool.false_and,Bool.and_false,Bool.false_eq_true,if_false]
    simp only [h_ports,e,w1,w2,w3,w4,kB,kZ,kD,kE,xm,xg,xk,xc,xd,xe,xf,xj,xi,xh,reduceIte,reduceCtorEq,xz,xy,xq]
    first | exact ⟨_,rfl⟩ | exact ⟨rfl,_,rfl⟩ | exact ⟨trivial,_,rfl⟩ | exact ⟨[],(List.append_nil _).symm⟩
  simp only [h_ports,w1,w2,w3,w4,kB,kZ,kD,kE,xm,xg,xk,xc,xd,xe,xf,xj,xi,xh,reduceIte,reduceCtorEq,xz,xy,xq]
  have e : chkM m = 0:=by unfold chkM okM; simp only [h_u0,h_l0,h_u1,h_l1,h_u2,h_l2,h_u3,h_l3,h_regs,h_banks,h_ports,Bool.and_self,if_true]
  simp only [e,kB,kZ,kD,kE,xm,xg,xk,xc,xd,xe,xf,xj,xi,xh,reduceIte,reduceCtorEq,xz,xy,xq]
  first | exact ⟨_,rfl⟩ | exact ⟨rfl,_,rfl⟩ | exact ⟨trivial,_,rfl⟩ | exact ⟨[],(List.append_nil _).symm⟩
end
end Go.VX.Seat
end
section
set_option maxRecDepth 4000
namespace Go.VX.Seat
open Go.Proofs Go.Lib
def spl : List UInt8→List (List UInt8)
  | []=>[[]]
  | c :: r=>if c = 32 then [] :: spl r else match spl r with
    | x :: t=>(c :: x) :: t
    | []=>[[c]]
theorem spl_miss : ∀ {a : List UInt8},32 ∉ a→spl a = [a]
  | [],_=>rfl
  | c :: r,h=>by
    simp only [List.mem_cons,not_or] at h
    unfold spl
    rw [if_neg (fun e=>h.1 e.symm),spl_miss h.2]
theorem spl_hit : ∀ {a b : List UInt8},32 ∉ a→spl (a++32 :: b) = a :: spl b
  | [],b,_=>by
    show spl (32 :: b) = _
    rw [spl,if_pos rfl]
  | c :: r,b,h=>by
    simp only [List.mem_cons,not_or] at h
    show spl (c :: (r++32 :: b)) = _
    rw [spl,if_neg (fun e=>h.1 e.symm),spl_hit h.2]
theorem spl_len : ∀ l : List UInt8,(spl l).length = l.count 32 + 1
  | []=>rfl
  | c :: r=>by
    unfold spl
    by_cases hc : c = 32
    · rw [if_pos hc,List.length_cons,spl_len r,hc,List.count_cons_self]
    · have ih:=spl_len r
      rw [if_neg hc,List.count_cons_of_ne (fun e=>hc e)]
      cases hs : spl r with
      | nil=>rw [hs] at ih; simp at ih
      | cons x t=>rw [hs] at ih; simpa using ih
theorem spl_join : ∀ (r : List (List UInt8)) (x : List UInt8),32 ∉ x→(∀ y ∈ r,32 ∉ y)→spl (Lib.join (x :: r) [32]) = x :: r
  | [],x,hx,_=>by rw [join_one,spl_miss hx]
  | y :: r,x,hx,hr=>by
    have e : Lib.join (x :: y :: r) [32] = x++32 :: Lib.join (y :: r) [32]:=by
      rw [join_cons,join_cons]
      simp [joinTail]
    rw [e,spl_hit hx,spl_join r y (hr y (List.mem_cons_self ..)) fun z hz=>hr z (List.mem_cons_of_mem _ hz)]
theorem digit_toNat {d : Nat} (h : d < 10) : (UInt8.ofNat (48 + d)).toNat = 48 + d:=by simp; omega
theorem decDigits_mem : ∀ (u : Nat) (c : UInt8),c ∈ decDigits u→48≤c.toNat∧c.toNat≤57
  | u,c,h=>by
    rw [decDigits] at h
    split at h
    · rename_i hu
      have:=List.mem_singleton.1 h
      subst this
      rw [digit_toNat hu]
      omega
    · rcases List.mem_append.1 h with h | h
      · exact decDigits_mem (u / 10) c h
      · have:=List.mem_singleton.1 h
        subst this
        rw [digit_toNat (Nat.mod_lt _ (by decide))]
        have:=Nat.mod_lt u (show 10 > 0 by decide)
        omega
theorem itoa_mem {n : Int} {c : UInt8} (h : c ∈ itoa n) : 45≤c.toNat:=by
  unfold itoa at h
  split at h
  · rcases List.mem_cons.1 h with rfl | h
    · decide
    · have:=decDigits_mem _ _ h; omega
  · have:=decDigits_mem _ _ h; omega
theorem itoa_no32 (n : Int) : 32 ∉ itoa n:=fun h=>by
  have:=itoa_mem h
  have e : (32 : UInt8).toNat = 32:=rfl
  omega
theorem decDigits_len : ∀ (k u : Nat),u < 10 ^ (k + 1)→(decDigits u).length≤k + 1
  | k,u,h=>by
    rw [decDigits]
    split
    · simp
    · rename_i hu
      cases k with
      | zero=>omega
      | succ k =>
        have:=decDigits_len k (u / 10) (by rw [Nat.pow_succ] at h; omega)
        simp
        omega
def stepR (n : Int) (c : UInt8) : Int:=if 48≤c.toNat∧c.toNat≤57 then 10 * n + ((c.toNat : Int) - 48) else n
def numR (l : List UInt8) : Int:=(l.take 6).foldl stepR 0
theorem fold_dec (u : Nat) : (decDigits u).foldl stepR 0 = (u : Int):=by
  rw [decDigits]
  split
  · rename_i hu
    simp only [List.foldl_cons,List.foldl_nil,stepR,digit_toNat hu]
    rw [if_pos (by omega)]
    omega
  · have hm:=Nat.mod_lt u (show 10 > 0 by decide)
    rw [List.foldl_append,fold_dec (u / 10)]
    simp only [List.foldl_cons,List.foldl_nil,stepR,digit_toNat hm]
    rw [if_pos (by omega)]
    omega
termination_by u
decreasing_by omega
theorem numR_itoa {n : Int} (h0 : 0≤n) (h1 : n≤4096) : numR (itoa n) = n:=by
  unfold numR itoa
  rw [if_neg (by omega)]
  have := decDigits_len 5 n.toNat (by have : n.toNat ≤ 4096 := by omega
                                      omega)
  rw [List.take_of_length_le this,fold_dec]
  omega
theorem fold_bnd : ∀ (l : List UInt8) (n : Int) (k : Nat),0≤n→n < 10 ^ k→0≤l.foldl stepR n∧l.foldl stepR n < 10 ^ (k + l.length)
  | [],n,k,h0,h1=>⟨h0,h1⟩
  | c :: r,n,k,h0,h1=>by
    have hp : (0 : Int) < 10 ^ k:=by omega
    have e : (10 : Int) ^ (k + 1) = 10 * 10 ^ k:=by rw [Int.pow_succ,Int.mul_comm]
    have hs : 0≤stepR n c∧stepR n c < 10 ^ (k + 1):=by
      unfold stepR
      split<;>omega
    have:=fold_bnd r (stepR n c) (k + 1) hs.1 hs.2
    rw [List.foldl_cons,List.length_cons,show k + (r.length + 1) = k + 1 + r.length by omega]
    exact this
theorem numR_bnd (l : List UInt8) : 0≤numR l∧numR l < 1000000:=by
  have h:=fold_bnd (l.take 6) 0 0 (by decide) (by decide)
  have hl : (l.take 6).length≤6:=by simp; omega
  refine ⟨h.1,Int.lt_of_lt_of_le h.2 ?_⟩
  generalize (l.take 6).length = m at hl
  match m,hl with
  | 0,_=>decide
  | 1,_=>decide
  | 2,_=>decide
  | 3,_=>decide
  | 4,_=>decide
  | 5,_=>decide
  | 6,_=>decide
def atoiL (l : List UInt8) : Int:=atoiV ⟨l.toArray⟩
theorem parse_app : ∀ (a b : List UInt8) (acc u : Nat),parseUint10 acc a = .ok u→parseUint10 acc (a++b) = parseUint10 u b
  | [],b,acc,u,h=>by
    simp only [parseUint10] at h
    injection h with h
    subst h
    rfl
  | c :: r,b,acc,u,h=>by
    simp only [parseUint10,List.cons_append] at h ⊢
    split at h
    · rename_i h1
      rw [if_pos h1]
      split at h
      · cases h
      · rename_i h2
        rw [if_neg h2]
        split at h
        · cases h
        · rename_i h3
          rw [if_neg h3]
          exact parse_app r b _ u h
    · cases h
theorem parse_dec : ∀ u : Nat,u≤1000000→parseUint10 0 (decDigits u) = .ok u
  | u,h=>by
    rw [decDigits]
    split
    · rename_i hu
      simp only [parseUint10,digit_toNat hu]
      rw [if_pos (by omega),if_neg (by omega),if_neg (by omega)]
      congr 1
      omega
    · have hm:=Nat.mod_lt u (show 10 > 0 by decide)
      rw [parse_app _ _ 0 (u / 10) (parse_dec (u / 10) (by omega))]
      simp only [parseUint10,digit_toNat hm]
      rw [if_pos (by omega),if_neg (by omega),if_neg (by omega)]
      congr 1
      omega
theorem atoi_itoa {n : Int} (h0 : 0≤n) (h1 : n≤4096) : atoiL (itoa n) = n:=by
  have e : itoa n = decDigits n.toNat:=by unfold itoa; rw [if_neg (by omega)]
  have ha : atoiAll (itoa n) = .ok n:=by
    rw [e]
    have hp:=parse_dec n.toNat (by omega)
    have hm:=decDigits_mem n.toNat
    cases hd : decDigits n.toNat with
    | nil =>
      rw [decDigits] at hd
      split at hd<;>simp at hd
    | cons c r =>
      rw [hd] at hp hm
      have hc:=hm c (List.mem_cons_self ..)
      rw [atoiAll_plain c r (by omega) (by omega)]
      unfold parseMag
      rw [if_neg (by simp),hp]
      simp only [signless]
      rw [if_neg (by omega)]
      congr 1
      omega
  show atoiV _ = n
  unfold atoiV
  rw [show (⟨(itoa n).toArray⟩ : ByteArray).data.toList = itoa n from rfl,ha]
theorem atoi_bnd (l : List UInt8) : -9223372036854775808≤atoiL l∧atoiL l≤9223372036854775807:=by
  show -9223372036854775808≤atoiV _∧atoiV _≤9223372036854775807
  unfold atoiV
  split
  · rename_i v hv
    exact atoiAll_bounds hv
  · exact atoiSat_bounds _
  · omega
def tU : List UInt8:=[117,110,105,116,115]
def tL : List UInt8:=[108,97,116,101,110,99,121]
def tR : List UInt8:=[114,101,103,115]
def tB : List UInt8:=[98,97,110,107,115]
def tP : List UInt8:=[112,111,114,116,115]
def pcsM (m : MachV) : List (List UInt8):=[tU,itoa m.u0,itoa m.u1,itoa m.u2,itoa m.u3,tL,itoa m.l0,itoa m.l1,itoa m.l2,itoa m.l3,tR,itoa m.regs,tB,itoa m.banks,tP,itoa m.ports]
def txtM (m : MachV) : List UInt8:=Lib.join (pcsM m) [32]
def machP (f : List UInt8→Int) (l : List (List UInt8)) : MachV :=
  ⟨f (l.getD 1 []),f (l.getD 2 []),f (l.getD 3 []),f (l.getD 4 []),f (l.getD 6 []),f (l.getD 7 []),f (l.getD 8 []),f (l.getD 9 []),f (l.getD 11 []),f (l.getD 13 []),f (l.getD 15 [])⟩
def zeroM : MachV:=⟨0,0,0,0,0,0,0,0,0,0,0⟩
def parseM (f : List UInt8→Int) (s : List UInt8) : MachV × Int :=
  if 400 < (s.length : Int) then (zeroM,3) else if ((spl s).length : Int)≠16 then (zeroM,4) else if txtM (machP f (spl s))≠s∨okM (machP f (spl s)) = false then (zeroM,4) else (machP f (spl s),0)
theorem spl_txt (m : MachV) : spl (txtM m) = pcsM m:=by
  unfold txtM pcsM
  refine spl_join _ _ (by decide) fun y hy=>?_
  simp only [List.mem_cons,List.not_mem_nil,or_false] at hy
  rcases hy with rfl | rfl | rfl | rfl | rfl | rfl | rfl | rfl | rfl | rfl | rfl | rfl | rfl | rfl | rfl
  all_goals first | exact itoa_no32 _ | decide
theorem okM_rng {m : MachV} (h : okM m = true) : ∀ x ∈ m.us++m.ls++[m.regs,m.banks,m.ports],0≤x∧x≤4096:=by
  unfold okM at h
  simp only [Bool.and_eq_true,inB_iff] at h
  intro x hx
  simp only [MachV.us,MachV.ls,List.cons_append,List.nil_append,List.mem_cons,List.not_mem_nil,or_false] at hx
  rcases hx with rfl | rfl | rfl | rfl | rfl | rfl | rfl | rfl | rfl | rfl | rfl<;>omega
theorem machP_txt {f : List UInt8→Int} (hf : ∀ n : Int,0≤n→n≤4096→f (itoa n) = n) {m : MachV} (h : okM m = true) : machP f (spl (txtM m)) = m:=by
  rw [spl_txt]
  have hr:=okM_rng h
  have hx : ∀ x ∈ m.us++m.ls++[m.regs,m.banks,m.ports],f (itoa x) = x:=fun x hx=>hf x (hr x hx).1 (hr x hx).2
  simp only [MachV.us,MachV.ls,List.cons_append,List.nil_append,List.forall_mem_cons] at hx
  obtain ⟨a,b,c,d,e,g,i,j,k,l,n,_⟩:=hx
  cases m
  simp only [machP,pcsM,List.getD_cons_succ,List.getD_cons_zero] at *
  simp only [a,b,c,d,e,g,i,j,k,l,n]
theorem parse_law {f g : List UInt8→Int} (hf : ∀ n : Int,0≤n→n≤4096→f (itoa n) = n) (hg : ∀ n : Int,0≤n→n≤4096→g (itoa n) = n) (s : List UInt8) : parseM f s = parseM g s:=by
  unfold parseM
  split
  · rfl
  split
  · rfl
  have key : ∀ {f g : List UInt8→Int},(∀ n : Int,0≤n→n≤4096→g (itoa n) = n)→¬ (txtM (machP f (spl s))≠s∨okM (machP f (spl s)) = false)→machP g (spl s) = machP f (spl s):=fun {f g} hg h=>by
    rw [not_or,Decidable.not_not] at h
    have h2 : okM (machP f (spl s)) = true:=by simpa using h.2
    have:=machP_txt hg h2
    rwa [h.1] at this
  by_cases h1 : txtM (machP f (spl s))≠s∨okM (machP f (spl s)) = false
  · rw [if_pos h1]
    by_cases h2 : txtM (machP g (spl s))≠s∨okM (machP g (spl s)) = false
    · rw [if_pos h2]
    · have:=key hf h2
      rw [this] at h1
      exact absurd h1 h2
  · rw [if_neg h1,key hg h1,if_neg h1]
end Go.VX.Seat
end
section
set_option maxRecDepth 4000
namespace Go.VX
theorem closed_then {P : Program} {α β : Type} {a : α} (k : α→Sem β) : ∀ {s : Sem α},closed P s = some a→closed P (s >>= k) = closed P (k a)
  | .pure b,h=>by
    have : b = a:=Option.some.inj h
    subst this
    rfl
  | .program f,h=>closed_then (P:=P) k (s:=f P) h
theorem closed_under {P : Program} {t : TypeId} {d : TypeDesc} (h : P.underlying t = some d) : closed P (underlying t) = some d:=by
  show closed P (match P.underlying t with | some d=>pure d | none=>_) = _
  rw [h]
  rfl
theorem c_slen {P : Program} {t u : TypeId} (ht : P.underlying t = some .string) (s : ByteArray) : closed P (builtin .len [t].toArray u #[] [Value.string s].toArray) = some (.value (.int .i64 s.size)):=by
  show closed P ((Builtin.len_ #[t] u #[Value.string s]) >>= fun v=>(pure (Next.value v) : Sem Next)) = _
  have h1 : closed P (Builtin.len_ #[t] u #[Value.string s]) = some (.int .i64 s.size):=by
    unfold Builtin.len_
    refine (closed_then _ (closed_under ht)).trans ?_
    rfl
  exact closed_then _ h1
theorem c_sidx {P : Program} {t : TypeId} (ht : P.underlying t = some .string) (s : ByteArray) (k : IntKind) (i : Nat) (hi : i < s.size) : closed P (Instr.index t (.string s) (.int k i)) = some (.int .u8 (s[i]).toNat):=by
  unfold Instr.index
  refine (closed_then (a:=(k,(i : Int))) _ rfl).trans ?_
  refine (closed_then _ (closed_under ht)).trans ?_
  have : (if (0 : Int)≤(i : Int) then s[(i : Int).toNat]? else none) = some s[i]:=by
    rw [if_pos (by omega)]
    simp [hi]
  show closed P (match (if (0 : Int)≤(i : Int) then s[(i : Int).toNat]? else none) with | some b=>pure (Value.int .u8 b.toNat) | none=>_) = _
  rw [this]
  rfl
theorem c_ssl {P : Program} {t : TypeId} (ht : P.underlying t = some .string) (s : ByteArray) (lo hi : Nat) (h1 : lo≤hi) (h2 : hi≤s.size) : closed P (Instr.sliceAt t (.string s) (some (.int .i64 lo)) (some (.int .i64 hi)) none) = some (.string (s.extract lo hi)):=by
  unfold Instr.sliceAt
  refine (closed_then _ (closed_under ht)).trans ?_
  show closed P (Instr.slice t (.string s) (some (.int .i64 lo)) (some (.int .i64 hi)) none) = _
  unfold Instr.slice
  refine (closed_then _ (closed_under ht)).trans ?_
  have hb : closed P (Instr.sliceBounds false s.size s.size (some (.int .i64 lo)) (some (.int .i64 hi)) none) = some (lo,hi,s.size):=by
    unfold Instr.sliceBounds
    have hs : ∀ (x y : Nat) c,x≤y→closed P (Instr.sliceBound (.int .i64 x) y c) = some x:=fun x y c hx=>by
      unfold Instr.sliceBound
      refine (closed_then (a:=(IntKind.i64,(x : Int))) _ rfl).trans ?_
      show closed P (if 0≤(x : Int)∧(x : Int)≤y then pure (x : Int).toNat else _) = _
      rw [if_pos (by omega)]
      rfl
    refine (closed_then (a:=s.size) _ rfl).trans ?_
    refine (closed_then (a:=hi) _ (hs hi s.size _ h2)).trans ?_
    refine (closed_then (a:=lo) _ (hs lo hi _ h1)).trans ?_
    rfl
  exact closed_then _ hb
theorem c_ssl0 {P : Program} {t : TypeId} (ht : P.underlying t = some .string) (s : ByteArray) (hi : Nat) (h2 : hi≤s.size) : closed P (Instr.sliceAt t (.string s) none (some (.int .i64 hi)) none) = some (.string (s.extract 0 hi)):=by
  unfold Instr.sliceAt
  refine (closed_then _ (closed_under ht)).trans ?_
  show closed P (Instr.slice t (.string s) none (some (.int .i64 hi)) none) = _
  unfold Instr.slice
  refine (closed_then _ (closed_under ht)).trans ?_
  have hb : closed P (Instr.sliceBounds false s.size s.size none (some (.int .i64 hi)) none) = some (0,hi,s.size):=by
    unfold Instr.sliceBounds
    have hs : ∀ (x y : Nat) c,x≤y→closed P (Instr.sliceBound (.int .i64 x) y c) = some x:=fun x y c hx=>by
      unfold Instr.sliceBound
      refine (closed_then (a:=(IntKind.i64,(x : Int))) _ rfl).trans ?_
      show closed P (if 0≤(x : Int)∧(x : Int)≤y then pure (x : Int).toNat else _) = _
      rw [if_pos (by omega)]
      rfl
    refine (closed_then (a:=s.size) _ rfl).trans ?_
    refine (closed_then (a:=hi) _ (hs hi s.size _ h2)).trans ?_
    rfl
  exact closed_then _ hb
theorem c_ssl1 {P : Program} {t : TypeId} (ht : P.underlying t = some .string) (s : ByteArray) (lo : Nat) (h1 : lo≤s.size) : closed P (Instr.sliceAt t (.string s) (some (.int .i64 lo)) none none) = some (.string (s.extract lo s.size)):=by
  unfold Instr.sliceAt
  refine (closed_then _ (closed_under ht)).trans ?_
  show closed P (Instr.slice t (.string s) (some (.int .i64 lo)) none none) = _
  unfold Instr.slice
  refine (closed_then _ (closed_under ht)).trans ?_
  have hb : closed P (Instr.sliceBounds false s.size s.size (some (.int .i64 lo)) none none) = some (lo,s.size,s.size):=by
    unfold Instr.sliceBounds
    have hs : ∀ (x y : Nat) c,x≤y→closed P (Instr.sliceBound (.int .i64 x) y c) = some x:=fun x y c hx=>by
      unfold Instr.sliceBound
      refine (closed_then (a:=(IntKind.i64,(x : Int))) _ rfl).trans ?_
      show closed P (if 0≤(x : Int)∧(x : Int)≤y then pure (x : Int).toNat else _) = _
      rw [if_pos (by omega)]
      rfl
    refine (closed_then (a:=s.size) _ rfl).trans ?_
    refine (closed_then (a:=s.size) _ rfl).trans ?_
    refine (closed_then (a:=lo) _ (hs lo s.size _ h1)).trans ?_
    rfl
  exact closed_then _ hb
theorem c_sadd {P : Program} {t : TypeId} {ox oy : Operand} (a b : ByteArray) (h : a.size + b.size≤9223372036854775807) : closed P (do eqGuard .add t ox oy (.string a) (.string b); binOp .add t (.string a) (.string b)) = some (.string (a++b)):=by
  show closed P (if ((a.size + b.size : Nat) : Int) > IntKind.i64.max then _ else pure (Value.string (a++b))) = _
  have e : IntKind.i64.max = 9223372036854775807:=rfl
  rw [e,if_neg (by omega)]
  rfl
theorem c_seq {P : Program} {t : TypeId} {ox oy : Operand} (a b : ByteArray) : closed P (do eqGuard .eql t ox oy (.string a) (.string b); binOp .eql t (.string a) (.string b)) = some (.bool (decide (a = b))):=by
  show some (Value.bool (a.toList == b.toList)) = _
  by_cases h : a = b
  · subst h
    simp
  · rw [decide_eq_false h]
    have : a.toList≠b.toList:=fun e=>h (by
      rw [ByteArray.toList_eq,ByteArray.toList_eq] at e
      cases a; cases b
      simpa using e)
    simp [this]
theorem c_sne {P : Program} {t : TypeId} {ox oy : Operand} (a b : ByteArray) : closed P (do eqGuard .neq t ox oy (.string a) (.string b); binOp .neq t (.string a) (.string b)) = some (.bool (decide (a≠b))):=by
  show some (Value.bool (!(a.toList == b.toList))) = _
  by_cases h : a = b
  · subst h
    simp
  · rw [decide_eq_true h]
    have : a.toList≠b.toList:=fun e=>h (by
      rw [ByteArray.toList_eq,ByteArray.toList_eq] at e
      cases a; cases b
      simpa using e)
    simp [this]
namespace Seat
open Go.Proofs
abbrev sB (l : List UInt8) : ByteArray:=⟨l.toArray⟩
abbrev sA (l : List UInt8) : AV:=.sc (.string ⟨l.toArray⟩)
theorem sB_size (l : List UInt8) : (sB l).size = l.length:=rfl
theorem sB_add (l m : List UInt8) : sB l++sB m = sB (l++m):=by
  have : ∀ a b : ByteArray,a.data = b.data→a = b:=fun a b h=>by cases a; cases b; simpa using h
  exact this _ _ (by simp [sB,ByteArray.data_append])
theorem sB_eq (l m : List UInt8) : sB l = sB m↔l = m:=by simp [sB]
theorem sB_ext (l : List UInt8) (a b : Nat) : (sB l).extract a b = sB ((l.take b).drop a):=by
  have : ∀ a b : ByteArray,a.data = b.data→a = b:=fun a b h=>by cases a; cases b; simpa using h
  exact this _ _ (by simp [sB,ByteArray.data_extract,List.extract_eq_take_drop,List.drop_take])
theorem s9 : Tryd.prog.underlying 9 = some .string:=Tryd.underlying9
end Seat
end Go.VX
end
