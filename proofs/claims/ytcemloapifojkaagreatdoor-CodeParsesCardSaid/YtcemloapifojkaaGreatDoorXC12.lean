/- A part of the proofs of the statements of one layer: H3, H4. No condition is added here. -/
import Derived.Shelf.RegionOpenPlain
import Derived.Lib.Walk
import Derived.Lib.Builder
import Derived.Lib.AppendStr
import Derived.Lib.UnsafeStr
import Derived.WalkKit
import Derived.Laws.Externs
import Derived.Test.YtcemloapifojkaaGreatDoorXC11
set_option linter.unusedVariables false
set_option linter.unusedSimpArgs false
section
namespace Go.Proofs
open Go.RowKit Go.Shelf
namespace VXB
theorem sizeBuilder : (Tryz.prog.info? 81).map (·.size) = some 2:=by kernel_rfl
theorem liesBuilder : liesAt Tryz.prog Tryz.prog.depth 81 (2 / Tryz.prog.cellsOf 81) 0 81 1 = true:=by kernel_rfl
set_option maxHeartbeats 1000000 in
set_option maxRecDepth 100000 in
theorem copyCheck_used (b : Nat) (w : World) (h0 : w.cell? ⟨b,0,none⟩ = some (.pointer (some ⟨b,0,none⟩))) :
    Calls Tryz.prog 72 #[.pointer (some ⟨b,0,none⟩)] w fun e w'=>e = .returned (.tuple #[])∧w' = w:=by
  obtain ⟨j,hj,_⟩:=Option.map_eq_some_iff.1 sizeBuilder
  go_enter Tryz.func72,Tryz.ntmps72
  go_wp2
  rw [Lib.run_neq_ptr_same w _ Tryz.underlying79 hj]
  go_wp2
  go_end0
  exact ⟨rfl,rfl⟩
set_option maxHeartbeats 1000000 in
set_option maxRecDepth 100000 in
theorem copyCheck_fresh (b : Nat) (w : World) (h0 : w.cell? ⟨b,0,none⟩ = some (.pointer none)) (hsh : w.shape? b = some (81,2)) (hfz : w.frozen? ⟨b,0,none⟩ = false) :
    Calls Tryz.prog 72 #[.pointer (some ⟨b,0,none⟩)] w fun e w'=>e = .returned (.tuple #[])∧w' = w.setCell ⟨b,0,none⟩ (.pointer (some ⟨b,0,none⟩)):=by
  obtain ⟨j,hj,hjs⟩:=Option.map_eq_some_iff.1 sizeBuilder
  go_enter Tryz.func72,Tryz.ntmps72
  go_wp2
  rw [Lib.run_to_unsafe w ⟨b,0,none⟩ Tryz.underlying79 Tryz.underlying143 hj (by rw [hjs]; decide) hsh (Nat.zero_lt_succ 1)]
  simp only [Result.andThen]
  rw [Oper.upon_value]
  go_wp2
  rw [run_callFunc_extern Tryz.func94 (by kernel_rfl) (by kernel_rfl) (by kernel_rfl) (e:=Extern.AbiNoEscape.same) (by kernel_rfl)]
  rw [Lib.run_noEscape]
  simp only [Result.andThen]
  rw [Oper.upon_value]
  go_wp2
  rw [Lib.run_from_unsafe w ⟨b,0,none⟩ Tryz.underlying143 Tryz.underlying79 hj hsh liesBuilder]
  simp only [Result.andThen]
  rw [Oper.upon_value]
  go_wp2
  go_end0
  exact ⟨rfl,rfl⟩
theorem ownsRowF_low {w : World} {base e n : Nat} {v : Value} {xs : List Value} (h : w.ownsRowF base e 1 v n xs) : w.ownsRowF 0 e 1 v n xs :=
  ⟨h.1,h.2.elim .inl fun ⟨g,cap,cur,fz,hv,_,rest⟩=>.inr ⟨g,cap,cur,fz,hv,Nat.zero_le _,rest⟩⟩
theorem run_append3 {P : Program} (w : World) (t u ty e : TypeId) (i : TypeInfo) (ht : P.underlying t = some (.slice e)) (hu : P.underlying u = some .string) (hi : P.info? e = some i) (hz : i.zero = some (.int .u8 0))
    (hsize : i.size = 1) (hby : i.bytes = 1) (v : Value) (n : Nat) (xs : List Value) (hown : w.ownsRowF 0 e 1 v n xs) (s : ByteArray) (h63 : n + s.size≤maxLen) (hbytes : n + s.size≤140737488355328) :
    ∃ v' w',(Builtin.append_ #[t,u] ty #[v,.string s]).run P w = .ok v' w'∧w'.ownsRowF 0 e 1 v' (n + s.size) (xs++Lib.strCells s)∧w.grownBy w' v.ownBlock ∧
      (v' = .slice none 0 0↔v = .slice none 0 0∧s.size = 0)∧∀ k,v'.ownBlock = some k→v.ownBlock = some k∨w.heap.size≤k:=by
  rcases hown.2 with ⟨rfl,rfl⟩ | ⟨g,cap,cur,fz,rfl,hbg,hg,hfz,hnc,hcm,hcs,htake⟩
  · obtain ⟨v',w',h1,h2,h3,h4⟩:=Lib.run_append_own_string (P:=P) w w.heap.size t u ty e i ht hu hi hz hsize hby (.slice none 0 0) 0 xs ⟨hown.1,.inl ⟨rfl,rfl⟩⟩ s h63 hbytes (Nat.le_refl _)
    exact ⟨v',w',h1,ownsRowF_low (World.ownsRowF_of h2),h3,h4,fun k hk=>.inr ((World.ownsRowF_of h2).lt k hk).1⟩
  · have hsmall : n + s.size≤9223372036854775807:=by simp only [maxLen] at h63; omega
    have hxl : xs.length = n:=by simpa using hown.1
    have hlen : (xs++Lib.strCells s).length = (n + s.size) * 1:=by rw [List.length_append,hxl,Lib.strCells_length,Nat.mul_one]
    by_cases hroom : n + s.size≤cap
    · have hcs' : cur.size = cap:=by simpa using hcs
      have hr:=Lib.run_append_room_stringF (P:=P) w t u ty e i ht hu hi hsize g n cap cur fz hg (by simpa using hfz) s hroom (by omega)
      refine ⟨_,_,hr,⟨hlen,.inr ⟨g,cap,_,fz,rfl,hbg,setRow_heap w g cur _ e _ hg,by omega,hroom,hcm,?_,?_⟩⟩,⟨rfl,rfl,rfl,by simp,fun k _ hk=>setRow_other w g k _ (fun e=>hk (by simp [Value.ownBlock,e]))⟩,by simp,fun k hk=>.inl hk⟩
      · simp only [List.size_toArray,List.length_append,List.length_take,List.length_drop,Array.length_toList,Lib.strCells_length]
        omega
      · have ht' : cur.toList.take n = xs:=by simpa using htake
        rw [ht',← hlen]
        exact List.take_left
    · have holds : ∀ j u,xs[j]? = some u→w.cell? ((⟨g,0,none⟩ : Addr).add j) = some u:=hown.cells (g:=g) rfl
      have hr:=Lib.run_append_grow_string (P:=P) w t u ty e i (.int .u8 0) ht hu hi hz ⟨g,0,none⟩ n cap xs (by rw [hsize]; simpa using hxl) holds s (by omega) (by omega) (by rw [hby]; exact growslice_fits (by omega) (by omega))
      have hge:=grownCap_ge w (n + s.size) cap e
      have hcm2 : grownCap w (n + s.size) cap e≤maxLen:=grownCap_le_maxLen w (n + s.size) cap e h63
      refine ⟨_,_,hr,⟨hlen,.inr ⟨w.heap.size,_,_,(0,0),rfl,Nat.zero_le _,heap_alloc_new w.drew _,Nat.zero_le _,hge,hcm2,?_,?_⟩⟩,⟨rfl,rfl,rfl,by simp,fun k hk _=>heap_alloc_old w.drew _ hk⟩,by simp,fun k hk=>.inr ?_⟩
      · have hz1 : (Value.int IntKind.u8 0).cells.size = 1:=rfl
        simp only [Array.size_append,List.size_toArray,size_zeroCells,hz1,hxl,Lib.strCells_length]
        omega
      · simp only [Array.toList_append,List.append_assoc]
        rw [←List.append_assoc,← hlen]
        exact List.take_left
      · simp [Value.ownBlock] at hk
        omega
theorem wpList_append3 {P : Program} (w : World) {ops : Array Oper} {rest : List Oper} {o : Oper} {a : Act} {Q : Exit→Act→World→Prop} (hgd : o.guard = none) (sl x : Operand) (t u : TypeId)
    (ho : o.op = .call { callee:=.builtin .append,args:=#[sl,x],argTypes:=#[t,u] })
    (e : TypeId) (i : TypeInfo) (ht : P.underlying t = some (.slice e)) (hu : P.underlying u = some .string) (hi : P.info? e = some i) (hz : i.zero = some (.int .u8 0))
    (hsize : i.size = 1) (hby : i.bytes = 1)
    (v : Value) (n : Nat) (xs : List Value) (hs : a.eval sl = v) (hown : w.ownsRowF 0 e 1 v n xs) (s : ByteArray) (hx : a.eval x = .string s)
    (h63 : n + s.size≤maxLen) (hbytes : n + s.size≤140737488355328)
    (h : ∀ v' w',w'.ownsRowF 0 e 1 v' (n + s.size) (xs++Lib.strCells s)→w.grownBy w' v.ownBlock→(v' = .slice none 0 0↔v = .slice none 0 0∧s.size = 0)→(∀ k,v'.ownBlock = some k→v.ownBlock = some k∨w.heap.size≤k)→wpList P ops Q rest (a.put o.dst v') w') : wpList P ops Q (o :: rest) a w:=by
  refine wpList_plain hgd fun K hK=>?_
  obtain ⟨v',w',hr,h2,h3,h4,h5⟩:=run_append3 (P:=P) w t u o.type e i ht hu hi hz hsize hby v n xs hown s h63 hbytes
  unfold Oper.wp execOp
  simp only [ho,resolve,invoke,builtin,Sem.run_bind,Sem.run_pure,Result.andThen_ok,List.map_toArray,List.map_cons,List.map_nil,hs,hx,hr]
  exact hK _ _ (h v' w' h2 h3 h4 h5)
structure BAt (w : World) (b : Nat) (p v : Value) (l : List UInt8) : Prop where
  pt : p = .pointer none∨p = .pointer (some ⟨b,0,none⟩)
  box : w.heap[b]? = some (.cells #[p,v] 81 (0,0))
  row : w.ownsRowF 0 5 1 v l.length (Lib.byteCells l)
  ne : v.ownBlock≠some b
  nil : v = .slice none 0 0↔l = []
theorem infoByte : (Tryz.prog.info? 5).map (fun i=>(i.zero,i.size,i.bytes)) = some (some (.int .u8 0),1,1):=by kernel_rfl
theorem cellsByte : Tryz.prog.cellsOf 5 = 1:=by kernel_rfl
theorem BAt.lt {w : World} {b : Nat} {p v : Value} {l : List UInt8} (h : BAt w b p v l) : b < w.heap.size:=(Array.getElem?_eq_some_iff.1 h.box).1
set_option maxHeartbeats 2000000 in
set_option maxRecDepth 100000 in
theorem write_calls (b : Nat) (p v : Value) (l : List UInt8) (s : ByteArray) (w : World) (h : BAt w b p v l) (hlen : l.length + s.size≤140737488355328) :
    Calls Tryz.prog 39 #[.pointer (some ⟨b,0,none⟩),.string s] w fun e w'=>e = .returned (.tuple #[.int .i64 s.size,.nilIface])∧∃ v',BAt w' b (.pointer (some ⟨b,0,none⟩)) v' (l++s.data.toList) ∧
      w'.os = w.os∧w'.tape = w.tape∧w'.output = w.output∧w.heap.size≤w'.heap.size∧(∀ k,k < w.heap.size→k≠b→v.ownBlock≠some k→w'.heap[k]? = w.heap[k]?)∧(∀ k,v'.ownBlock = some k→v.ownBlock = some k∨w.heap.size≤k):=by
  obtain ⟨i0,hi,hz0,hz1,hz2⟩:=info_parts infoByte
  have hcc : Calls Tryz.prog 72 #[.pointer (some ⟨b,0,none⟩)] w fun e w'=>e = .returned (.tuple #[])∧(w' = w∨w' = w.setCell ⟨b,0,none⟩ (.pointer (some ⟨b,0,none⟩)))∧w'.heap[b]? = some (.cells #[.pointer (some ⟨b,0,none⟩),v] 81 (0,0)):=by
    have hbx:=h.box
    rcases h.pt with rfl | rfl
    · refine (copyCheck_fresh b w (by simp [World.cell?,hbx]) (by simp [World.shape?,hbx]) (by simp [World.frozen?,hbx])).mono ?_
      rintro e w' ⟨rfl,rfl⟩
      exact ⟨rfl,.inr rfl,by simp [World.setCell,Array.getElem?_modify,hbx]⟩
    · refine (copyCheck_used b w (by simp [World.cell?,hbx])).mono ?_
      rintro e w' ⟨rfl,rfl⟩
      exact ⟨rfl,.inl rfl,hbx⟩
  go_enter Tryz.func39,Tryz.ntmps39
  go_wp2_with (go_at_call 72; refine hcc.mono ?_)
  rintro e w1 ⟨rfl,hw1,hbk⟩
  have hsz : w1.heap.size = w.heap.size:=by
    rcases hw1 with rfl | rfl
    · rfl
    · simp [World.setCell]
  have hot : w1.os = w.os∧w1.tape = w.tape∧w1.output = w.output:=by
    rcases hw1 with rfl | rfl<;>exact ⟨rfl,rfl,rfl⟩
  have hoth : ∀ k,k≠b→w1.heap[k]? = w.heap[k]?:=fun k hk=>by
    rcases hw1 with rfl | rfl
    · rfl
    · exact Below.heap_setCell _ _ _ _ hk
  have hown : w1.ownsRowF 0 5 1 v l.length (Lib.byteCells l):=Go.VX.ownsRowF_frame h.row fun i hi=>hoth i (fun e=>h.ne (by rw [hi,e]))
  have c0 : w1.cell? ⟨b,0,none⟩ = some (.pointer (some ⟨b,0,none⟩)):=by rw [Lib.cell_of_heap hbk]; rfl
  have c1 : w1.cell? ⟨b,1,none⟩ = some v:=by rw [Lib.cell_of_heap hbk]; rfl
  go_wp2_with (at_builtin; refine wpList_append3 _ rfl _ _ 62 9 rfl 5 i0 Tryz.underlying62 Tryz.underlying9 hi hz0 hz1 hz2 _ _ _ rfl hown s rfl ?c3 ?c4 ?_)
  case c3=>unfold maxLen; omega
  case c4=>omega
  intro v' w2 hown' hgrow hnil hown2
  have hlt : b < w1.heap.size:=by rw [hsz]; exact h.lt
  have hb2 : w2.heap[b]? = some (.cells #[.pointer (some ⟨b,0,none⟩),v] 81 (0,0)):=by
    rw [hgrow.block b hlt (fun e=>h.ne e.symm)]
    exact hbk
  have d0 : w2.cell? ⟨b,0,none⟩ = some (.pointer (some ⟨b,0,none⟩)):=by rw [Lib.cell_of_heap hb2]; rfl
  have d1 : w2.cell? ⟨b,1,none⟩ = some v:=by rw [Lib.cell_of_heap hb2]; rfl
  have f1 : w2.frozen? ⟨b,1,none⟩ = false:=Lib.frozen_of_heap hb2 1
  have hne' : v'.ownBlock≠some b:=Lib.ownBlock_neF hown' hb2 (by decide)
  obtain ⟨ao,n',cap,rfl⟩ : ∃ ao n' cap,v' = .slice ao n' cap:=by
    rcases hown'.2 with ⟨hv,_⟩ | ⟨g,cap,cur,fz,hv,_⟩
    · exact ⟨_,_,_,hv⟩
    · exact ⟨_,_,_,hv⟩
  go_wp2
  go_ret2
  have hlist : Lib.byteCells (l++s.data.toList) = Lib.byteCells l++Lib.strCells s:=by rw [Lib.byteCells_append,Lib.strCells_eq]
  have hsl : (l++s.data.toList).length = l.length + s.size:=by rw [List.length_append]; rfl
  refine ⟨rfl,_,⟨.inr rfl,?_,?_,hne',?_⟩,?_,?_,?_,?_,fun k hk hkb hkv=>?_,fun k hk=>?_⟩
  · simp [World.setCell,Array.getElem?_modify,hb2]
  · rw [hsl,hlist]
    exact Go.VX.ownsRowF_frame hown' fun i hi=>Below.heap_setCell _ _ _ _ (fun e=>hne' (by rw [hi,e]))
  · rw [hnil,h.nil]
    constructor
    · rintro ⟨rfl,h0⟩
      have h0 : s = ByteArray.empty:=h0
      subst h0
      rfl
    · intro he
      have h1:=List.append_eq_nil_iff.1 he
      exact ⟨h1.1,by
        have h2 : s.data = #[]:=by simpa using h1.2
        cases s
        cases h2
        rfl⟩
  · exact hgrow.os.trans hot.1
  · exact hgrow.tape.trans hot.2.1
  · exact hgrow.output.trans hot.2.2
  · rw [←hsz]; exact Nat.le_trans hgrow.size (by simp [World.setCell])
  · rw [Below.heap_setCell _ _ _ _ (show k≠b from hkb),hgrow.block k (by omega) (fun e=>hkv e.symm),hoth k hkb]
  · rcases hown2 k hk with h1 | h1
    · exact .inl h1
    · exact .inr (by omega)
theorem freeze_frame (w : World) (g n k : Nat) (hk : k≠g) : (w.freeze ⟨g,0,none⟩ n).heap[k]? = w.heap[k]?:=by
  unfold World.freeze
  split
  · rfl
  · simp only [Array.getElem?_modify]
    rw [if_neg (fun e=>hk e.symm)]
theorem freeze_rest (w : World) (g n : Nat) : (w.freeze ⟨g,0,none⟩ n).os = w.os∧(w.freeze ⟨g,0,none⟩ n).tape = w.tape∧(w.freeze ⟨g,0,none⟩ n).output = w.output∧(w.freeze ⟨g,0,none⟩ n).heap.size = w.heap.size:=by
  unfold World.freeze
  split
  · exact ⟨rfl,rfl,rfl,rfl⟩
  · exact ⟨rfl,rfl,rfl,by simp⟩
set_option maxHeartbeats 2000000 in
set_option maxRecDepth 100000 in
theorem string_calls (b : Nat) (p v : Value) (l : List UInt8) (w : World) (h : BAt w b p v l) (hlen : l.length≤140737488355328) :
    Calls Tryz.prog 43 #[.pointer (some ⟨b,0,none⟩)] w fun e w'=>e = .returned (.string ⟨l.toArray⟩)∧BAt w' b p v l ∧
      w'.os = w.os∧w'.tape = w.tape∧w'.output = w.output∧w.heap.size = w'.heap.size∧(∀ k,v.ownBlock≠some k→w'.heap[k]? = w.heap[k]?):=by
  have hbx : w.drew.heap[b]? = some (.cells #[p,v] 81 (0,0)):=h.box
  have c1 : w.drew.cell? ⟨b,1,none⟩ = some v:=by rw [Lib.cell_of_heap hbx]; rfl
  by_cases h0 : l = []
  · have hv:=h.nil.2 h0
    subst hv
    subst h0
    have hUS:=Lib.run_unsafeString_none (P:=Tryz.prog) w.drew 122 3 9 none
    have hSD : (Builtin.unsafeSliceData_ #[62] 122 #[.slice none 0 0]).run Tryz.prog w.drew = .ok (.pointer none) w.drew:=rfl
    have mixed : Tryz.prog.follows .mixedOrders = true:=by kernel_rfl
    go_enter Tryz.func43,Tryz.ntmps43
    go_wp2
    go_region_o
    all_goals (go_wp2; go_ret; exact ⟨rfl,⟨h.pt,h.box,h.row,h.ne,h.nil⟩,rfl,rfl,rfl,rfl,fun _ _=>rfl⟩)
  · have hl0 : l.length≠0:=by simpa using h0
    obtain ⟨g,cap,cur,fz,rfl,hbg,hg,hfz,hnc,hcm,hcs,htake⟩ : ∃ g cap cur fz,v = .slice (some ⟨g,0,none⟩) l.length cap∧0≤g∧w.heap[g]? = some (.cells cur 5 fz)∧fz.2≤l.length * 1∧l.length≤cap∧cap≤maxLen∧cur.size = cap * 1∧cur.toList.take (l.length * 1) = Lib.byteCells l:=by
      rcases h.row.2 with ⟨_,hz⟩ | ⟨g,cap,cur,fz,hv,r⟩
      · exact absurd hz hl0
      · exact ⟨g,cap,cur,fz,hv,r⟩
    have hSD : (Builtin.unsafeSliceData_ #[62] 122 #[.slice (some ⟨g,0,none⟩) l.length cap]).run Tryz.prog w.drew = .ok (.pointer (some ⟨g,0,none⟩)) w.drew :=
      Lib.run_unsafeSliceData_row _ _ _ _ _ _ (by omega)
    have hUS : (Builtin.unsafeString_ #[122,3] 9 #[.pointer (some ⟨g,0,none⟩),.int .i64 l.length]).run Tryz.prog w.drew = .ok (.string ⟨l.toArray⟩) (w.drew.freeze ⟨g,0,none⟩ l.length):=by
      refine Lib.run_unsafeString_row w.drew 122 3 9 5 Tryz.underlying122 cellsByte g cur.size (by have hg' : w.drew.heap[g]? = some (.cells cur 5 fz):=hg; simp [World.shape?,hg']) l h0 (by omega) (by omega) ?_
      intro j x hx
      have:=h.row.cells (g:=g) rfl j (.int .u8 x.toNat) (by simp [Lib.byteCells,hx])
      exact this
    have hA : Lib.BuilderAtF 81 5 0 b p (Lib.byteCells l) w.drew:=⟨Nat.zero_le _,_,hbx,by rw [Lib.byteCells_length]; exact h.row,h.ne⟩
    have hF:=hA.froze (g:=g) (cap:=cap) (by rw [Lib.byteCells_length]; exact c1)
    rw [Lib.byteCells_length] at hF
    have hB : BAt (w.drew.freeze ⟨g,0,none⟩ l.length) b p (.slice (some ⟨g,0,none⟩) l.length cap) l:=by
      obtain ⟨_,v',hb',hr',hn'⟩:=hF
      have hgb : b≠g:=fun e=>h.ne (by simp [Value.ownBlock,e])
      have hb2:=freeze_frame w.drew g l.length b hgb
      rw [hbx] at hb2
      rw [hb2] at hb'
      simp only [Option.some.injEq,Obj.cells.injEq,and_true] at hb'
      have e : Value.slice (some ⟨g,0,none⟩) l.length cap = v':=by
        have:=congrArg (fun a : Array Value=>a[1]?) hb'
        simpa using this
      subst e
      exact ⟨h.pt,hb2,by rw [Lib.byteCells_length] at hr'; exact hr',hn',h.nil⟩
    have hrest:=freeze_rest w.drew g l.length
    have mixed : Tryz.prog.follows .mixedOrders = true:=by kernel_rfl
    go_enter Tryz.func43,Tryz.ntmps43
    go_wp2
    go_region_o
    all_goals (go_wp2; go_ret; exact ⟨rfl,hB,hrest.1,hrest.2.1,hrest.2.2.1,hrest.2.2.2.symm,fun k hk=>freeze_frame w.drew g l.length k (fun e=>hk (by simp [Value.ownBlock,e]))⟩)
end VXB
end Go.Proofs
end
section
namespace Go.VX.Seat
open Go.Proofs
def bldCells (l : List UInt8) : List AV:=[iA 1,iA 81,iA 5,.sc (.string ⟨l.toArray⟩)]
def HBld : FuncId→List AV→St→CRes→St→Prop:=fun f args st r st' =>
  ∃ (b : Nat) (l : List UInt8) (ver : Nat),st[b]? = some ⟨bldCells l,3,ver⟩∧l.length≤1000000000 ∧
    ((f = 39∧∃ s : ByteArray,args = [.ptr b 0,.sc (.string s)]∧s.size≤1000000000∧r = .ret (.tup [iA s.size,.sc .nilIface])∧st' = st.set b ⟨bldCells (l++s.data.toList),3,ver + 1⟩) ∨
     (f = 43∧args = [.ptr b 0]∧r = .ret (.sc (.string ⟨l.toArray⟩))∧st' = st))
theorem callable_write : Callable Tryz.prog 39:=⟨Tryz.f39,by kernel_rfl,by kernel_rfl,by kernel_rfl⟩
theorem callable_string : Callable Tryz.prog 43:=⟨Tryz.f43,by kernel_rfl,by kernel_rfl,by kernel_rfl⟩
theorem bat_of_phi {l : List UInt8} {r : Nat} {S : List Nat} {w : World} (h : Phi (bldCells l) r S w) : ∃ p v,VXB.BAt w r p v l∧S = r :: v.ownBlock.toList:=by
  obtain ⟨tb,tu,l',p,v,h1,h0,h2,h3,h4,h5,h6,h7⟩:=h
  simp only [bldCells,List.cons.injEq,AV.sc.injEq,Value.int.injEq,Value.string.injEq,ByteArray.mk.injEq,true_and,and_true] at h1
  obtain ⟨e1,e2,e3⟩:=h1
  have e1 : 81 = tb:=by omega
  have e2 : 5 = tu:=by omega
  have e3 : l = l':=by simpa using e3
  subst e1; subst e2; subst e3
  exact ⟨p,v,⟨h2,h3,h4,h6,h7⟩,h5⟩
theorem phi_of_bat {l : List UInt8} {r : Nat} {w : World} {p v : Value} (h : VXB.BAt w r p v l) : Phi (bldCells l) r (r :: v.ownBlock.toList) w :=
  ⟨81,5,l,p,v,rfl,by decide,h.pt,h.box,h.row,rfl,h.ne,h.nil⟩
theorem hbld_sound {f : FuncId} {args : List AV} {st st' : St} {r : CRes} (h : HBld f args st r st') : SoundCall Tryz.prog [1,0,2,3,8,9] f args st r st':=by
  obtain ⟨b,l,ver,hx,hl,h⟩:=h
  rcases h with ⟨rfl,s,rfl,hs,rfl,rfl⟩ | ⟨rfl,rfl,rfl,rfl⟩
  · refine SoundC.sound ?_ callable_write
    intro n0 wi K w args' hW hn hargs
    obtain ⟨fp,hfp⟩:=hW.fo
    cases hargs with
    | cons h1 h2 =>
      cases h2 with
      | cons h2 h3 =>
        cases h3
        obtain ⟨kb,hk,rfl⟩:=ptr_inv h1
        have h2:=VRel.sc_eq h2
        subst h2
        obtain ⟨⟨hro,hphi⟩,hf2,hf3,hf4⟩:=hfp b _ kb hx rfl hk
        obtain ⟨p,v,hbat,hS⟩:=bat_of_phi hphi
        rw [hro]
        refine (VXB.write_calls kb.rb p v l s w hbat (by omega)).mono fun e w' he=>?_
        obtain ⟨rfl,v',hb',g1,g2,g3,g4,g5,g6⟩:=he
        refine ⟨K,WRel.setF hW hn hfp hx rfl rfl hk g1 g2 g3 g4 (fun k hk1 hk2=>g5 k hk1 (fun e=>hk2 (by rw [hS,e]; simp)) (fun e=>hk2 (by rw [hS,e]; simp))) (phi_of_bat hb') (fun k hk1=>?_),⟨KM.le_refl K,by simp,fun _ _=>rfl,fun b' hb' hk'=>?_⟩,_,rfl,.tup (.cons (.sc rfl) (.cons (.sc rfl) .nil))⟩
        · have hlt' : ∀ k,v'.ownBlock = some k→k < w'.heap.size:=fun k hk=>(hb'.row.lt k hk).2
          rw [hS]
          simp at hk1 ⊢
          rcases hk1 with rfl | hk1
          · exact ⟨.inl (.inl rfl),hb'.lt⟩
          · have hk1 : v'.ownBlock = some k:=by simpa using hk1
            refine ⟨?_,hlt' k hk1⟩
            rcases g6 k hk1 with h1 | h1
            · exact .inl (.inr h1)
            · exact .inr h1
        · have hne : b'≠b:=fun e=>by rw [e,hk] at hk'; cases hk'
          rw [List.getElem?_set_ne (Ne.symm hne)]
  · refine SoundC.sound ?_ callable_string
    intro n0 wi K w args' hW hn hargs
    obtain ⟨fp,hfp⟩:=hW.fo
    cases hargs with
    | cons h1 h2 =>
      cases h2
      obtain ⟨kb,hk,rfl⟩:=ptr_inv h1
      obtain ⟨⟨hro,hphi⟩,hf2,hf3,hf4⟩:=hfp b _ kb hx rfl hk
      obtain ⟨p,v,hbat,hS⟩:=bat_of_phi hphi
      rw [hro]
      refine (VXB.string_calls kb.rb p v l w hbat (by omega)).mono fun e w' he=>?_
      obtain ⟨rfl,hb',g1,g2,g3,g4,g5⟩:=he
      have hW':=WRel.setF hW hn hfp hx rfl (x':=⟨bldCells l,3,ver⟩) rfl hk g1 g2 g3 (by omega) (fun k hk1 hk2=>g5 k (fun e=>hk2 (by rw [hS,e]; simp))) (phi_of_bat hb') (fun k hk1=>⟨.inl (by rw [hS]; exact hk1),by
        have:=(hf2 k (by rw [hS]; exact hk1)).2
        omega⟩)
      have hset : st'.set b ⟨bldCells l,3,ver⟩ = st':=by
        refine List.ext_getElem? fun i=>?_
        by_cases hi : b = i
        · subst hi
          rw [List.getElem?_set_self (List.getElem?_eq_some_iff.1 hx).1,hx]
        · rw [List.getElem?_set_ne hi]
      rw [hset] at hW'
      exact ⟨K,hW',Fr.refl K st',_,rfl,.sc rfl⟩
theorem hbld_evo {f : FuncId} {args : List AV} {st st' : St} {r : CRes} (h : HBld f args st r st') : Evo st st':=by
  obtain ⟨b,l,ver,hx,hl,h⟩:=h
  rcases h with ⟨rfl,s,rfl,hs,rfl,rfl⟩ | ⟨rfl,rfl,rfl,rfl⟩
  · exact Evo.set hx (by simp) (.inl rfl) (fun e=>by simp at e)
  · exact Evo.refl _
def natF (f : FuncId) : Option (Array Value→Sem Value):=match f with
  | 144=>some Extern.BytealgIndexByte.indexByte
  | 125=>some Extern.BytealgCount.count
  | _=>none
def HNat : FuncId→List AV→St→CRes→St→Prop:=fun f args st r st' =>
  ∃ e vs v,natF f = some e∧cellsV args = some vs∧closed Tryz.prog (e vs.toArray) = some v∧cellVal v = true∧r = .ret (.sc v)∧st' = st
theorem natF_run {f : FuncId} {e : Array Value→Sem Value} (h : natF f = some e) (args : Array Value) (w : World) : (callFunc f args).run Tryz.prog w = ((e args).run Tryz.prog w).andThen fun v w'=>.ok (.value v) w':=by
  unfold natF at h
  split at h
  · cases h
    exact run_callFunc_extern Tryz.func144 (by kernel_rfl) (by kernel_rfl) (by kernel_rfl) (by kernel_rfl) args w
  · cases h
    exact run_callFunc_extern Tryz.func125 (by kernel_rfl) (by kernel_rfl) (by kernel_rfl) (by kernel_rfl) args w
  · cases h
theorem hnat_sound {f : FuncId} {args : List AV} {st st' : St} {r : CRes} (h : HNat f args st r st') : SoundCall Tryz.prog [1,0,2,3,8,9] f args st r st':=by
  obtain ⟨e,vs,v,he,hvs,hv,hc,rfl,rfl⟩:=h
  intro n0 wi K w args' hW hn hargs
  have h1:=hargs.cellsV hvs
  subst h1
  refine .inr ⟨v,w,?_,K,hW,Fr.refl K st',v,rfl,.sc hc⟩
  rw [natF_run he,run_closed _ hv]
  rfl
theorem hnat_evo {f : FuncId} {args : List AV} {st st' : St} {r : CRes} (h : HNat f args st r st') : Evo st st':=by
  obtain ⟨e,vs,v,he,hvs,hv,hc,rfl,rfl⟩:=h
  exact Evo.refl _
end Go.VX.Seat
end
