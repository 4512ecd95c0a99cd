/- A part of the proofs of the statements of one layer: CT0, CT1, CT2. No condition is added here. -/
import Derived.Lib.ItoaLen
import Derived.Lib.Join
import Derived.Test.YtcemloapifojkaaDoorXB13
set_option linter.unusedVariables false
set_option linter.unusedSimpArgs false
section
set_option maxRecDepth 4000
namespace Go.VX.Seat
open Go.Proofs Go.Lib
def splC (s : UInt8) : List UInt8→List (List UInt8)
  | []=>[[]]
  | c :: r=>if c = s then [] :: splC s r else match splC s r with
    | x :: t=>(c :: x) :: t
    | []=>[[c]]
abbrev spl:=splC 32
theorem spl_miss {s : UInt8} : ∀ {a : List UInt8},s ∉ a→splC s a = [a]
  | [],_=>rfl
  | c :: r,h=>by
    simp only [List.mem_cons,not_or] at h
    unfold splC
    rw [if_neg (fun e=>h.1 e.symm),spl_miss h.2]
theorem spl_hit {s : UInt8} : ∀ {a b : List UInt8},s ∉ a→splC s (a++s :: b) = a :: splC s b
  | [],b,_=>by
    show splC s (s :: b) = _
    rw [splC,if_pos rfl]
  | c :: r,b,h=>by
    simp only [List.mem_cons,not_or] at h
    show splC s (c :: (r++s :: b)) = _
    rw [splC,if_neg (fun e=>h.1 e.symm),spl_hit h.2]
theorem spl_len (s : UInt8) : ∀ l : List UInt8,(splC s l).length = l.count s + 1
  | []=>rfl
  | c :: r=>by
    unfold splC
    by_cases hc : c = s
    · rw [if_pos hc,List.length_cons,spl_len s r,hc,List.count_cons_self]
    · have ih:=spl_len s r
      rw [if_neg hc,List.count_cons_of_ne (fun e=>hc e)]
      cases hs : splC s r with
      | nil=>rw [hs] at ih; simp at ih
      | cons x t=>rw [hs] at ih; simpa using ih
theorem spl_cons (s : UInt8) (l : List UInt8) : ∃ x t,splC s l = x :: t:=by
  cases h : splC s l with
  | nil =>
    have:=spl_len s l
    rw [h] at this
    simp at this
  | cons x t=>exact ⟨x,t,rfl⟩
theorem join_spl (s : UInt8) : ∀ l : List UInt8,Lib.join (splC s l) [s] = l∧∀ p ∈ splC s l,s ∉ p
  | []=>⟨by rw [splC,join_one],by simp [splC]⟩
  | c :: r=>by
    obtain ⟨x,t,e⟩:=spl_cons s r
    obtain ⟨h1,h2⟩:=join_spl s r
    rw [e] at h1 h2
    unfold splC
    by_cases hc : c = s
    · subst hc
      rw [if_pos rfl,e]
      refine ⟨?_,fun p hp=>?_⟩
      · rw [join_cons]
        rw [join_cons] at h1
        simp only [joinTail,List.map_cons,List.flatten_cons] at h1 ⊢
        simp only [List.nil_append,List.append_assoc,List.cons_append,h1] at h1 ⊢
      · rcases List.mem_cons.1 hp with rfl | hp
        · simp
        · exact h2 p hp
    · rw [if_neg hc,e]
      refine ⟨?_,fun p hp=>?_⟩
      · rw [join_cons] at h1 ⊢
        rw [List.cons_append,h1]
      · rcases List.mem_cons.1 hp with rfl | hp
        · have:=h2 x (List.mem_cons_self ..)
          simp only [List.mem_cons,not_or]
          exact ⟨fun e=>hc e.symm,this⟩
        · exact h2 p (List.mem_cons_of_mem _ hp)
def atoiL (l : List UInt8) : Int:=atoiV ⟨l.toArray⟩
def I64 (n : Int) : Prop:=-9223372036854775808≤n∧n≤9223372036854775807
theorem itoa_len64 {n : Int} (h : I64 n) : (itoa n).length≤21:=itoa_length_le n h.1 h.2
def readN (s : List UInt8) : Option Int:=match atoiAll s with
  | .ok n=>if itoa n = s then some n else none
  | _=>none
theorem readN_some {s : List UInt8} {n : Int} (h : readN s = some n) : s = itoa n∧I64 n:=by
  unfold readN at h
  split at h
  · rename_i m hm
    split at h
    · rename_i e
      cases h
      exact ⟨e.symm,atoiAll_bounds hm⟩
    · cases h
  · cases h
end Go.VX.Seat
end
section
set_option maxRecDepth 4000
namespace Go.VX.Seat
open Go.Proofs Go.Lib
def nmK (k : Int) : List UInt8:=(nameK k).data.toList
def catI (ns : List Int) : List UInt8:=(ns.map fun n=>32 :: itoa n).flatten
theorem catI_snoc (ns : List Int) (n : Int) : catI (ns++[n]) = catI ns++32 :: itoa n:=by
  unfold catI
  rw [List.map_append,List.flatten_append]
  simp
theorem catI_take {ns : List Int} {i : Nat} (hi : i < ns.length) : catI (ns.take (i + 1)) = catI (ns.take i)++32 :: itoa ns[i]:=by
  rw [List.take_succ_eq_append_getElem hi,catI_snoc]
theorem catI_len : ∀ {ns : List Int},(∀ x ∈ ns,I64 x)→(catI ns).length≤22 * ns.length
  | [],_=>Nat.le_refl _
  | a :: r,h=>by
    have h1:=itoa_len64 (h a (List.mem_cons_self ..))
    have h2:=catI_len (ns:=r) fun x hx=>h x (List.mem_cons_of_mem _ hx)
    simp only [catI,List.map_cons,List.flatten_cons,List.length_append,List.length_cons] at h2 ⊢
    omega
def grdX (g : Int) : List UInt8:=if decide (g≠-1) then 63 :: 32 :: (itoa g++[32]) else []
def dstX (o : OpV) : List UInt8:=if hasDst o.k then itoa o.d++[32,61,32] else []
def numX (o : OpV) : List UInt8:=if hasN o.k then 32 :: itoa o.n else []
def opX (o : OpV) : List UInt8:=grdX o.g++dstX o++nmK o.k++catI (operL o)++numX o
def endNm (k : Int) : List UInt8:=if k = 1 then [106,117,109,112] else if k = 2 then [98,114,97,110,99,104] else if k = 3 then [114,101,116,117,114,110] else [116,104,114,111,119]
def endL (e : EndV) : List Int:=if e.k = 1 then [e.t] else if e.k = 2 then [e.a,e.t,e.e] else [e.a]
def endX (e : EndV) : List UInt8:=endNm e.k++catI (endL e)
def sizeX (n : Int) : List UInt8:=[97,114,114,97,121,32]++itoa n++[10]
def lineX (l : List UInt8) : List UInt8:=32 :: 32 :: (l++[10])
def opsX (l : List OpV) : List UInt8:=(l.map fun o=>lineX (opX o)).flatten
def blkX (b : BlkV) : List UInt8:=[98,108,111,99,107,32]++itoa b.catch_++[10]++opsX b.ops++lineX (endX b.e)
def hdX (U : UnitV) : List UInt8:=[117,110,105,116]++catI [U.params,U.regs,U.code,U.spill]++[10]
def szsX (l : List Int) : List UInt8:=(l.map sizeX).flatten
def blksX (l : List BlkV) : List UInt8:=(l.map blkX).flatten
def txtU (U : UnitV) : List UInt8:=hdX U++szsX U.sizes++blksX U.blocks
structure OpI (o : OpV) : Prop where
  k : I64 o.k
  d : I64 o.d
  a : I64 o.a
  b : I64 o.b
  c : I64 o.c
  n : I64 o.n
  g : I64 o.g
structure EndI (e : EndV) : Prop where
  k : I64 e.k
  a : I64 e.a
  t : I64 e.t
  e : I64 e.e
structure BlkI (b : BlkV) : Prop where
  ops : ∀ o ∈ b.ops,OpI o
  e : EndI b.e
  c : I64 b.catch_
structure UnitI (U : UnitV) : Prop where
  sizes : ∀ n ∈ U.sizes,I64 n
  params : I64 U.params
  regs : I64 U.regs
  code : I64 U.code
  spill : I64 U.spill
  blocks : ∀ b ∈ U.blocks,BlkI b
theorem operL_I {o : OpV} (h : OpI o) : ∀ x ∈ operL o,I64 x:=fun x hx=>by
  unfold operL at hx
  simp only [List.mem_append] at hx
  rcases hx with (hx | hx) | hx<;>split at hx
  all_goals first | (rcases List.mem_singleton.1 hx with rfl) | cases hx
  · exact h.a
  · exact h.b
  · exact h.c
theorem nm_all : ∀ j : Fin 25,((nameL.getD j.val ⟨#[]⟩).data.toList.length≤5∧(nameL.getD j.val ⟨#[]⟩).data.toList≠[]∧(nameL.getD j.val ⟨#[]⟩).data.toList.all (fun c=>decide (97≤c.toNat)) = true):=by decide +kernel
theorem nmK_of {k : Int} (h : oneK k = true) : (nmK k).length≤5∧nmK k≠[]∧∀ c ∈ nmK k,97≤c.toNat:=by
  have hk : 1≤k∧k≤25:=by unfold oneK at h; simpa using h
  have:=nm_all ⟨(k - 1).toNat,by omega⟩
  unfold nmK nameK
  rw [if_pos h]
  exact ⟨this.1,this.2.1,fun c hc=>of_decide_eq_true (List.all_eq_true.1 this.2.2 c hc)⟩
theorem nmK_len (k : Int) : (nmK k).length≤5:=by
  cases h : oneK k
  · unfold nmK nameK; rw [if_neg (by simp [h])]; exact Nat.zero_le _
  · exact (nmK_of h).1
theorem grdX_len {g : Int} (h : I64 g) : (grdX g).length≤24:=by
  have:=itoa_len64 h
  unfold grdX
  split<;>simp<;>omega
theorem dstX_len {o : OpV} (h : OpI o) : (dstX o).length≤24:=by
  have:=itoa_len64 h.d
  unfold dstX
  split<;>simp<;>omega
theorem numX_len {o : OpV} (h : OpI o) : (numX o).length≤22:=by
  have:=itoa_len64 h.n
  unfold numX
  split<;>simp<;>omega
theorem opX_len {o : OpV} (h : OpI o) : (opX o).length≤150:=by
  have h1:=grdX_len h.g
  have h2:=dstX_len h
  have h3:=numX_len h
  have h4:=nmK_len o.k
  have h5:=catI_len (operL_I h)
  have h6:=operL_len o
  simp only [opX,List.length_append]
  omega
theorem endL_I {e : EndV} (h : EndI e) : ∀ x ∈ endL e,I64 x:=fun x hx=>by
  unfold endL at hx
  split at hx
  · rcases List.mem_singleton.1 hx with rfl; exact h.t
  · split at hx
    · simp only [List.mem_cons,List.not_mem_nil,or_false] at hx
      rcases hx with rfl | rfl | rfl
      · exact h.a
      · exact h.t
      · exact h.e
    · rcases List.mem_singleton.1 hx with rfl; exact h.a
theorem endL_len (e : EndV) : (endL e).length≤3:=by
  unfold endL
  split
  · simp
  · split<;>simp
theorem endNm_len (k : Int) : (endNm k).length≤6:=by
  unfold endNm
  split
  · simp
  · split
    · simp
    · split<;>simp
theorem endX_len {e : EndV} (h : EndI e) : (endX e).length≤72:=by
  have h1:=catI_len (endL_I h)
  have h2:=endL_len e
  have h3:=endNm_len e.k
  simp only [endX,List.length_append]
  omega
theorem opsX_len : ∀ {l : List OpV},(∀ o ∈ l,OpI o)→(opsX l).length≤153 * l.length
  | [],_=>Nat.le_refl _
  | a :: r,h=>by
    have h1:=opX_len (h a (List.mem_cons_self ..))
    have h2:=opsX_len (l:=r) fun x hx=>h x (List.mem_cons_of_mem _ hx)
    simp only [opsX,List.map_cons,List.flatten_cons,List.length_append,List.length_cons,lineX,List.length_nil] at h2 ⊢
    omega
theorem opsX_take {l : List OpV} {i : Nat} (hi : i < l.length) : opsX (l.take (i + 1)) = opsX (l.take i)++lineX (opX l[i]):=by
  unfold opsX
  rw [List.take_succ_eq_append_getElem hi,List.map_append,List.flatten_append]
  simp
theorem blkX_len {b : BlkV} (h : BlkI b) : (blkX b).length≤110 + 153 * b.ops.length:=by
  have h1:=opsX_len h.ops
  have h2:=endX_len h.e
  have h3:=itoa_len64 h.c
  simp only [blkX,lineX,List.length_append,List.length_cons,List.length_nil]
  omega
theorem blksX_len : ∀ {l : List BlkV},(∀ b ∈ l,BlkI b)→(blksX l).length≤110 * l.length + 153 * total l
  | [],_=>Nat.le_refl _
  | a :: r,h=>by
    have h1:=blkX_len (h a (List.mem_cons_self ..))
    have h2:=blksX_len (l:=r) fun x hx=>h x (List.mem_cons_of_mem _ hx)
    simp only [blksX,total,List.map_cons,List.flatten_cons,List.length_append,List.length_cons,List.sum_cons] at h2 ⊢
    omega
theorem blksX_take {l : List BlkV} {i : Nat} (hi : i < l.length) : blksX (l.take (i + 1)) = blksX (l.take i)++blkX l[i]:=by
  unfold blksX
  rw [List.take_succ_eq_append_getElem hi,List.map_append,List.flatten_append]
  simp
theorem szsX_len : ∀ {l : List Int},(∀ b ∈ l,I64 b)→(szsX l).length≤28 * l.length
  | [],_=>Nat.le_refl _
  | a :: r,h=>by
    have h1:=itoa_len64 (h a (List.mem_cons_self ..))
    have h2:=szsX_len (l:=r) fun x hx=>h x (List.mem_cons_of_mem _ hx)
    simp only [szsX,sizeX,List.map_cons,List.flatten_cons,List.length_append,List.length_cons,List.length_nil] at h2 ⊢
    omega
theorem szsX_take {l : List Int} {i : Nat} (hi : i < l.length) : szsX (l.take (i + 1)) = szsX (l.take i)++sizeX l[i]:=by
  unfold szsX
  rw [List.take_succ_eq_append_getElem hi,List.map_append,List.flatten_append]
  simp
theorem total_take (l : List BlkV) (i : Nat) : total (l.take i)≤total l:=by
  induction l generalizing i with
  | nil=>simp
  | cons a r ih =>
    cases i with
    | zero=>simp [total]
    | succ i =>
      have:=ih i
      simp only [total,List.take_succ_cons,List.map_cons,List.sum_cons] at this ⊢
      omega
theorem hdX_len {U : UnitV} (h : UnitI U) : (hdX U).length≤100:=by
  have h1:=itoa_len64 h.params
  have h2:=itoa_len64 h.regs
  have h3:=itoa_len64 h.code
  have h4:=itoa_len64 h.spill
  simp only [hdX,catI,List.map_cons,List.map_nil,List.flatten_cons,List.flatten_nil,List.length_append,List.length_cons,List.length_nil]
  omega
theorem part_len {U : UnitV} (h : UnitI U) (hw : Wf U) (i j : Nat) : (hdX U++szsX (U.sizes.take i)++blksX (U.blocks.take j)).length≤4000000:=by
  have h1:=hdX_len h
  have h2:=szsX_len (l:=U.sizes.take i) fun b hb=>h.sizes b (List.mem_of_mem_take hb)
  have h3:=blksX_len (l:=U.blocks.take j) fun b hb=>h.blocks b (List.mem_of_mem_take hb)
  have h4:=total_take U.blocks j
  have h5:=hw.tot
  have h6:=hw.nb
  have h7:=hw.sizes
  have h8 : (U.sizes.take i).length≤16:=by simp; omega
  have h9 : (U.blocks.take j).length≤2000:=by simp; omega
  simp only [List.length_append]
  omega
theorem txtU_len {U : UnitV} (h : UnitI U) (hw : Wf U) : (txtU U).length≤4000000:=by
  have:=part_len h hw U.sizes.length U.blocks.length
  rwa [List.take_length,List.take_length] at this
end Go.VX.Seat
end
section
set_option maxRecDepth 4000
namespace Go.VX.Seat
open Go.Proofs Go.Lib
structure Bl (S0 s : St) (bx : Nat) (l : List UInt8) : Prop where
  pre : ∃ k,s = S0++k
  hi : S0.length≤bx
  at_ : ∃ ver,s[bx]? = some ⟨bldCells l,3,ver⟩
theorem Bl.app {S0 s : St} {bx : Nat} {l : List UInt8} (h : Bl S0 s bx l) (L : St) : Bl S0 (s++L) bx l:=by
  obtain ⟨⟨k,rfl⟩,h2,ver,h3⟩:=h
  exact ⟨⟨k++L,by simp⟩,h2,ver,by rw [List.getElem?_append_left (List.getElem?_eq_some_iff.1 h3).1]; exact h3⟩
theorem Bl.lt {S0 s : St} {bx : Nat} {l : List UInt8} (h : Bl S0 s bx l) : bx < s.length:=by
  obtain ⟨ver,h3⟩:=h.at_
  exact (List.getElem?_eq_some_iff.1 h3).1
section
variable {X : Cx} {st : St}
theorem callO_write {S0 s : St} {bx : Nat} {l t : List UInt8} {env : Env} {dst : Option Nat} {K : Env→St→Post3→Prop} {Q : Post3} (h : OnH X) (hb : Bl S0 s bx l) (hl : l.length≤1000000000) (ht : t.length≤1000000000)
    (hK : ∀ s',Bl S0 s' bx (l++t)→Agree (fun b=>b = bx) s s'→K (env.put dst (.tup [iA (t.length : Int),.sc .nilIface])) s' Q) :
    callO X 20 [.ptr bx 0,sA t] dst [] K env s Q:=by
  obtain ⟨⟨k,rfl⟩,h2,ver,hx⟩:=hb
  have hlt:=(List.getElem?_eq_some_iff.1 hx).1
  refine ⟨_,_,.hook (h.told _ _ _ _ _ (.inr (.inl ⟨bx,l,ver,hx,hl,.inl ⟨rfl,sB t,rfl,ht,rfl,rfl⟩⟩))),keptA_nil _ _ _,hK _ ⟨?_,h2,ver + 1,?_⟩ (Agree.set _ _ _)⟩
  · exact (Agree.set (S0++k) bx ⟨bldCells (l++(sB t).data.toList),3,ver + 1⟩).ext ⟨k,rfl⟩ fun b hb e=>by omega
  · rw [List.getElem?_set_self hlt]
theorem j_BString {S0 s : St} {bx : Nat} {l : List UInt8} (h : OnH X) (hb : Bl S0 s bx l) (hl : l.length≤1000000000) : J X.P X.F X.H (.call 24 [.ptr bx 0] s (.ret (sA l)) s):=by
  obtain ⟨_,_,ver,hx⟩:=hb
  exact .hook (h.told _ _ _ _ _ (.inr (.inl ⟨bx,l,ver,hx,hl,.inr ⟨rfl,rfl,rfl,rfl⟩⟩)))
theorem j_Itoa (h : OnH X) (hg : GB st) (n : Int) (hn : I64 n) : J X.P X.F X.H (.call 21 [iA n] st (.ret (sA (Lib.itoa n))) st) :=
  .hook (h.srt _ _ _ _ _ ⟨hg,rfl,.inl ⟨rfl,n,rfl,hn.1,hn.2,rfl⟩⟩)
theorem j_FormatInt (h : OnH X) (hg : GB st) (n : Int) (hn : I64 n) : J X.P X.F X.H (.call 53 [iA n,iA 10] st (.ret (sA (Lib.itoa n))) st) :=
  .hook (h.srt _ _ _ _ _ ⟨hg,rfl,.inr (.inl ⟨rfl,n,rfl,hn.1,hn.2,rfl⟩)⟩)
theorem j_ParseInt (h : OnH X) (hg : GB st) (l : List UInt8) (hl : l.length≤100000000) : J X.P X.F X.H (.call 87 [sA l,iA 10,iA 64] st (.ret (.tup [iA (atoiL l),atoiE (sB l)])) st) :=
  .hook (h.srt _ _ _ _ _ ⟨hg,rfl,.inr (.inr ⟨rfl,sB l,rfl,by rw [sB_size]; omega,rfl⟩)⟩)
theorem j_word_Show (h : OnH X) (hg : GB st) (n : Int) (hn : I64 n) : J X.P X.F X.H (.call 41 [iA n] st (.ret (sA (Lib.itoa n))) st):=by
  refine pure_intro (by rw [h.F]; rfl) rfl ?_
  simp only [v_word_Show,kB,kZ,kD,kE,Nat.reduceSub,Int.reduceToNat,Nat.reduceMul,Int.reduceAdd,Int.reduceLE,Int.reduceLT,Int.reduceNeg,Nat.reduceLeDiff,Nat.reduceEqDiff,Nat.reduceAdd,reduceIte,reduceCtorEq,splice,resOf,cellVal]
  refine callO_same (j_FormatInt h (hg.app _) n hn) ?_
  simp only [kB,kZ,kD,kE,Nat.reduceSub,Int.reduceToNat,Nat.reduceMul,Int.reduceAdd,Int.reduceLE,Int.reduceLT,Int.reduceNeg,Nat.reduceLeDiff,Nat.reduceEqDiff,Nat.reduceAdd,reduceIte,reduceCtorEq,splice,resOf,cellVal]
  first | exact ⟨_,rfl⟩ | exact ⟨rfl,_,rfl⟩ | exact ⟨trivial,_,rfl⟩ | exact ⟨[],(List.append_nil _).symm⟩
end
end Go.VX.Seat
end
