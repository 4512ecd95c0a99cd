/- A part of the proofs of the statements of one layer: CT0, CT1, CT2. No condition is added here. -/
import Derived.Lib.ItoaLen
import Derived.Lib.Join
import Derived.Test.YtcemloapifojkaaGreatDoorXC14
set_option linter.unusedVariables false
set_option linter.unusedSimpArgs false
section
set_option maxRecDepth 4000
namespace Go.VX.Seat
open Go.Proofs Go.Lib
def splC (s : UInt8) : List UInt8→List (List UInt8)
  | []=>[[]]
  | c :: r=>if c = s then [] :: splC s r else match splC s r with
    | x :: t=>(c :: x) :: t
    | []=>[[c]]
abbrev spl:=splC 32
theorem spl_miss {s : UInt8} : ∀ {a : List UInt8},s ∉ a→splC s a = [a]
  | [],_=>rfl
  | c :: r,h=>by
    simp only [List.mem_cons,not_or] at h
    unfold splC
    rw [if_neg (fun e=>h.1 e.symm),spl_miss h.2]
theorem spl_hit {s : UInt8} : ∀ {a b : List UInt8},s ∉ a→splC s (a++s :: b) = a :: splC s b
  | [],b,_=>by
    show splC s (s :: b) = _
    rw [splC,if_pos rfl]
  | c :: r,b,h=>by
    simp only [List.mem_cons,not_or] at h
    show splC s (c :: (r++s :: b)) = _
    rw [splC,if_neg (fun e=>h.1 e.symm),spl_hit h.2]
theorem spl_len (s : UInt8) : ∀ l : List UInt8,(splC s l).length = l.count s + 1
  | []=>rfl
  | c :: r=>by
    unfold splC
    by_cases hc : c = s
    · rw [if_pos hc,List.length_cons,spl_len s r,hc,List.count_cons_self]
    · have ih:=spl_len s r
      rw [if_neg hc,List.count_cons_of_ne (fun e=>hc e)]
      cases hs : splC s r with
      | nil=>rw [hs] at ih; simp at ih
      | cons x t=>rw [hs] at ih; simpa using ih
theorem spl_join {s : UInt8} : ∀ (r : List (List UInt8)) (x : List UInt8),s ∉ x→(∀ y ∈ r,s ∉ y)→splC s (Lib.join (x :: r) [s]) = x :: r
  | [],x,hx,_=>by rw [join_one,spl_miss hx]
  | y :: r,x,hx,hr=>by
    have e : Lib.join (x :: y :: r) [s] = x++s :: Lib.join (y :: r) [s]:=by
      rw [join_cons,join_cons]
      simp [joinTail]
    rw [e,spl_hit hx,spl_join r y (hr y (List.mem_cons_self ..)) fun z hz=>hr z (List.mem_cons_of_mem _ hz)]
theorem spl_cons (s : UInt8) (l : List UInt8) : ∃ x t,splC s l = x :: t:=by
  cases h : splC s l with
  | nil =>
    have:=spl_len s l
    rw [h] at this
    simp at this
  | cons x t=>exact ⟨x,t,rfl⟩
theorem join_spl (s : UInt8) : ∀ l : List UInt8,Lib.join (splC s l) [s] = l∧∀ p ∈ splC s l,s ∉ p
  | []=>⟨by rw [splC,join_one],by simp [splC]⟩
  | c :: r=>by
    obtain ⟨x,t,e⟩:=spl_cons s r
    obtain ⟨h1,h2⟩:=join_spl s r
    rw [e] at h1 h2
    unfold splC
    by_cases hc : c = s
    · subst hc
      rw [if_pos rfl,e]
      refine ⟨?_,fun p hp=>?_⟩
      · rw [join_cons]
        rw [join_cons] at h1
        simp only [joinTail,List.map_cons,List.flatten_cons] at h1 ⊢
        simp only [List.nil_append,List.append_assoc,List.cons_append,h1] at h1 ⊢
      · rcases List.mem_cons.1 hp with rfl | hp
        · simp
        · exact h2 p hp
    · rw [if_neg hc,e]
      refine ⟨?_,fun p hp=>?_⟩
      · rw [join_cons] at h1 ⊢
        rw [List.cons_append,h1]
      · rcases List.mem_cons.1 hp with rfl | hp
        · have:=h2 x (List.mem_cons_self ..)
          simp only [List.mem_cons,not_or]
          exact ⟨fun e=>hc e.symm,this⟩
        · exact h2 p (List.mem_cons_of_mem _ hp)
theorem digit_toNat {d : Nat} (h : d < 10) : (UInt8.ofNat (48 + d)).toNat = 48 + d:=by simp; omega
theorem decDigits_mem : ∀ (u : Nat) (c : UInt8),c ∈ decDigits u→48≤c.toNat∧c.toNat≤57
  | u,c,h=>by
    rw [decDigits] at h
    split at h
    · rename_i hu
      have:=List.mem_singleton.1 h
      subst this
      rw [digit_toNat hu]
      omega
    · rcases List.mem_append.1 h with h | h
      · exact decDigits_mem (u / 10) c h
      · have:=List.mem_singleton.1 h
        subst this
        rw [digit_toNat (Nat.mod_lt _ (by decide))]
        have:=Nat.mod_lt u (show 10 > 0 by decide)
        omega
theorem decDigits_len : ∀ (k u : Nat),u < 10 ^ (k + 1)→(decDigits u).length≤k + 1
  | k,u,h=>by
    rw [decDigits]
    split
    · simp
    · rename_i hu
      cases k with
      | zero=>omega
      | succ k =>
        have:=decDigits_len k (u / 10) (by rw [Nat.pow_succ] at h; omega)
        simp
        omega
def atoiL (l : List UInt8) : Int:=atoiV ⟨l.toArray⟩
theorem parse_app : ∀ (a b : List UInt8) (acc u : Nat),parseUint10 acc a = .ok u→parseUint10 acc (a++b) = parseUint10 u b
  | [],b,acc,u,h=>by
    simp only [parseUint10] at h
    injection h with h
    subst h
    rfl
  | c :: r,b,acc,u,h=>by
    simp only [parseUint10,List.cons_append] at h ⊢
    split at h
    · rename_i h1
      rw [if_pos h1]
      split at h
      · cases h
      · rename_i h2
        rw [if_neg h2]
        split at h
        · cases h
        · rename_i h3
          rw [if_neg h3]
          exact parse_app r b _ u h
    · cases h
theorem parse_dec : ∀ u : Nat,u≤9223372036854775808→parseUint10 0 (decDigits u) = .ok u
  | u,h=>by
    rw [decDigits]
    split
    · rename_i hu
      simp only [parseUint10,digit_toNat hu]
      rw [if_pos (by omega),if_neg (by omega),if_neg (by omega)]
      congr 1
      omega
    · have hm:=Nat.mod_lt u (show 10 > 0 by decide)
      rw [parse_app _ _ 0 (u / 10) (parse_dec (u / 10) (by omega))]
      simp only [parseUint10,digit_toNat hm]
      rw [if_pos (by omega),if_neg (by omega),if_neg (by omega)]
      congr 1
      omega
def I64 (n : Int) : Prop:=-9223372036854775808≤n∧n≤9223372036854775807
theorem itoa_len64 {n : Int} (h : I64 n) : (itoa n).length≤21:=itoa_length_le n h.1 h.2
theorem dec_cons (u : Nat) : ∃ c r,decDigits u = c :: r:=by
  cases hd : decDigits u with
  | nil =>
    rw [decDigits] at hd
    split at hd<;>simp at hd
  | cons c r=>exact ⟨c,r,rfl⟩
theorem atoi_itoa64 {n : Int} (h : I64 n) : atoiAll (itoa n) = .ok n:=by
  obtain ⟨h0,h1⟩:=h
  unfold itoa
  split
  · rename_i hn
    rw [atoiAll_minus]
    obtain ⟨c,r,e⟩:=dec_cons n.natAbs
    have hp:=parse_dec n.natAbs (by omega)
    unfold parseMag
    rw [if_neg (by rw [e]; simp),hp]
    simp only [signed]
    rw [if_neg (by omega)]
    congr 1
    omega
  · rename_i hn
    obtain ⟨c,r,e⟩:=dec_cons n.toNat
    have hp:=parse_dec n.toNat (by omega)
    have hm:=decDigits_mem n.toNat
    rw [e] at hp hm ⊢
    have hc:=hm c (List.mem_cons_self ..)
    rw [atoiAll_plain c r (by omega) (by omega)]
    unfold parseMag
    rw [if_neg (by simp),hp]
    simp only [signless]
    rw [if_neg (by omega)]
    congr 1
    omega
def readN (s : List UInt8) : Option Int:=match atoiAll s with
  | .ok n=>if itoa n = s then some n else none
  | _=>none
theorem readN_itoa {n : Int} (h : I64 n) : readN (itoa n) = some n:=by
  unfold readN
  rw [atoi_itoa64 h]
  simp
theorem readN_some {s : List UInt8} {n : Int} (h : readN s = some n) : s = itoa n∧I64 n:=by
  unfold readN at h
  split at h
  · rename_i m hm
    split at h
    · rename_i e
      cases h
      exact ⟨e.symm,atoiAll_bounds hm⟩
    · cases h
  · cases h
end Go.VX.Seat
end
section
set_option maxRecDepth 4000
namespace Go.VX.Seat
open Go.Proofs Go.Lib
def nmK (k : Int) : List UInt8:=(nameK k).data.toList
def catI (ns : List Int) : List UInt8:=(ns.map fun n=>32 :: itoa n).flatten
theorem catI_snoc (ns : List Int) (n : Int) : catI (ns++[n]) = catI ns++32 :: itoa n:=by
  unfold catI
  rw [List.map_append,List.flatten_append]
  simp
theorem catI_take {ns : List Int} {i : Nat} (hi : i < ns.length) : catI (ns.take (i + 1)) = catI (ns.take i)++32 :: itoa ns[i]:=by
  rw [List.take_succ_eq_append_getElem hi,catI_snoc]
theorem catI_len : ∀ {ns : List Int},(∀ x ∈ ns,I64 x)→(catI ns).length≤22 * ns.length
  | [],_=>Nat.le_refl _
  | a :: r,h=>by
    have h1:=itoa_len64 (h a (List.mem_cons_self ..))
    have h2:=catI_len (ns:=r) fun x hx=>h x (List.mem_cons_of_mem _ hx)
    simp only [catI,List.map_cons,List.flatten_cons,List.length_append,List.length_cons] at h2 ⊢
    omega
def grdX (g : Int) : List UInt8:=if decide (g≠-1) then 63 :: 32 :: (itoa g++[32]) else []
def dstX (o : OpV) : List UInt8:=if hasDst o.k then itoa o.d++[32,61,32] else []
def numX (o : OpV) : List UInt8:=if hasN o.k then 32 :: itoa o.n else []
def opX (o : OpV) : List UInt8:=grdX o.g++dstX o++nmK o.k++catI (operL o)++numX o
def endNm (k : Int) : List UInt8:=if k = 1 then [106,117,109,112] else if k = 2 then [98,114,97,110,99,104] else if k = 3 then [114,101,116,117,114,110] else [116,104,114,111,119]
structure OpI (o : OpV) : Prop where
  k : I64 o.k
  d : I64 o.d
  a : I64 o.a
  b : I64 o.b
  c : I64 o.c
  n : I64 o.n
  g : I64 o.g
structure EndI (e : EndV) : Prop where
  k : I64 e.k
  a : I64 e.a
  t : I64 e.t
  e : I64 e.e
structure BlkI (b : BlkV) : Prop where
  ops : ∀ o ∈ b.ops,OpI o
  e : EndI b.e
  c : I64 b.catch_
structure UnitI (U : UnitV) : Prop where
  sizes : ∀ n ∈ U.sizes,I64 n
  params : I64 U.params
  regs : I64 U.regs
  code : I64 U.code
  spill : I64 U.spill
  blocks : ∀ b ∈ U.blocks,BlkI b
theorem operL_I {o : OpV} (h : OpI o) : ∀ x ∈ operL o,I64 x:=fun x hx=>by
  unfold operL at hx
  simp only [List.mem_append] at hx
  rcases hx with (hx | hx) | hx<;>split at hx
  all_goals first | (rcases List.mem_singleton.1 hx with rfl) | cases hx
  · exact h.a
  · exact h.b
  · exact h.c
theorem nm_all : ∀ j : Fin 25,((nameL.getD j.val ⟨#[]⟩).data.toList.length≤5∧(nameL.getD j.val ⟨#[]⟩).data.toList≠[]∧(nameL.getD j.val ⟨#[]⟩).data.toList.all (fun c=>decide (97≤c.toNat)) = true):=by decide +kernel
theorem nmK_of {k : Int} (h : oneK k = true) : (nmK k).length≤5∧nmK k≠[]∧∀ c ∈ nmK k,97≤c.toNat:=by
  have hk : 1≤k∧k≤25:=by unfold oneK at h; simpa using h
  have:=nm_all ⟨(k - 1).toNat,by omega⟩
  unfold nmK nameK
  rw [if_pos h]
  exact ⟨this.1,this.2.1,fun c hc=>of_decide_eq_true (List.all_eq_true.1 this.2.2 c hc)⟩
theorem nmK_len (k : Int) : (nmK k).length≤5:=by
  cases h : oneK k
  · unfold nmK nameK; rw [if_neg (by simp [h])]; exact Nat.zero_le _
  · exact (nmK_of h).1
theorem grdX_len {g : Int} (h : I64 g) : (grdX g).length≤24:=by
  have:=itoa_len64 h
  unfold grdX
  split<;>simp<;>omega
theorem dstX_len {o : OpV} (h : OpI o) : (dstX o).length≤24:=by
  have:=itoa_len64 h.d
  unfold dstX
  split<;>simp<;>omega
theorem numX_len {o : OpV} (h : OpI o) : (numX o).length≤22:=by
  have:=itoa_len64 h.n
  unfold numX
  split<;>simp<;>omega
end Go.VX.Seat
end
open Go.VX.AV renaming cell? → xc, toV → xd
open Int renaming reduceAdd → xe, reduceLE → xf, reduceLT → xg, reduceNeg → xh, reduceToNat → xi
open Nat renaming reduceAdd → xj, reduceEqDiff → xk, reduceLeDiff → xl, reduceMul → xm, reduceSub → xn
open Go.VX.VOpd renaming ev → xp
open Go.VX renaming asInt? → xq, asNat? → xr, cellVal → xu, cellsV → xv, fillA → xw, partsEv → xy, resOf → xz, splice → ya, tupOf → yb, zeroes → yc
section
set_option maxRecDepth 4000
namespace Go.VX.Seat
open Go.Proofs Go.Lib
structure Bl (S0 s : St) (bx : Nat) (l : List UInt8) : Prop where
  pre : ∃ k,s = S0++k
  hi : S0.length≤bx
  at_ : ∃ ver,s[bx]? = some ⟨bldCells l,3,ver⟩
theorem Bl.app {S0 s : St} {bx : Nat} {l : List UInt8} (h : Bl S0 s bx l) (L : St) : Bl S0 (s++L) bx l:=by
  obtain ⟨⟨k,rfl⟩,h2,ver,h3⟩:=h
  exact ⟨⟨k++L,by simp⟩,h2,ver,by rw [List.getElem?_append_left (List.getElem?_eq_some_iff.1 h3).1]; exact h3⟩
theorem Bl.lt {S0 s : St} {bx : Nat} {l : List UInt8} (h : Bl S0 s bx l) : bx < s.length:=by
  obtain ⟨ver,h3⟩:=h.at_
  exact (List.getElem?_eq_some_iff.1 h3).1
section
variable {X : Cx} {st : St}
theorem j_Itoa (h : OnH X) (hg : GB st) (n : Int) (hn : I64 n) : J X.P X.F X.H (.call 40 [iA n] st (.ret (sA (Lib.itoa n))) st) :=
  .hook (h.srt _ _ _ _ _ ⟨hg,rfl,.inl ⟨rfl,n,rfl,hn.1,hn.2,rfl⟩⟩)
theorem j_FormatInt (h : OnH X) (hg : GB st) (n : Int) (hn : I64 n) : J X.P X.F X.H (.call 96 [iA n,iA 10] st (.ret (sA (Lib.itoa n))) st) :=
  .hook (h.srt _ _ _ _ _ ⟨hg,rfl,.inr (.inl ⟨rfl,n,rfl,hn.1,hn.2,rfl⟩)⟩)
theorem j_ParseInt (h : OnH X) (hg : GB st) (l : List UInt8) (hl : l.length≤100000000) : J X.P X.F X.H (.call 134 [sA l,iA 10,iA 64] st (.ret (.tup [iA (atoiL l),atoiE (sB l)])) st) :=
  .hook (h.srt _ _ _ _ _ ⟨hg,rfl,.inr (.inr ⟨rfl,sB l,rfl,by rw [sB_size]; omega,rfl⟩)⟩)
theorem j_word_Show (h : OnH X) (hg : GB st) (n : Int) (hn : I64 n) : J X.P X.F X.H (.call 74 [iA n] st (.ret (sA (Lib.itoa n))) st):=by
  refine pure_intro (by rw [h.F]; rfl) rfl ?_
  simp only [v_word_Show,kB,kZ,kD,kE,xn,xi,xm,xe,xf,xg,xh,xl,xk,xj,reduceIte,reduceCtorEq,ya,xz,xu]
  refine callO_same (j_FormatInt h (hg.app _) n hn) ?_
  simp only [kB,kZ,kD,kE,xn,xi,xm,xe,xf,xg,xh,xl,xk,xj,reduceIte,reduceCtorEq,ya,xz,xu]
  first | exact ⟨_,rfl⟩ | exact ⟨rfl,_,rfl⟩ | exact ⟨trivial,_,rfl⟩ | exact ⟨[],(List.append_nil _).symm⟩
theorem j_r01_Show (h : OnH X) (hg : GB st) (n : Int) (hn : I64 n) : J X.P X.F X.H (.call 76 [iA n] st (.ret (sA (Lib.itoa n))) st):=by
  refine pure_intro (by rw [h.F]; rfl) rfl ?_
  simp only [v_r01_Show,kB,kZ,kD,kE,xn,xi,xm,xe,xf,xg,xh,xl,xk,xj,reduceIte,reduceCtorEq,ya,xz,xu]
  refine callO_same (j_FormatInt h (hg.app _) n hn) ?_
  simp only [kB,kZ,kD,kE,xn,xi,xm,xe,xf,xg,xh,xl,xk,xj,reduceIte,reduceCtorEq,ya,xz,xu]
  first | exact ⟨_,rfl⟩ | exact ⟨rfl,_,rfl⟩ | exact ⟨trivial,_,rfl⟩ | exact ⟨[],(List.append_nil _).symm⟩
end
end Go.VX.Seat
end
