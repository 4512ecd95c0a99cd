/- A part of the proofs of the statements of one layer: H8, H5p, E2s, E4s, E3s, T5, T6, ST1. No condition is added here. -/
import Derived.Lib.ParseIntBTie
import Derived.Test.YtcemloapifojkaaGreatDoorXC12
set_option linter.unusedVariables false
set_option linter.unusedSimpArgs false
section
namespace Go.VX
open Go.RowKit (Below)
open Go.Lib Go.Sort
theorem below_grow {w : World} (k : Nat) (os : Array Obj) : Below w.heap.size w (grow (w.drewN k) os) :=
  ⟨rfl,rfl,rfl,by simp [grow],fun i hi=>by
    simp only [grow]
    exact Array.getElem?_append_left (by simpa using hi)⟩
namespace Seat
open Go.Proofs
def GBv (st : St) : Prop:=∀ (j : Nat) (x : Box),glS[j]? = some x→st[j]? = some x
theorem pow_glob : glob_internal_strconv_uint64pow10 = Lib.pow10Tab.map fun z=>AV.sc (Value.int .u64 z):=by kernel_rfl
theorem tab_is {n0 : Nat} {wi : World} {K : KM} {st : St} {w : World} (hW : WRel n0 wi [1, 0, 2, 3, 8, 9] K st w) (hn : n0 ≤ wi.heap.size) (hg : GBv st) : Lib.TabIs Tryz.prog w "internal/strconv.uint64pow10" .u64 Lib.pow10Tab := by
  have h1:=hg 2 ⟨glob_internal_strconv_uint64pow10,1,0⟩ rfl
  obtain ⟨kb,hk,hrb,hro,hsz⟩:=hW.glob 2 _ rfl
  have hfit:=hW.fit 2 _ kb h1 (by decide) hk
  have hl20 : glob_internal_strconv_uint64pow10.length = 20:=rfl
  simp only [hl20] at hfit
  rcases hsz with h0 | ⟨hlt,c,el,lv,hh,h20⟩
  · omega
  · have hb:=(hW.below.block _ hlt).trans hh
    have hc : ∀ (o : Nat) (v : Value),glob_internal_strconv_uint64pow10[o]? = some (.sc v)→c[o]? = some v:=fun o v ho=>by
      obtain ⟨v',hv',hr⟩:=hW.cell 2 _ kb h1 (by decide) hk o _ ho
      have:=VRel.sc_eq hr
      subst this
      rw [hrb,hro,Nat.zero_add] at hv'
      unfold World.cell? at hv'
      rw [hb] at hv'
      simpa using hv'
    have h20:=h20 (hc 0 _ rfl)
    have e : c = (Lib.pow10Tab.map fun z=>Value.int .u64 z).toArray:=by
      refine Array.ext_getElem? fun i=>?_
      by_cases hi : i < 20
      · have hp : i < Lib.pow10Tab.length:=by rw [pow10Tab_length]; exact hi
        rw [hc i (.int .u64 Lib.pow10Tab[i]) (by rw [pow_glob,List.getElem?_map,List.getElem?_eq_getElem hp]; rfl),List.getElem?_toArray,List.getElem?_map,List.getElem?_eq_getElem hp]
        rfl
      · rw [Array.getElem?_eq_none (by omega),Array.getElem?_eq_none (by rw [List.size_toArray,List.length_map,pow10Tab_length]; omega)]
    show World.var? _ _ _ = _
    unfold World.var?
    rw [show Tryz.prog.globalNamed "internal/strconv.uint64pow10" = some _ by kernel_rfl]
    simp only [Option.bind_some]
    rw [hb,e]
theorem err_is {n0 : Nat} {wi : World} {K : KM} {st : St} {w : World} (hW : WRel n0 wi [1,0,2,3,8,9] K st w) {j g : Nat} (hj : ([1,0,2,3,8,9] : List Nat)[j]? = some g) (hx : st[j]? = some ⟨[.err],1,0⟩) : ∃ te pe,w.cell? ⟨g,0,none⟩ = some (.iface te pe):=by
  obtain ⟨kb,hk,hrb,hro,_⟩:=hW.glob j _ hj
  obtain ⟨v,hv,hr⟩:=hW.cell j _ kb hx (show ¬ 2≤1 by decide) hk 0 .err rfl
  rw [hrb,hro] at hv
  cases hr
  exact ⟨_,_,hv⟩
def atoiV (s : ByteArray) : Int:=match Lib.atoiAll s.data.toList with
  | .ok v=>v
  | .range=>Lib.atoiSat s.data.toList
  | _=>0
def atoiE (s : ByteArray) : AV:=match Lib.atoiAll s.data.toList with
  | .ok _=>.sc .nilIface
  | _=>.err
def HSrt : FuncId→List AV→St→CRes→St→Prop:=fun f args st r st'=>GBv st∧st' = st ∧
  ((f = 40∧∃ n : Int,args = [iA n]∧-9223372036854775808≤n∧n≤9223372036854775807∧r = .ret (.sc (.string ⟨(Lib.itoa n).toArray⟩))) ∨
   (f = 96∧∃ n : Int,args = [iA n,iA 10]∧-9223372036854775808≤n∧n≤9223372036854775807∧r = .ret (.sc (.string ⟨(Lib.itoa n).toArray⟩))) ∨
   (f = 134∧∃ s : ByteArray,args = [.sc (.string s),iA 10,iA 64]∧s.size≤281474976710656∧r = .ret (.tup [iA (atoiV s),atoiE s])))
theorem callable_itoa : Callable Tryz.prog 40:=⟨Tryz.f40,by kernel_rfl,by kernel_rfl,by kernel_rfl⟩
theorem callable_format : Callable Tryz.prog 96:=⟨Tryz.f96,by kernel_rfl,by kernel_rfl,by kernel_rfl⟩
theorem callable_parse : Callable Tryz.prog 134:=⟨Tryz.f134,by kernel_rfl,by kernel_rfl,by kernel_rfl⟩
theorem hsrt_sound {f : FuncId} {args : List AV} {st st' : St} {r : CRes} (h : HSrt f args st r st') : SoundCall Tryz.prog [1,0,2,3,8,9] f args st r st':=by
  obtain ⟨hg,rfl,h⟩:=h
  rcases h with ⟨rfl,n,rfl,h0,h1,rfl⟩ | ⟨rfl,n,rfl,h0,h1,rfl⟩ | ⟨rfl,s,rfl,hs,rfl⟩
  · refine SoundC.sound ?_ callable_itoa
    intro n0 wi K w args' hW hn hargs
    cases hargs with
    | cons h2 h3 =>
      cases h3
      have h2:=VRel.sc_eq h2
      subst h2
      refine (Tryz.strconv_Itoa n h0 h1 w (tab_is hW hn hg)).mono fun e w' ⟨he,k,os,hw⟩=>?_
      subst he; subst hw
      exact ⟨K,hW.keep (hW.size hn) (below_grow k os),Fr.refl K _,_,rfl,.sc rfl⟩
  · refine SoundC.sound ?_ callable_format
    intro n0 wi K w args' hW hn hargs
    cases hargs with
    | cons h2 h3 =>
      cases h3 with
      | cons h3 h4 =>
        cases h4
        have h2:=VRel.sc_eq h2
        have h3:=VRel.sc_eq h3
        subst h2; subst h3
        refine (Tryz.strconv_FormatInt_10 n h0 h1 w (tab_is hW hn hg)).mono fun e w' ⟨he,k,os,hw⟩=>?_
        subst he; subst hw
        exact ⟨K,hW.keep (hW.size hn) (below_grow k os),Fr.refl K _,_,rfl,.sc rfl⟩
  · refine SoundC.sound ?_ callable_parse
    intro n0 wi K w args' hW hn hargs
    cases hargs with
    | cons h2 h3 =>
     cases h3 with
     | cons h3 h4 =>
      cases h4 with
      | cons h4 h5 =>
       cases h5
       have h2:=VRel.sc_eq h2
       have h3:=VRel.sc_eq h3
       have h4:=VRel.sc_eq h4
       subst h2; subst h3; subst h4
       have hv : ∀ z,Lib.atoiAll s.data.toList = z→atoiV s = (match z with | .ok v=>v | .range=>Lib.atoiSat s.data.toList | _=>0)∧atoiE s = (match z with | .ok _=>.sc .nilIface | _=>.err):=fun z e=>by
        unfold atoiV atoiE
        rw [e]
        cases z<;>exact ⟨rfl,rfl⟩
       cases hz : Lib.atoiAll s.data.toList with
       | ok v =>
        obtain ⟨e1,e2⟩:=hv _ hz
        rw [e1,e2]
        refine (Tryz.strconv_ParseInt_10_at64_ok s (by omega) v (by rw [Lib.parseIntB_64]; exact hz) w).mono fun e w' ⟨he,hw⟩=>?_
        subst he
        have hb : Below w.heap.size w w':=by
          rcases hw with rfl | ⟨t,rfl⟩
          · exact Below.refl _ _
          · exact Lib.bytesWorld_below _ _ _
        exact ⟨K,hW.keep (hW.size hn) hb,Fr.refl K _,_,rfl,.tup (.cons (.sc rfl) (.cons (.sc rfl) .nil))⟩
       | range =>
        obtain ⟨e1,e2⟩:=hv _ hz
        rw [e1,e2]
        obtain ⟨te,pe,hc⟩:=err_is hW (j:=5) rfl (hg 5 _ rfl)
        refine (Tryz.strconv_ParseInt_10_at64_range s hs (by rw [Lib.parseIntB_64]; exact hz) _ w hc (.inr ⟨te,pe,rfl⟩)).mono fun e w' ⟨N,he,_,_,hb⟩=>?_
        subst he
        rw [Lib.intSat_64]
        exact ⟨K,hW.keep (hW.size hn) hb,Fr.refl K _,_,rfl,.tup (.cons (.sc rfl) (.cons .err .nil))⟩
       | _ =>
        obtain ⟨e1,e2⟩:=hv _ hz
        rw [e1,e2]
        obtain ⟨te,pe,hc⟩:=err_is hW (j:=4) rfl (hg 4 _ rfl)
        refine (Any.strconv_ParseInt_10_at64_syntax Tryz.laysC174 s hs (by rw [Lib.parseIntB_64]; exact hz) _ w hc (.inr ⟨te,pe,rfl⟩)).mono fun e w' ⟨N,he,_,_,hb⟩=>?_
        subst he
        exact ⟨K,hW.keep (hW.size hn) hb,Fr.refl K _,_,rfl,.tup (.cons (.sc rfl) (.cons .err .nil))⟩
theorem hsrt_evo {f : FuncId} {args : List AV} {st st' : St} {r : CRes} (h : HSrt f args st r st') : Evo st st':=by
  obtain ⟨_,rfl,_⟩:=h
  exact Evo.refl _
end Seat
end Go.VX
end
section
namespace Go.VX.Seat
open Go.Proofs
def HLib : FuncId→List AV→St→CRes→St→Prop:=fun _ _ _ _ _=>False
theorem hlib_sound {f : FuncId} {args : List AV} {st st' : St} {r : CRes} (h : HLib f args st r st') : SoundCall Tryz.prog [1,0,2,3,8,9] f args st r st':=h.elim
theorem hlib_evo {f : FuncId} {args : List AV} {st st' : St} {r : CRes} (h : HLib f args st r st') : Evo st st':=h.elim
noncomputable def evLib (call : EvF) : EvF:=call
theorem evLib_ok {H : FuncId→List AV→St→CRes→St→Prop} (hH : ∀ f args st r st',HLib f args st r st'→H f args st r st') {call : EvF} (hc : CallOk Go.Proofs.Tryz.prog fnOf H call) : CallOk Go.Proofs.Tryz.prog fnOf H (evLib call):=hc
end Go.VX.Seat
end
section
set_option maxRecDepth 100000
namespace Go.VX.Seat
open Go.Proofs
def HTold : FuncId→List AV→St→CRes→St→Prop:=fun f args st r st'=>HFind f args st r st'∨HBld f args st r st'∨HNat f args st r st'∨HLib f args st r st'
theorem htold_find {f : FuncId} {args : List AV} {st : St} {r : CRes} {st' : St} (h : HFind f args st r st') : HTold f args st r st':=.inl h
theorem htold_sound {f : FuncId} {args : List AV} {st st' : St} {r : CRes} (h : HTold f args st r st') : SoundCall Go.Proofs.Tryz.prog [1,0,2,3,8,9] f args st r st':=by
  rcases h with h | h | h | h
  · exact hfind_sound h
  · exact hbld_sound h
  · exact hnat_sound h
  · exact hlib_sound h
theorem htold_evo {f : FuncId} {args : List AV} {st st' : St} {r : CRes} (h : HTold f args st r st') : Evo st st':=by
  rcases h with h | h | h | h
  · exact hfind_evo h
  · exact hbld_evo h
  · exact hnat_evo h
  · exact hlib_evo h
def bldOfBox : Option Box→Option (List UInt8 × Nat)
  | some ⟨[.sc (.int .i64 a),.sc (.int .i64 b),.sc (.int .i64 c),.sc (.string s)],m,ver⟩=>if a = 1∧b = 81∧c = 5∧m = 3∧s.data.toList.length≤1000000000 then some (s.data.toList,ver) else none
  | _=>none
theorem bldOfBox_ok {x : Option Box} {l : List UInt8} {ver : Nat} (h : bldOfBox x = some (l,ver)) : x = some ⟨bldCells l,3,ver⟩∧l.length≤1000000000:=by
  unfold bldOfBox at h
  split at h
  · rename_i a b c s m v
    split at h
    · rename_i hc
      obtain ⟨rfl,rfl,rfl,rfl,hl⟩:=hc
      simp only [Option.some.injEq,Prod.mk.injEq] at h
      obtain ⟨rfl,rfl⟩:=h
      refine ⟨?_,hl⟩
      cases s
      simp [bldCells]
    · cases h
  · cases h
noncomputable def evBld (call : EvF) : EvF:=fun f args st =>
  match Nat.beq f 39 with
  | true=>match args with
    | [.ptr b o,.sc (.string s)]=>match Nat.beq o 0,bldOfBox st[b]?,decide (s.size≤1000000000) with
      | true,some (l,ver),true=>some (.ret (.tup [iA s.size,.sc .nilIface]),st.set b ⟨bldCells (l++s.data.toList),3,ver + 1⟩)
      | _,_,_=>none
    | _=>none
  | false=>match Nat.beq f 43 with
    | true=>match args with
      | [.ptr b o]=>match Nat.beq o 0,bldOfBox st[b]? with
        | true,some (l,ver)=>some (.ret (.sc (.string ⟨l.toArray⟩)),st)
        | _,_=>none
      | _=>none
    | false=>call f args st
theorem evBld_ok {call : EvF} (hc : CallOk Go.Proofs.Tryz.prog fnOf HTold call) : CallOk Go.Proofs.Tryz.prog fnOf HTold (evBld call):=by
  intro f args st r st' h
  unfold evBld at h
  split at h
  · rename_i hf
    have hf:=Nat.eq_of_beq_eq_true hf
    subst hf
    split at h
    · rename_i b o s
      split at h
      · rename_i l ver ho hb hs
        simp only [Option.some.injEq,Prod.mk.injEq] at h
        obtain ⟨rfl,rfl⟩:=h
        have ho:=Nat.eq_of_beq_eq_true ho
        subst ho
        obtain ⟨h1,h2⟩:=bldOfBox_ok hb
        exact .hook (.inr (.inl ⟨b,l,ver,h1,h2,.inl ⟨rfl,s,rfl,of_decide_eq_true hs,rfl,rfl⟩⟩))
      · cases h
    · cases h
  · split at h
    · rename_i hf
      have hf:=Nat.eq_of_beq_eq_true hf
      subst hf
      split at h
      · rename_i b o
        split at h
        · rename_i l ver ho hb
          simp only [Option.some.injEq,Prod.mk.injEq] at h
          obtain ⟨rfl,rfl⟩:=h
          have ho:=Nat.eq_of_beq_eq_true ho
          subst ho
          obtain ⟨h1,h2⟩:=bldOfBox_ok hb
          exact .hook (.inr (.inl ⟨b,l,ver,h1,h2,.inr ⟨rfl,rfl,rfl,rfl⟩⟩))
        · cases h
      · cases h
    · exact hc _ _ _ _ _ h
noncomputable def evNat (call : EvF) : EvF:=fun f args st =>
  match natF f with
  | some e=>match cellsV args with
    | some vs=>match closed Go.Proofs.Tryz.prog (e vs.toArray) with
      | some v=>match cellVal v with
        | true=>some (.ret (.sc v),st)
        | false=>none
      | none=>none
    | none=>none
  | none=>call f args st
theorem evNat_ok {call : EvF} (hc : CallOk Go.Proofs.Tryz.prog fnOf HTold call) : CallOk Go.Proofs.Tryz.prog fnOf HTold (evNat call):=by
  intro f args st r st' h
  unfold evNat at h
  split at h
  · rename_i e he
    split at h
    · rename_i vs hvs
      split at h
      · rename_i v hv
        split at h
        · rename_i hcv
          simp only [Option.some.injEq,Prod.mk.injEq] at h
          obtain ⟨rfl,rfl⟩:=h
          exact .hook (.inr (.inr (.inl ⟨e,vs,v,he,hvs,hv,hcv,rfl,rfl⟩)))
        · cases h
      · cases h
    · cases h
  · exact hc _ _ _ _ _ h
noncomputable def runClosed (n : Nat) (f : FuncId) (st : St) : Option (CRes × St):=evF fnOf (evC Go.Proofs.Tryz.prog fnOf (fun call=>evLib (evNat (evBld (evFind n call)))) n) f [] st
theorem runClosed_ok {n : Nat} {f : FuncId} {st st' : St} {r : CRes} (h : runClosed n f st = some (r,st')) : J Go.Proofs.Tryz.prog fnOf HTold (.call f [] st r st') :=
  evF_ok (fun _ _ _ _ _ h=>htold_evo h) (evC_ok (fun _ _ _ _ _ h=>htold_evo h) (fun _ h=>evLib_ok (fun _ _ _ _ _ h=>.inr (.inr (.inr h))) (evNat_ok (evBld_ok (evFind_ok (fun _ _ _ _ _ h=>.inl h) n h)))) n) _ _ _ _ _ h
end Go.VX.Seat
end
section
set_option maxRecDepth 1000000
namespace Go.VX.Seat
def okTrue : Option (CRes × St)→Bool
  | some (.ret (.sc (.bool true)),_)=>true
  | _=>false
theorem alive_run : okTrue (runClosed 1000 12 glS) = true:=by kernel_rfl
theorem okTrue_inv : ∀ {r : Option (CRes × St)},okTrue r = true→∃ st',r = some (.ret (bA true),st')
  | some (.ret (.sc (.bool true)),st'),_=>⟨st',rfl⟩
theorem alive_J : ∃ st',J Go.Proofs.Tryz.prog fnOf HTold (.call 12 [] glS (.ret (bA true)) st') :=
  let ⟨st',he⟩:=okTrue_inv alive_run
  ⟨st',runClosed_ok he⟩
end Go.VX.Seat
end
section
set_option maxRecDepth 1000000
namespace Go.VX
open Go.RowKit (Below)
namespace Seat
open Go.Proofs
def GB (st : St) : Prop:=∀ (j : Nat) (x : Box),glS[j]? = some x→st[j]? = some x
theorem GB.app {st : St} (h : GB st) (L : St) : GB (st++L):=fun j x hx=>by
  have:=h j x hx
  rw [List.getElem?_append_left (List.getElem?_eq_some_iff.1 this).1]; exact this
theorem GB.glob {st : St} (h : GB st) : GlobAt st:=BoxAt.of (m:=1) (v:=0) (h 0 formBox rfl) (by decide)
theorem glS_flat : (glS.all fun x=>Nat.beq x.mode 1 && x.cells.all AV.flat) = true:=by decide +kernel
theorem glS_len : ([1,0,2,3,8,9] : List Nat).length = glS.length:=rfl
theorem glS_in {j : Nat} {x : Box} (h : glS[j]? = some x) : x.mode = 1∧∀ a ∈ x.cells,a.flat = true:=by
  have:=List.all_eq_true.1 glS_flat x (List.mem_of_getElem? h)
  simp only [Bool.and_eq_true] at this
  exact ⟨Nat.eq_of_beq_eq_true this.1,fun a ha=>List.all_eq_true.1 this.2 a ha⟩
theorem callable_alive : Callable Go.Proofs.Tryz.prog 12:=⟨Go.Proofs.Tryz.f12,by kernel_rfl,by kernel_rfl,by kernel_rfl⟩
theorem alive_sound {st : St} (hg : GB st) : SoundCall Go.Proofs.Tryz.prog [1,0,2,3,8,9] 12 [] st (.ret (bA true)) st:=by
  obtain ⟨st',j⟩:=alive_J
  have S:=(sound (P:=Go.Proofs.Tryz.prog) (gl:=[1,0,2,3,8,9]) mixed (fun f fn h=>fn_ok f fn h) (fun _ _ _ _ _ h=>htold_sound h) (fun _ _ _ _ _ h=>htold_evo h) j).c callable_alive
  refine SoundC.sound ?_ callable_alive
  intro n0 wi K w args' hW hn hargs
  cases hargs
  have hlt : ∀ {b : Nat} {x : Box},glS[b]? = some x→b < glS.length:=fun h=>(List.getElem?_eq_some_iff.1 h).1
  have hkk : ∀ {b : Nat} {kb : KB},(if b < glS.length then K b else none) = some kb→b < glS.length∧K b = some kb:=fun {b kb} h=>by
    split at h
    · exact ⟨by assumption,h⟩
    · cases h
  have hW0 : WRel w.heap.size w [1,0,2,3,8,9] (fun b=>if b < glS.length then K b else none) glS w:={
    below:=⟨rfl,rfl,rfl,Nat.le_refl _,fun _ _=>rfl⟩
    dom:=fun b kb h=>(hkk h).1
    lt:=fun b x kb h1 h2 h3=>hW.lt b x kb (hg b x h1) h2 (hkk h3).2
    cell:=fun b x kb h1 h2 h3 o a h4=>by
      obtain ⟨v,hv,hr⟩:=hW.cell b x kb (hg b x h1) h2 (hkk h3).2 o a h4
      exact ⟨v,hv,hr.flat ((glS_in h1).2 a (List.mem_of_getElem? h4))⟩
    live:=fun b x kb h1 h2 h3=>by rw [(glS_in h1).1] at h2; cases h2
    excl:=fun b x kb b' x' kb' h1 h2 h3 h4 h5 h6 h7=>by rw [(glS_in h1).1] at h2; cases h2
    fit:=fun b x kb h1 h2 h3=>hW.fit b x kb (hg b x h1) h2 (hkk h3).2
    glob:=fun j g h=>by
      obtain ⟨kb,h1,h2,h3,h4⟩:=hW.glob j g h
      have hj : j < glS.length:=by rw [←glS_len]; exact (List.getElem?_eq_some_iff.1 h).1
      exact ⟨kb,by simp only [if_pos hj]; exact h1,h2,h3,h4.step hW.below hn⟩
    fo:=Fo.none fun b x h=>by rw [(glS_in h).1]; decide }
  refine (S w.heap.size w _ w [] hW0 (Nat.le_refl _) .nil).mono fun e w' hp=>?_
  obtain ⟨K',hW',_,v',rfl,hv⟩:=hp
  exact ⟨K,hW.keep (hW.size hn) hW'.below,Fr.refl K st,v',rfl,hv.flat rfl⟩
def HAll : FuncId→List AV→St→CRes→St→Prop:=fun f args st r st'=>HTold f args st r st'∨(f = 12∧args = []∧r = .ret (bA true)∧st' = st∧GB st)∨HSrt f args st r st'
theorem hall_sound {f : FuncId} {args : List AV} {st st' : St} {r : CRes} (h : HAll f args st r st') : SoundCall Go.Proofs.Tryz.prog [1,0,2,3,8,9] f args st r st':=by
  rcases h with h | ⟨rfl,rfl,rfl,rfl,hg⟩ | h
  · exact htold_sound h
  · exact alive_sound hg
  · exact hsrt_sound h
theorem hall_evo {f : FuncId} {args : List AV} {st st' : St} {r : CRes} (h : HAll f args st r st') : Evo st st':=by
  rcases h with h | ⟨rfl,rfl,rfl,rfl,hg⟩ | h
  · exact htold_evo h
  · exact Evo.refl _
  · exact hsrt_evo h
noncomputable def XS : Cx:=⟨Go.Proofs.Tryz.prog,fnOf,HAll⟩
theorem onXS : On XS:=⟨rfl,rfl⟩
theorem seat_sound {f : FuncId} {args : List AV} {st st' : St} {r : CRes} (h : J XS.P XS.F XS.H (.call f args st r st')) : SoundCall Go.Proofs.Tryz.prog [1,0,2,3,8,9] f args st r st' :=
  sound (P:=Go.Proofs.Tryz.prog) (gl:=[1,0,2,3,8,9]) mixed (fun f fn h=>fn_ok f fn h) (fun _ _ _ _ _ h=>hall_sound h) (fun _ _ _ _ _ h=>hall_evo h) h
structure OnH (X : Cx) : Prop extends On X where
  told : ∀ f args st r st',HTold f args st r st'→X.H f args st r st'
  alive : ∀ st : St,GB st→X.H 12 [] st (.ret (bA true)) st
  srt : ∀ f args st r st',HSrt f args st r st'→X.H f args st r st'
theorem onH : OnH XS:={ onXS with told:=fun _ _ _ _ _ h=>.inl h,alive:=fun st h=>.inr (.inl ⟨rfl,rfl,rfl,rfl,h⟩),srt:=fun _ _ _ _ _ h=>.inr (.inr h) }
end Seat
end Go.VX
end
open Go.VX.AV renaming cell? → xc, toV → xd
open Int renaming reduceAdd → xe, reduceLE → xf, reduceLT → xg, reduceNeg → xh, reduceToNat → xi
open Nat renaming reduceAdd → xj, reduceEqDiff → xk, reduceLeDiff → xl, reduceMul → xm, reduceSub → xn
open Go.VX.VOpd renaming ev → xp
open Go.VX renaming asInt? → xq, asNat? → xr, cellVal → xu, cellsV → xv, fillA → xw, partsEv → xy, resOf → xz, splice → ya, tupOf → yb, zeroes → yc
section
set_option maxRecDepth 4000
namespace Go.VX.Seat
open Go.Proofs
abbrev rowsI (l : List Int) : List (List AV):=l.map fun n=>[iA n]
def operL (o : OpV) : List Int:=(if hasA o.k then [o.a] else [])++(if hasB o.k then [o.b] else [])++(if hasC o.k then [o.c] else [])
theorem operL_len (o : OpV) : (operL o).length≤3:=by
  unfold operL
  cases hasA o.k<;>cases hasB o.k<;>cases hasC o.k<;>simp
section
variable {X : Cx} {st : St}
theorem own_frame {s : St} {lo esz : Nat} {w : AV} {rows : List (List AV)} (h : OwnS s lo w esz rows) (L : St) : OwnS (s++L) lo w esz rows:=h.agree (Agree.app (fun _=>False) s L) fun _ _ h=>h
theorem opR_app1 {K : Env→St→Post3→Prop} {Q : Post3} {d : Option Nat} {k : List VOpd} {env : Env} (M : St) {L : St} {w : AV} {xs : List Int} {n : Int} {N : Nat} {x y : VOpd} (ex : x.ev env = w) (ey : y.ev env = .sl N 0 1 1 true) (hN : N = st.length + (M.length + L.length))
    (own : OwnS (st++(M++L)) (st.length + M.length) w 1 (rowsI xs)) (hl : xs.length≤1000000)
    (h : ∀ (w' : AV) (L' : St),OwnS (st++(M++L')) (st.length + M.length) w' 1 (rowsI (xs++[n]))→keptA env (st++(M++(L++[⟨[iA n],0,0⟩]))) (st++(M++L')) k = true∧K (env.put d w') (st++(M++L')) Q) :
    opR X K d k env (st++(M++(L++[⟨[iA n],0,0⟩]))) Q (vop X.P (.append 1 8 x y) env (st++(M++(L++[⟨[iA n],0,0⟩])))):=by
  subst hN
  have own' : OwnS (st++(M++(L++[⟨[iA n],0,0⟩]))) (st.length + M.length) w 1 (rowsI xs):=by simpa using own_frame own [⟨[iA n],0,0⟩]
  refine opR_append (vx:=w) (lo:=st.length + M.length) (lo':=st.length + (M.length + L.length)) (hi':=st.length + (M.length + L.length) + 1) (rows:=rowsI xs) (rows2:=[[iA n]]) ex ey own' (by simp) (ArrAt.ofBox (mode:=0) (ver:=0) ?_ (by decide) (by simp) rfl) (by simp; omega) (by rfl) ?_
  · have e : st++(M++(L++[⟨[iA n],0,0⟩])) = (st++(M++L))++[⟨[iA n],0,0⟩]:=by simp
    rw [e,List.getElem?_append_right (by simp)]
    simp
  intro w' s' hag hown _
  obtain ⟨L',rfl⟩:=Agree.shape (st:=st) (M:=M) (N:=L++[⟨[iA n],0,0⟩]) (hag.mono (Y:=fun b=>boxOf w = some b) fun _ _ h=>h.2) (fun b hb=>by have:=(own.bnd b hb).1; omega)
  exact h w' L' (by simpa using hown)
theorem w_r07_Operands (h : On X) (o : OpV) :
    wpF X 58 [.agg o.row] st fun r s=>∃ w m,r = .ret w∧s = st++m∧OwnS s st.length w 1 (rowsI (operL o)):=by
  refine wpF_go (fn:=v_r07_Operands) (by rw [h.F]; rfl) ?_
  simp only [v_r07_Operands,OpV.row,kB,kZ,kD,kE,xn,xi,xm,xe,xf,xg,xh,xl,xk,xj,reduceIte,reduceCtorEq,ya,xz,xu]
  refine callO_same (j_r07_HasA h _) ?_
  simp only [kB,kZ,kD,kE,xn,xi,xm,xe,xf,xg,xh,xl,xk,xj,reduceIte,reduceCtorEq,ya,xz,xu]
  refine anyCond m0 (fun e s=>∃ (L : St) (w : AV),s = st++(⟨[iA o.k,iA o.d,iA o.a,iA o.b,iA o.c,iA o.n,iA o.g],0,0⟩ :: L)∧e 1 = .ptr (st.length + 0) 0∧e 3 = w∧OwnS s (st.length + 1) w 1 (rowsI (if hasA o.k then [o.a] else []))) ?_ ?_
  · refine condO_intro ?_ ?_<;>intro hc
    · simp only [kB,kZ,kD,kE,xn,xi,xm,xe,xf,xg,xh,xl,xk,xj,reduceIte,reduceCtorEq,ya,xz,xu]
      refine opR_app1 [⟨[iA o.k,iA o.d,iA o.a,iA o.b,iA o.c,iA o.n,iA o.g],0,0⟩] (L:=([] : St)) (w:=(.sc (.slice none 0 0))) (xs:=[]) (by simp only [kB,kZ,kD,kE,xn,xi,xm,xe,xf,xg,xh,xl,xk,xj,reduceIte,reduceCtorEq,ya,xz,xu]) (by simp only [kB,kZ,kD,kE,xn,xi,xm,xe,xf,xg,xh,xl,xk,xj,reduceIte,reduceCtorEq,ya,xz,xu]; rfl) (by simp) (own_nil _ _ _) (by simp) ?_
      intro w' L' hown'
      simp only [kB,kZ,kD,kE,xn,xi,xm,xe,xf,xg,xh,xl,xk,xj,reduceIte,reduceCtorEq,ya,xz,xu]
      refine ⟨L',w',rfl,rfl,?_⟩
      simpa [hc] using hown'
    · simp only [hc,kB,kZ,kD,kE,xn,xi,xm,xe,xf,xg,xh,xl,xk,xj,reduceIte,reduceCtorEq,ya,xz,xu]
      exact ⟨[],_,rfl,rfl,own_nil _ _ _⟩
  rintro e s ⟨L,w,rfl,k1,k3,hown⟩
  have hlen : (if hasA o.k then [o.a] else []).length≤1000000:=by cases hasA o.k<;>simp
  simp only [k1,k3,kB,kZ,kD,kE,xn,xi,xm,xe,xf,xg,xh,xl,xk,xj,reduceIte,reduceCtorEq,ya,xz,xu]
  refine callO_same (j_r07_HasB h _) ?_
  simp only [k1,k3,kB,kZ,kD,kE,xn,xi,xm,xe,xf,xg,xh,xl,xk,xj,reduceIte,reduceCtorEq,ya,xz,xu]
  refine anyCond m0 (fun e s=>∃ (L : St) (w : AV),s = st++(⟨[iA o.k,iA o.d,iA o.a,iA o.b,iA o.c,iA o.n,iA o.g],0,0⟩ :: L)∧e 1 = .ptr (st.length + 0) 0∧e 3 = w∧OwnS s (st.length + 1) w 1 (rowsI ((if hasA o.k then [o.a] else [])++(if hasB o.k then [o.b] else [])))) ?_ ?_
  · refine condO_intro ?_ ?_<;>intro hc
    · simp only [k1,k3,List.append_nil,kB,kZ,kD,kE,xn,xi,xm,xe,xf,xg,xh,xl,xk,xj,reduceIte,reduceCtorEq,ya,xz,xu]
      refine opR_app1 [⟨[iA o.k,iA o.d,iA o.a,iA o.b,iA o.c,iA o.n,iA o.g],0,0⟩] (L:=L) (w:=w) (xs:=(if hasA o.k then [o.a] else [])) (by simp only [k3,kB,kZ,kD,kE,xn,xi,xm,xe,xf,xg,xh,xl,xk,xj,reduceIte,reduceCtorEq,ya,xz,xu]) (by simp only [kB,kZ,kD,kE,xn,xi,xm,xe,xf,xg,xh,xl,xk,xj,reduceIte,reduceCtorEq,ya,xz,xu]; rfl) (by simp; omega) (hown) (hlen) ?_
      intro w' L' hown'
      simp only [k1,kB,kZ,kD,kE,xn,xi,xm,xe,xf,xg,xh,xl,xk,xj,reduceIte,reduceCtorEq,ya,xz,xu]
      refine ⟨L',w',rfl,rfl,?_⟩
      simpa [hc] using hown'
    · simp only [k1,k3,List.append_nil,hc,kB,kZ,kD,kE,xn,xi,xm,xe,xf,xg,xh,xl,xk,xj,reduceIte,reduceCtorEq,ya,xz,xu]
      exact ⟨L,w,rfl,rfl,by simpa [hc] using hown⟩
  rintro e s ⟨L,w,rfl,k1,k3,hown⟩
  have hlen : ((if hasA o.k then [o.a] else [])++(if hasB o.k then [o.b] else [])).length≤1000000:=by cases hasA o.k<;>cases hasB o.k<;>simp
  simp only [k1,k3,kB,kZ,kD,kE,xn,xi,xm,xe,xf,xg,xh,xl,xk,xj,reduceIte,reduceCtorEq,ya,xz,xu]
  refine callO_same (j_r07_HasC h _) ?_
  simp only [k1,k3,kB,kZ,kD,kE,xn,xi,xm,xe,xf,xg,xh,xl,xk,xj,reduceIte,reduceCtorEq,ya,xz,xu]
  refine anyCond m0 (fun e s=>∃ (L : St) (w : AV),s = st++(⟨[iA o.k,iA o.d,iA o.a,iA o.b,iA o.c,iA o.n,iA o.g],0,0⟩ :: L)∧e 1 = .ptr (st.length + 0) 0∧e 3 = w∧OwnS s (st.length + 1) w 1 (rowsI ((if hasA o.k then [o.a] else [])++(if hasB o.k then [o.b] else [])++(if hasC o.k then [o.c] else [])))) ?_ ?_
  · refine condO_intro ?_ ?_<;>intro hc
    · simp only [k1,k3,List.append_nil,kB,kZ,kD,kE,xn,xi,xm,xe,xf,xg,xh,xl,xk,xj,reduceIte,reduceCtorEq,ya,xz,xu]
      refine opR_app1 [⟨[iA o.k,iA o.d,iA o.a,iA o.b,iA o.c,iA o.n,iA o.g],0,0⟩] (L:=L) (w:=w) (xs:=((if hasA o.k then [o.a] else [])++(if hasB o.k then [o.b] else []))) (by simp only [k3,kB,kZ,kD,kE,xn,xi,xm,xe,xf,xg,xh,xl,xk,xj,reduceIte,reduceCtorEq,ya,xz,xu]) (by simp only [kB,kZ,kD,kE,xn,xi,xm,xe,xf,xg,xh,xl,xk,xj,reduceIte,reduceCtorEq,ya,xz,xu]; rfl) (by simp; omega) (hown) (hlen) ?_
      intro w' L' hown'
      simp only [k1,kB,kZ,kD,kE,xn,xi,xm,xe,xf,xg,xh,xl,xk,xj,reduceIte,reduceCtorEq,ya,xz,xu]
      refine ⟨L',w',rfl,rfl,?_⟩
      simpa [hc] using hown'
    · simp only [k1,k3,List.append_nil,hc,kB,kZ,kD,kE,xn,xi,xm,xe,xf,xg,xh,xl,xk,xj,reduceIte,reduceCtorEq,ya,xz,xu]
      exact ⟨L,w,rfl,rfl,by simpa [hc] using hown⟩
  rintro e s ⟨L,w,rfl,k1,k3,hown⟩
  simp only [k1,k3,kB,kZ,kD,kE,xn,xi,xm,xe,xf,xg,xh,xl,xk,xj,reduceIte,reduceCtorEq,ya,xz,xu]
  exact ⟨_,_,rfl,rfl,hown.low (by omega)⟩
end
end Go.VX.Seat
end
section
set_option maxRecDepth 4000
namespace Go.VX.Seat
open Go.Proofs
theorem oneK_bnd {k : Int} (h : oneK k = true) : 1≤k∧k≤25:=by
  unfold oneK at h
  simpa using h
theorem callO_own {X : Cx} {env : Env} {st : St} {Q : Post3} {K : Env→St→Post3→Prop} {f : FuncId} {args : List AV} {dst : Option Nat} {keep : List VOpd} {esz : Nat} {rows : List (List AV)} (hw : wpF X f args st fun r s=>∃ w m,r = .ret w∧s = st++m∧OwnS s st.length w esz rows)
    (h : ∀ w m,OwnS (st++m) st.length w esz rows→K (env.put dst w) (st++m) Q) : callO X f args dst keep K env st Q:=by
  refine wpF.mono hw ?_
  rintro r s ⟨w,m,rfl,rfl,h1⟩
  exact ⟨kept_app _ _ _ _,h w m h1⟩
section
variable {X : Cx} {st : St}
theorem w_r07_Names (h : On X) : wpF X 31 [] st fun r s=>r = .ret (.sl st.length 0 25 1 true)∧s = st++[⟨nameL.map fun b=>.sc (.string b),0,0⟩]:=by
  refine wpF_go (fn:=v_r07_Names) (by rw [h.F]; rfl) ?_
  simp only [v_r07_Names,nameL,kB,kZ,kD,kE,Nat.reduceSub,Int.reduceToNat,Nat.reduceMul,Int.reduceAdd,Int.reduceLE,Int.reduceLT,Int.reduceNeg,Nat.reduceLeDiff,Nat.reduceEqDiff,Nat.reduceAdd,reduceIte,reduceCtorEq,splice,resOf,cellVal]
  trivial
end
end Go.VX.Seat
end
section
set_option maxRecDepth 4000
namespace Go.VX
theorem closed_then {P : Program} {α β : Type} {a : α} (k : α→Sem β) : ∀ {s : Sem α},closed P s = some a→closed P (s >>= k) = closed P (k a)
  | .pure b,h=>by
    have : b = a:=Option.some.inj h
    subst this
    rfl
  | .program f,h=>closed_then (P:=P) k (s:=f P) h
theorem closed_under {P : Program} {t : TypeId} {d : TypeDesc} (h : P.underlying t = some d) : closed P (underlying t) = some d:=by
  show closed P (match P.underlying t with | some d=>pure d | none=>_) = _
  rw [h]
  rfl
theorem c_slen {P : Program} {t u : TypeId} (ht : P.underlying t = some .string) (s : ByteArray) : closed P (builtin .len [t].toArray u #[] [Value.string s].toArray) = some (.value (.int .i64 s.size)):=by
  show closed P ((Builtin.len_ #[t] u #[Value.string s]) >>= fun v=>(pure (Next.value v) : Sem Next)) = _
  have h1 : closed P (Builtin.len_ #[t] u #[Value.string s]) = some (.int .i64 s.size):=by
    unfold Builtin.len_
    refine (closed_then _ (closed_under ht)).trans ?_
    rfl
  exact closed_then _ h1
theorem c_sidx {P : Program} {t : TypeId} (ht : P.underlying t = some .string) (s : ByteArray) (k : IntKind) (i : Nat) (hi : i < s.size) : closed P (Instr.index t (.string s) (.int k i)) = some (.int .u8 (s[i]).toNat):=by
  unfold Instr.index
  refine (closed_then (a:=(k,(i : Int))) _ rfl).trans ?_
  refine (closed_then _ (closed_under ht)).trans ?_
  have : (if (0 : Int)≤(i : Int) then s[(i : Int).toNat]? else none) = some s[i]:=by
    rw [if_pos (by omega)]
    simp [hi]
  show closed P (match (if (0 : Int)≤(i : Int) then s[(i : Int).toNat]? else none) with | some b=>pure (Value.int .u8 b.toNat) | none=>_) = _
  rw [this]
  rfl
theorem c_ssl0 {P : Program} {t : TypeId} (ht : P.underlying t = some .string) (s : ByteArray) (hi : Nat) (h2 : hi≤s.size) : closed P (Instr.sliceAt t (.string s) none (some (.int .i64 hi)) none) = some (.string (s.extract 0 hi)):=by
  unfold Instr.sliceAt
  refine (closed_then _ (closed_under ht)).trans ?_
  show closed P (Instr.slice t (.string s) none (some (.int .i64 hi)) none) = _
  unfold Instr.slice
  refine (closed_then _ (closed_under ht)).trans ?_
  have hb : closed P (Instr.sliceBounds false s.size s.size none (some (.int .i64 hi)) none) = some (0,hi,s.size):=by
    unfold Instr.sliceBounds
    have hs : ∀ (x y : Nat) c,x≤y→closed P (Instr.sliceBound (.int .i64 x) y c) = some x:=fun x y c hx=>by
      unfold Instr.sliceBound
      refine (closed_then (a:=(IntKind.i64,(x : Int))) _ rfl).trans ?_
      show closed P (if 0≤(x : Int)∧(x : Int)≤y then pure (x : Int).toNat else _) = _
      rw [if_pos (by omega)]
      rfl
    refine (closed_then (a:=s.size) _ rfl).trans ?_
    refine (closed_then (a:=hi) _ (hs hi s.size _ h2)).trans ?_
    rfl
  exact closed_then _ hb
theorem c_ssl1 {P : Program} {t : TypeId} (ht : P.underlying t = some .string) (s : ByteArray) (lo : Nat) (h1 : lo≤s.size) : closed P (Instr.sliceAt t (.string s) (some (.int .i64 lo)) none none) = some (.string (s.extract lo s.size)):=by
  unfold Instr.sliceAt
  refine (closed_then _ (closed_under ht)).trans ?_
  show closed P (Instr.slice t (.string s) (some (.int .i64 lo)) none none) = _
  unfold Instr.slice
  refine (closed_then _ (closed_under ht)).trans ?_
  have hb : closed P (Instr.sliceBounds false s.size s.size (some (.int .i64 lo)) none none) = some (lo,s.size,s.size):=by
    unfold Instr.sliceBounds
    have hs : ∀ (x y : Nat) c,x≤y→closed P (Instr.sliceBound (.int .i64 x) y c) = some x:=fun x y c hx=>by
      unfold Instr.sliceBound
      refine (closed_then (a:=(IntKind.i64,(x : Int))) _ rfl).trans ?_
      show closed P (if 0≤(x : Int)∧(x : Int)≤y then pure (x : Int).toNat else _) = _
      rw [if_pos (by omega)]
      rfl
    refine (closed_then (a:=s.size) _ rfl).trans ?_
    refine (closed_then (a:=s.size) _ rfl).trans ?_
    refine (closed_then (a:=lo) _ (hs lo s.size _ h1)).trans ?_
    rfl
  exact closed_then _ hb
theorem c_sadd {P : Program} {t : TypeId} {ox oy : Operand} (a b : ByteArray) (h : a.size + b.size≤9223372036854775807) : closed P (do eqGuard .add t ox oy (.string a) (.string b); binOp .add t (.string a) (.string b)) = some (.string (a++b)):=by
  show closed P (if ((a.size + b.size : Nat) : Int) > IntKind.i64.max then _ else pure (Value.string (a++b))) = _
  have e : IntKind.i64.max = 9223372036854775807:=rfl
  rw [e,if_neg (by omega)]
  rfl
theorem c_seq {P : Program} {t : TypeId} {ox oy : Operand} (a b : ByteArray) : closed P (do eqGuard .eql t ox oy (.string a) (.string b); binOp .eql t (.string a) (.string b)) = some (.bool (decide (a = b))):=by
  show some (Value.bool (a.toList == b.toList)) = _
  by_cases h : a = b
  · subst h
    simp
  · rw [decide_eq_false h]
    have : a.toList≠b.toList:=fun e=>h (by
      rw [ByteArray.toList_eq,ByteArray.toList_eq] at e
      cases a; cases b
      simpa using e)
    simp [this]
theorem c_sne {P : Program} {t : TypeId} {ox oy : Operand} (a b : ByteArray) : closed P (do eqGuard .neq t ox oy (.string a) (.string b); binOp .neq t (.string a) (.string b)) = some (.bool (decide (a≠b))):=by
  show some (Value.bool (!(a.toList == b.toList))) = _
  by_cases h : a = b
  · subst h
    simp
  · rw [decide_eq_true h]
    have : a.toList≠b.toList:=fun e=>h (by
      rw [ByteArray.toList_eq,ByteArray.toList_eq] at e
      cases a; cases b
      simpa using e)
    simp [this]
namespace Seat
open Go.Proofs
abbrev sB (l : List UInt8) : ByteArray:=⟨l.toArray⟩
abbrev sA (l : List UInt8) : AV:=.sc (.string ⟨l.toArray⟩)
theorem sB_size (l : List UInt8) : (sB l).size = l.length:=rfl
theorem sB_add (l m : List UInt8) : sB l++sB m = sB (l++m):=by
  have : ∀ a b : ByteArray,a.data = b.data→a = b:=fun a b h=>by cases a; cases b; simpa using h
  exact this _ _ (by simp [sB,ByteArray.data_append])
theorem sB_eq (l m : List UInt8) : sB l = sB m↔l = m:=by simp [sB]
theorem sB_ext (l : List UInt8) (a b : Nat) : (sB l).extract a b = sB ((l.take b).drop a):=by
  have : ∀ a b : ByteArray,a.data = b.data→a = b:=fun a b h=>by cases a; cases b; simpa using h
  exact this _ _ (by simp [sB,ByteArray.data_extract,List.extract_eq_take_drop,List.drop_take])
theorem s9 : Tryz.prog.underlying 9 = some .string:=Tryz.underlying9
end Seat
end Go.VX
end
