/- A part of the proofs of the statements of one layer: H1, H2, E2, G1. No condition is added here. -/
import Derived.Tactics
import Derived.Tactics2
import Derived.Defers
import Derived.Recover
import Derived.Laws.Pointers
import Derived.Test.YtcemloapifojkaaGreatDoorXC9
set_option linter.unusedVariables false
set_option linter.unusedSimpArgs false
section
namespace Go.VX
open Go.RowKit (Below)
section
variable {P : Program} {n0 : Nat} {wi : World} {gl : List Nat} {K : KM} {st st1 : St} {w : World} {env : Env}
theorem wpOps_stepP {ops : Array Oper} {Q : Exit→Act→World→Prop} {i : Nat} {rest : List Nat} {a : Act} {r : Oper} (hr : ops[i]? = some r) (h : if Region.wanted r (yielded ops a.tmps) = true then r.wp P a w (wpOps P ops Q rest) Q else wpOps P ops Q rest (a.put r.dst undef) w) :
    wpOps P ops Q (i :: rest) a w:=by
  simp only [wpOps,hr]
  split
  · rename_i hw
    rw [if_pos hw] at h
    exact .inl h
  · rename_i hw
    rw [if_neg hw] at h
    exact h
theorem GCalls.uponP {f : FuncId} {args : Array Value} {R : Ending→World→Prop} {o : Oper} {a : Act} {next : Act→World→Prop} {Q : Exit→Act→World→Prop} (h : GCalls P f args w R)
    (hr : ∀ e w',R e w'→match e with | .returned v=>next (a.put o.dst v) w' | .panicked chain=>Q (.panic chain) a w' | .outgrown=>LetsOut Q) : o.upon P a next Q ((callFunc f args).run P w):=by
  rcases h with ⟨h1,h2⟩ | ⟨v,w',h1,h2⟩
  · rw [run_callFunc h1]
    exact h2.mono fun e w' hR=>by
      have:=hr e w' hR
      cases e<;>exact this
  · rw [h1]
    exact hr _ _ h2
theorem pre_now {ops : Array Oper} {nt : Nat} {o : VOper} {r : Oper} {rest : List Nat} {a : Act} {Q : Exit→Act→World→Prop} {n : VN} {u : AV} (hr : IsOp P gl nt ops o r) (hg : o.guard = none)
    (hv : vop P o.op env st = some (n,st1)) (hu : (n = .val u)∨(n = .skip∧u = undefA)) (hW : WRel n0 wi gl K st w) (hn : n0≤wi.heap.size) (hnt : nt≤a.tmps.size) (he : EnvRel K env a.tmps)
    (k : ∀ K1 w1 a1,WRel n0 wi gl K1 st1 w1→Fr K K1 st st1→a1.defers = a.defers→nt≤a1.tmps.size→EnvRel K1 (env.put o.dst u) a1.tmps→wpOps P ops Q rest a1 w1) : wpOps P ops Q (o.idx :: rest) a w:=by
  refine wpOps_stepP hr.at_ ?_
  rw [wanted_rel hr (fun t b _=>he t),hg,if_pos (by rfl)]
  have hnow : n.now = true:=by rcases hu with rfl | ⟨rfl,_⟩<;>rfl
  obtain ⟨K1,n',w1,hrun,hnr,hW1,hf⟩:=op_now hW (hW.size hn) hr.op (opds_ok hW he.but (fun t _=>by simp)) hv hnow
  have fin : ∀ v',VRel K1 u v'→wpOps P ops Q rest (a.put r.dst v') w1:=by
    intro v' hv'
    rw [hr.dst]
    exact k K1 w1 (a.put o.dst v') hW1 hf (put_def _ _ _) (by rw [put_size]; exact hnt) (put_rel (he.but.mono hf.le) (fun d h=>Nat.lt_of_lt_of_le (hr.lt d h) hnt) hv').all
  unfold Oper.wp
  rw [hrun]
  rcases hu with rfl | ⟨rfl,rfl⟩
  · obtain ⟨v',rfl,hv'⟩:=hnr
    exact fin v' hv'
  · have : n' = .skip:=hnr
    subst this
    exact fin undef (undefA_rel K1)
theorem pre_call {ops : Array Oper} {nt : Nat} {o : VOper} {r : Oper} {rest : List Nat} {a : Act} {Q : Exit→Act→World→Prop} {f : FuncId} {args : List AV} {cr : CRes} (hr : IsOp P gl nt ops o r) (hg : o.guard = none)
    (hv : vop P o.op env st = some (.call f args,st)) (hc : SoundCall P gl f args st cr st1) (hW : WRel n0 wi gl K st w) (hn : n0≤wi.heap.size) (hnt : nt≤a.tmps.size) (he : EnvRel K env a.tmps)
    (k : ∀ K1 w1 a1 v v',cr = .ret v→WRel n0 wi gl K1 st1 w1→Fr K K1 st st1→a1.defers = a.defers→nt≤a1.tmps.size→VRel K1 v v'→EnvRel K1 (env.put o.dst v) a1.tmps→wpOps P ops Q rest a1 w1)
    (k2 : ∀ K1 w1 v v',cr = .pan v→WRel n0 wi gl K1 st1 w1→Fr K K1 st st1→VRel K1 v v'→EnvRel K1 env a.tmps→Q (.panic [{ v:=v',recovered:=false }]) a w1) : wpOps P ops Q (o.idx :: rest) a w:=by
  refine wpOps_stepP hr.at_ ?_
  rw [wanted_rel hr (fun t b _=>he t),hg,if_pos (by rfl)]
  obtain ⟨_,args',hrun,hargs⟩:=op_call (w:=w) hr.op (opds_ok hW he.but (fun t _=>by simp)) hv
  unfold Oper.wp
  rw [hrun]
  have:=hc n0 wi K w args'.toList hW hn hargs
  simp only [Array.toArray_toList] at this
  refine this.uponP fun e w1 h=>?_
  obtain ⟨K1,hW1,hf1,h⟩:=h
  cases cr with
  | ret v =>
    obtain ⟨v',rfl,hv'⟩:=h
    show wpOps P ops Q rest (a.put r.dst v') w1
    rw [hr.dst]
    exact k K1 w1 (a.put o.dst v') v v' rfl hW1 hf1 (put_def _ _ _) (by rw [put_size]; exact hnt) hv' (put_rel (he.but.mono hf1.le) (fun d h=>Nat.lt_of_lt_of_le (hr.lt d h) hnt) hv').all
  | pan v =>
    obtain ⟨v',rfl,hv'⟩:=h
    exact k2 K1 w1 v v' rfl hW1 hf1 hv' (he.but.mono hf1.le).all
end
namespace Seat
open Go.Proofs
def v_catch : VC :=
  .seq (.reg [⟨0,some 8,.mv (.tmp 1),none,[]⟩,⟨1,some 9,.assert 103 true (.agg #[.int .i64 0,.int .i64 0,.int .i64 0]) (.tmp 8),none,[]⟩,⟨2,some 7,.mv (.tmp 9),none,[]⟩,⟨3,some 10,.ext (.tmp 7) 0,none,[]⟩,⟨4,some 11,.ext (.tmp 7) 1,none,[]⟩,
      ⟨5,some 2,.alloc [.int .i64 0,.int .i64 0,.int .i64 0],none,[]⟩,⟨6,none,.store 3 (.tmp 2) (.tmp 10),none,[]⟩,⟨7,some 3,.mv (.tmp 11),none,[]⟩])
    (.seq (.seq (.reg [⟨0,some 12,.mv (.tmp 3),none,[]⟩,⟨1,some 13,.un .not (.tmp 12),none,[]⟩]) (.cond (.tmp 13) (.reg [⟨0,some 14,.mv (.tmp 1),none,[]⟩,⟨1,none,.panic (.tmp 14),none,[]⟩]) .skip))
      (.reg [⟨0,some 15,.load (some 3) (.tmp 2),none,[]⟩,⟨1,none,.store 3 (.tmp 0) (.tmp 15),none,[]⟩]))
def catchCode (f : Func) : Code:=match f.body with
  | some (.seq _ (.seq _ (.cond _ x _)))=>x
  | _=>.skip
theorem p_catch : prepCode Go.Proofs.Tryz.prog [1,0,2,3,8,9] Go.Proofs.Tryz.f90.ntmps (catchCode Go.Proofs.Tryz.f90) = some v_catch:=by kernel_rfl
theorem j_catch {X : Cx} {st m : St} {ver : Nat} {x y z b a e : Int} {env : Env} (h0 : env 0 = .ptr st.length 0) (h1 : env 1 = .iface 103 (.agg [iA b,iA a,iA e])) :
    wpC X v_catch env (st++(⟨[iA x,iA y,iA z],0,ver⟩ :: m)) fun r _ s=>r = .norm∧∃ L,s = st++(⟨[iA b,iA a,iA e],0,ver + 1⟩ :: (m++L)):=by
  refine xC_ok ?_
  simp only [v_catch,h0,h1,kZ,kB,kC,cellsOf,kE,Nat.reduceSub,Int.reduceToNat,Nat.reduceMul,Int.reduceAdd,Int.reduceLE,Int.reduceLT,Int.reduceNeg,Nat.reduceLeDiff,Nat.reduceEqDiff,Nat.reduceAdd,reduceIte,reduceCtorEq,splice,resOf,cellVal]
  exact ⟨_,rfl⟩
theorem callable_find : Callable Go.Proofs.Tryz.prog 53:=⟨Go.Proofs.Tryz.f53,by kernel_rfl,by kernel_rfl,by kernel_rfl⟩
theorem catch_panicking {n0 : Nat} {wi : World} {K : KM} {st m : St} {w : World} {ver : Nat} {x y z b a e : Int} {pv fv : Value} (hW : WRel n0 wi [1,0,2,3,8,9] K (st++(⟨[iA x,iA y,iA z],0,ver⟩ :: m)) w) (hn : n0≤wi.heap.size)
    (hp : VRel K (.ptr st.length 0) pv) (hf : VRel K (.iface 103 (.agg [iA b,iA a,iA e])) fv) (older : List PanicEntry) :
    CallsD Go.Proofs.Tryz.prog 90 #[pv] (.panicking ({ v:=fv,recovered:=false } :: older)) w fun en u' w' =>
      en = .returned (.tuple #[])∧u' = .panicking ({ v:=fv,recovered:=true } :: older)∧∃ K' L,WRel n0 wi [1,0,2,3,8,9] K' (st++(⟨[iA b,iA a,iA e],0,ver + 1⟩ :: (m++L))) w'∧KM.le K K':=by
  obtain ⟨kb,hkb,rfl⟩:=ptr_inv hp
  obtain ⟨fv',rfl⟩ : ∃ v',fv = .iface 103 v':=by cases hf; exact ⟨_,rfl⟩
  refine callsD_of_wpS Go.Proofs.Tryz.func90 rfl fun c₀ cs hu=>?_
  apply wpS_seq
  apply wpS_region
  simp [wpOpsS,go_sem,recoverD,hu,Go.Proofs.Tryz.ntmps90,Exit.thenS]
  apply wpS_seq
  apply wpS_region
  simp [wpOpsS,go_sem,Exit.thenS]
  refine wpS_cond (t:=true) (by simp [Act.eval,Array.replicate]) ?_
  simp only [if_true]
  refine wpS_of_wp ?_
  let X : Cx:=⟨Go.Proofs.Tryz.prog,fun _=>none,fun _ _ _ _ _=>False⟩
  let env : Env:=((((envOf [.ptr st.length 0]).put (some 4) (.iface 103 (.agg [iA b,iA a,iA e]))).put (some 1) (.iface 103 (.agg [iA b,iA a,iA e]))).put (some 5) (.iface 103 (.agg [iA b,iA a,iA e]))).put (some 6) (.sc (.bool true))
  obtain ⟨r,env',s,j,rfl,L,rfl⟩:=j_catch (X:=X) (st:=st) (m:=m) (ver:=ver) (x:=x) (y:=y) (z:=z) (b:=b) (a:=a) (e:=e) (env:=env) rfl rfl
  have S:=(sound (P:=Go.Proofs.Tryz.prog) (gl:=[1,0,2,3,8,9]) (by kernel_rfl) (fun _ _ h=>by cases h) (fun _ _ _ _ _ h=>h.elim) (fun _ _ _ _ _ h=>h.elim) j).1
  refine (wpIn_wide (n:=0)).1 ?_
  refine S none _ _ p_catch n0 wi K w _ _ hW hn ?_ ?_ ?_
  · simp [Go.Proofs.Tryz.ntmps90]
  · have h0:=env_start (K:=K) (args:=[.ptr st.length 0]) (.cons hp .nil) 15
    have h1:=put_rel (a:=⟨_,[]⟩) h0.but (dst:=some 4) (fun d h=>by cases h; simp) hf
    have h2:=put_rel h1 (dst:=some 1) (fun d h=>by cases h; simp [Act.put]) hf
    have h3:=put_rel h2 (dst:=some 5) (fun d h=>by cases h; simp [Act.put]) hf
    have h4:=put_rel h3 (dst:=some 6) (fun d h=>by cases h; simp [Act.put]) (VRel.sc (v:=.bool true) rfl)
    have h5:=h4.all
    simpa [Act.put] using h5
  · intro K' a' w' en hW' hfr hd hs he hx
    cases hx
    refine ⟨by simpa using hd,_,rfl,?_⟩
    refine ⟨.tuple #[],by simp [results,Go.Proofs.Tryz.results90,go_sem],rfl,rfl,K',⟨L,hW'⟩,hfr.le⟩
theorem catch_idle (p : Value) (w : World) :
    CallsD Go.Proofs.Tryz.prog 90 #[p] .returning w fun e u' w'=>e = .returned (.tuple #[])∧u' = .returning∧w' = w:=by
  refine callsD_of_wpS Go.Proofs.Tryz.func90 rfl fun c₀ cs hu=>?_
  apply wpS_seq
  apply wpS_region
  simp [wpOpsS,go_sem,recoverD,hu,Go.Proofs.Tryz.ntmps90,Exit.thenS]
  apply wpS_seq
  apply wpS_region
  simp [wpOpsS,go_sem,Exit.thenS]
  refine wpS_cond (t:=false) (by simp [Act.eval,Array.replicate]) ?_
  simp only [Bool.false_eq_true,if_false]
  refine wpS_of_wp (wp_skip ?_)
  cases c₀
  simp_all [bodyPostS,results,Go.Proofs.Tryz.results90]
end Seat
end Go.VX
end
open Go.VX.AV renaming cell? → xc, toV → xd
open Int renaming reduceAdd → xe, reduceLE → xf, reduceLT → xg, reduceNeg → xh, reduceToNat → xi
open Nat renaming reduceAdd → xj, reduceEqDiff → xk, reduceLeDiff → xl, reduceMul → xm, reduceSub → xn
open Go.VX.VOpd renaming ev → xp
open Go.VX renaming asInt? → xq, asNat? → xr, cellVal → xu, cellsV → xv, fillA → xw, partsEv → xy, resOf → xz, splice → ya, tupOf → yb, zeroes → yc
section
namespace Go.VX.Seat
open Go.Proofs
open Go.RowKit (Below)
theorem find_isop (r : Nat) {ops : Array Oper} (o : VOper) {q : Oper} (h1 : ops[o.idx]? = some q) (h2 : q.dst = o.dst) (h3 : ∀ d,o.dst = some d→d < 9) (h4 : prepOp Go.Proofs.Tryz.prog [1,0,2,3,8,9] q.type q.op = some o.op) (h5 : pGuard ops q.guard = some o.guard) :
    IsOp Go.Proofs.Tryz.prog [1,0,2,3,8,9] 9 ops o q:=⟨h1,h2,h3,h4,h5⟩
theorem find_result {n0 : Nat} {wi : World} {K : KM} {st m : St} {w : World} {B : Box} {ver : Nat} {x y z : Int} {tmps : Array Value} (hW : WRel n0 wi [1,0,2,3,8,9] K (st++(B :: ⟨[iA x,iA y,iA z],0,ver⟩ :: m)) w) (h2 : VRel K (.ptr (st.length + 1) 0) (tmps.getD 2 undef)) :
    ∃ v,(results Go.Proofs.Tryz.f53 tmps).run Go.Proofs.Tryz.prog w = .ok v w∧VRel K (.agg [iA x,iA y,iA z]) v:=by
  obtain ⟨kb,hkb,hval⟩:=ptr_inv h2
  have hs : ((tiOf Go.Proofs.Tryz.prog 103).bind TI.agg?) = some 3:=by kernel_rfl
  obtain ⟨ti,hti,hag⟩:=Option.bind_eq_some_iff.1 hs
  obtain ⟨v',hrun,hrel⟩:=run_loadVar hW hti hkb (o:=0) (v:=.agg [iA x,iA y,iA z]) (by
    rw [hag]
    simp only [kZ,kB,kC,cellsOf,kE,xn,xi,xm,xe,xf,xg,xh,xl,xk,xj,reduceIte,reduceCtorEq,ya,xz,xu])
  refine ⟨v',?_,hrel⟩
  have : (Go.Proofs.Tryz.f53.results.toList.mapM (readRes tmps)).run Go.Proofs.Tryz.prog w = .ok [v'] w:=by
    rw [show Go.Proofs.Tryz.f53.results.toList = [.cell 2 103] from rfl,List.mapM_cons]
    rw [run_bind _ _ w (a:=v') (w':=w) (by
      simp only [readRes,hval]
      rw [run_bind _ _ w (a:=⟨kb.rb,kb.ro + 0,none⟩) (w':=w) rfl]
      exact hrun)]
    rfl
  exact results_run this
theorem find_sound {st m : St} {cs : List AV} {b a e : Int} {cr : CRes} (hcs : cs.length = 6)
    (hcr : (cr = .ret (.tup [])∧b = 0∧a = 0∧e = 0)∨cr = .pan (.iface 103 (.agg [iA b,iA a,iA e])))
    (hu : SoundCall Go.Proofs.Tryz.prog [1,0,2,3,8,9] 91 [.ptr (st.length + 2) 0] (st++([⟨cs,0,0⟩,⟨[iA 0,iA 0,iA 0],0,0⟩,⟨cs++[iA 0,iA 0],0,0⟩] : St)) cr (st++(⟨cs,0,0⟩ :: ⟨[iA 0,iA 0,iA 0],0,0⟩ :: m : St))) :
    SoundC Go.Proofs.Tryz.prog [1,0,2,3,8,9] 53 [.agg cs] st (.ret (.agg [iA b,iA a,iA e])) st:=by
  obtain ⟨c0,c1,c2,c3,c4,c5,rfl⟩ : ∃ c0 c1 c2 c3 c4 c5,cs = [c0,c1,c2,c3,c4,c5]:=by
    match cs,hcs with
    | [c0,c1,c2,c3,c4,c5],_=>exact ⟨c0,c1,c2,c3,c4,c5,rfl⟩
  intro n0 wi K w args' hW hn hargs
  refine calls_of_wp_defers Go.Proofs.Tryz.func53 rfl ?_
  refine wp_seq (wp_region ?_)
  have hv0 : vop Go.Proofs.Tryz.prog (.box (.tmp 0)) (envOf [.agg [c0,c1,c2,c3,c4,c5]]) st = some (.val (.ptr st.length 0),st++[⟨[c0,c1,c2,c3,c4,c5],0,0⟩]):=rfl
  refine pre_now (nt:=9) (o:=⟨0,some 1,.box (.tmp 0),none,[]⟩) (find_isop 0 _ rfl rfl (fun d h=>by cases h; decide) (by kernel_rfl) rfl) rfl hv0 (.inl rfl) hW hn ?_ (env_start hargs _) fun K1 w1 a1 hW1 hf1 hd1 hs1 he1=>?_
  · simp only [Go.Proofs.Tryz.ntmps53,Array.size_append,Array.size_replicate,List.size_toArray]; omega
  have hv1 : vop Go.Proofs.Tryz.prog (.alloc [.int .i64 0,.int .i64 0,.int .i64 0]) ((envOf [.agg [c0,c1,c2,c3,c4,c5]]).put (some 1) (.ptr st.length 0)) (st++[⟨[c0,c1,c2,c3,c4,c5],0,0⟩]) = some (.val (.ptr (st.length + 1) 0),st++([⟨[c0,c1,c2,c3,c4,c5],0,0⟩,⟨[iA 0,iA 0,iA 0],0,0⟩] : St)):=by
    simp only [v_alloc,List.length_append,List.length_cons,List.length_nil,List.append_assoc,List.cons_append,List.nil_append,List.map_cons,List.map_nil]
  refine pre_now (nt:=9) (o:=⟨1,some 2,.alloc [.int .i64 0,.int .i64 0,.int .i64 0],none,[]⟩) (find_isop 0 _ rfl rfl (fun d h=>by cases h; decide) (by kernel_rfl) rfl) rfl hv1 (.inl rfl) hW1 hn hs1 he1 fun K2 w2 a2 hW2 hf2 hd2 hs2 he2=>?_
  have hd2' : a2.defers = []:=by rw [hd2,hd1]
  clear hd1 hd2 hs1 he1 hW1
  refine wp_seq (wp_region ?_)
  have hv2 : vop Go.Proofs.Tryz.prog (.mkfn 90 [] [.tmp 2]) (((envOf [.agg [c0,c1,c2,c3,c4,c5]]).put (some 1) (.ptr st.length 0)).put (some 2) (.ptr (st.length + 1) 0)) (st++([⟨[c0,c1,c2,c3,c4,c5],0,0⟩,⟨[iA 0,iA 0,iA 0],0,0⟩] : St)) = some (.val (.fn 90 [] [.ptr (st.length + 1) 0]),st++([⟨[c0,c1,c2,c3,c4,c5],0,0⟩,⟨[iA 0,iA 0,iA 0],0,0⟩] : St)):=rfl
  refine pre_now (nt:=9) (o:=⟨0,some 3,.mkfn 90 [] [.tmp 2],none,[]⟩) (find_isop 0 _ rfl rfl (fun d h=>by cases h; decide) (by kernel_rfl) rfl) rfl hv2 (.inl rfl) hW2 hn hs2 he2 fun K3 w3 a3 hW3 hf3 hd3 hs3 he3=>?_
  rw [hd2'] at hd3
  have h3:=he3 3
  have h2:=he3 2
  obtain ⟨kb,hkb,hp2⟩:=ptr_inv (show VRel K3 (.ptr (st.length + 1) 0) (a3.tmps.getD 2 undef) from h2)
  have h3' : a3.tmps.getD 3 undef = .func (.func 90) #[] #[.pointer (some ⟨kb.rb,kb.ro + 0,none⟩)]:=by
    have h3 : VRel K3 (.fn 90 [] [.ptr (st.length + 1) 0]) (a3.tmps.getD 3 undef):=h3
    generalize a3.tmps.getD 3 undef = z at h3
    cases h3 with
    | fn x y =>
      cases x
      cases y with
      | cons y1 y2 =>
        cases y2
        obtain ⟨kb',hkb',rfl⟩:=ptr_inv y1
        rw [hkb] at hkb'
        cases hkb'
        rfl
  refine wpOps_stepP (r := ⟨none, .defer { callee := .value (.tmp 3), args := #[], argTypes := #[] }, 0, "code.go:139", #[{ on := 0, ground := .data }], none⟩) rfl ?_
  rw [if_pos (by rfl)]
  have hrun : (execOp a3.eval ⟨none, .defer { callee := .value (.tmp 3), args := #[], argTypes := #[] }, 0, "code.go:139", #[{ on := 0, ground := .data }], none⟩).run Go.Proofs.Tryz.prog w3 = .ok (.defer { target := .fn (.func 90) #[.pointer (some ⟨kb.rb, kb.ro + 0, none⟩)], args := #[] }) w3 := by
    simp [go_sem,Act.eval,h3']
  unfold Oper.wp
  rw [hrun]
  simp only [Oper.upon,wpOps,Act.put,hd3,Exit.then]
  clear hrun h3 h3' h2
  refine wp_seq (wp_region ?_)
  obtain ⟨env3,henv3⟩ : ∃ e,e = (((envOf [.agg [c0,c1,c2,c3,c4,c5]]).put (some 1) (.ptr st.length 0)).put (some 2) (.ptr (st.length + 1) 0)).put (some 3) (.fn 90 [] [.ptr (st.length + 1) 0]):=⟨_,rfl⟩
  have he3 : EnvRel K3 env3 a3.tmps:=by rw [henv3]; exact he3
  have hv4 : vop Go.Proofs.Tryz.prog (.load (some 6) (.tmp 1)) env3 (st++([⟨[c0,c1,c2,c3,c4,c5],0,0⟩,⟨[iA 0,iA 0,iA 0],0,0⟩] : St)) = some (.val (.agg [c0,c1,c2,c3,c4,c5]),st++([⟨[c0,c1,c2,c3,c4,c5],0,0⟩,⟨[iA 0,iA 0,iA 0],0,0⟩] : St)):=by
    subst henv3
    simp only [kZ,kB,kC,cellsOf,kE,xn,xi,xm,xe,xf,xg,xh,xl,xk,xj,reduceIte,reduceCtorEq,ya,xz,xu]
  refine pre_now (a:={ a3 with defers:=_ }) (nt:=9) (o:=⟨0,some 4,.load (some 6) (.tmp 1),none,[]⟩) (find_isop 0 _ rfl rfl (fun d h=>by cases h; decide) (by kernel_rfl) rfl) rfl hv4 (.inl rfl) hW3 hn hs3 he3 fun K4 w4 a4 hW4 hf4 hd4 hs4 he4=>?_
  obtain ⟨env4,henv4⟩ : ∃ e,e = env3.put (some 4) (.agg [c0,c1,c2,c3,c4,c5]):=⟨_,rfl⟩
  have he4 : EnvRel K4 env4 a4.tmps:=by rw [henv4]; exact he4
  have hv5 : vop Go.Proofs.Tryz.prog (.build [.slice none 0 0,.int .i64 0,.int .i64 0,.int .i64 0,.int .i64 0,.slice none 0 0,.int .i64 0,.int .i64 0] [(0,6,.tmp 4)]) env4 (st++([⟨[c0,c1,c2,c3,c4,c5],0,0⟩,⟨[iA 0,iA 0,iA 0],0,0⟩] : St)) = some (.val (.agg [c0,c1,c2,c3,c4,c5,iA 0,iA 0]),st++([⟨[c0,c1,c2,c3,c4,c5],0,0⟩,⟨[iA 0,iA 0,iA 0],0,0⟩] : St)):=by
    subst henv4
    simp only [kZ,kB,kC,cellsOf,kE,xn,xi,xm,xe,xf,xg,xh,xl,xk,xj,reduceIte,reduceCtorEq,ya,xz,xu]
  refine pre_now (nt:=9) (o:=⟨1,some 5,.build [.slice none 0 0,.int .i64 0,.int .i64 0,.int .i64 0,.int .i64 0,.slice none 0 0,.int .i64 0,.int .i64 0] [(0,6,.tmp 4)],none,[]⟩) (find_isop 0 _ rfl rfl (fun d h=>by cases h; decide) (by kernel_rfl) rfl) rfl hv5 (.inl rfl) hW4 hn hs4 he4 fun K5 w5 a5 hW5 hf5 hd5 hs5 he5=>?_
  have hv6 : vop Go.Proofs.Tryz.prog (.box (.tmp 5)) (env4.put (some 5) (.agg [c0,c1,c2,c3,c4,c5,iA 0,iA 0])) (st++([⟨[c0,c1,c2,c3,c4,c5],0,0⟩,⟨[iA 0,iA 0,iA 0],0,0⟩] : St)) = some (.val (.ptr (st.length + 2) 0),st++([⟨[c0,c1,c2,c3,c4,c5],0,0⟩,⟨[iA 0,iA 0,iA 0],0,0⟩,⟨[c0,c1,c2,c3,c4,c5,iA 0,iA 0],0,0⟩] : St)):=by
    simp only [kZ,kB,kC,cellsOf,kE,xn,xi,xm,xe,xf,xg,xh,xl,xk,xj,reduceIte,reduceCtorEq,ya,xz,xu]
  refine pre_now (nt:=9) (o:=⟨2,some 6,.box (.tmp 5),none,[]⟩) (find_isop 0 _ rfl rfl (fun d h=>by cases h; decide) (by kernel_rfl) rfl) rfl hv6 (.inl rfl) hW5 hn hs5 he5 fun K6 w6 a6 hW6 hf6 hd6 hs6 he6=>?_
  have hd6' : a6.defers = [{ target:=.fn (.func 90) #[.pointer (some ⟨kb.rb,kb.ro + 0,none⟩)],args:=#[] }]:=by rw [hd6,hd5,hd4]
  have hp2' : ∀ K' : KM,KM.le K3 K'→VRel K' (.ptr (st.length + 1) 0) (.pointer (some ⟨kb.rb,kb.ro + 0,none⟩)):=fun K' hk=>VRel.ptr (hk _ _ hkb)
  have hk36 : KM.le K3 K6:=KM.le_trans hf4.le (KM.le_trans hf5.le hf6.le)
  have hK3 : KM.le K K3:=KM.le_trans hf1.le (KM.le_trans hf2.le hf3.le)
  obtain ⟨env6,henv6⟩ : ∃ e,e = (env4.put (some 5) (.agg [c0,c1,c2,c3,c4,c5,iA 0,iA 0])).put (some 6) (.ptr (st.length + 2) 0):=⟨_,rfl⟩
  have he6 : EnvRel K6 env6 a6.tmps:=by rw [henv6]; exact he6
  have q6 : env6 6 = .ptr (st.length + 2) 0:=by rw [henv6]; rfl
  have q2 : env6 2 = .ptr (st.length + 1) 0:=by rw [henv6,henv4,henv3]; rfl
  clear hd4 hd5 hd6 hs4 hs5 he4 he5 hW4 hW5 hv4 hv5 hv6 hW3 hW2
  have hv7 : vop Go.Proofs.Tryz.prog (.call 91 [.tmp 6]) env6 (st++([⟨[c0,c1,c2,c3,c4,c5],0,0⟩,⟨[iA 0,iA 0,iA 0],0,0⟩,⟨[c0,c1,c2,c3,c4,c5,iA 0,iA 0],0,0⟩] : St)) = some (.call 91 [.ptr (st.length + 2) 0],st++([⟨[c0,c1,c2,c3,c4,c5],0,0⟩,⟨[iA 0,iA 0,iA 0],0,0⟩,⟨[c0,c1,c2,c3,c4,c5,iA 0,iA 0],0,0⟩] : St)):=by
    simp only [q6,kZ,kB,kC,cellsOf,kE,xn,xi,xm,xe,xf,xg,xh,xl,xk,xj,reduceIte,reduceCtorEq,ya,xz,xu]
  refine pre_call (nt:=9) (o:=⟨3,some 7,.call 91 [.tmp 6],none,[]⟩) (find_isop 0 _ rfl rfl (fun d h=>by cases h; decide) (by kernel_rfl) rfl) rfl hv7 hu hW6 hn hs6 he6 ?_ ?_
  · intro K7 w7 a7 v v' hcrv hW7 hf7 hd7 hs7 hv' he7
    obtain ⟨rfl,rfl,rfl⟩ : b = 0∧a = 0∧e = 0:=by
      rcases hcr with ⟨_,h⟩ | h
      · exact h
      · rw [h] at hcrv; cases hcrv
    have hv8 : vop Go.Proofs.Tryz.prog (.build [.int .i64 0,.int .i64 0,.int .i64 0] []) (env6.put (some 7) v) (st++(⟨[c0,c1,c2,c3,c4,c5],0,0⟩ :: ⟨[iA 0,iA 0,iA 0],0,0⟩ :: m : St)) = some (.val (.agg [iA 0,iA 0,iA 0]),st++(⟨[c0,c1,c2,c3,c4,c5],0,0⟩ :: ⟨[iA 0,iA 0,iA 0],0,0⟩ :: m : St)):=by
      simp only [kZ,kB,kC,cellsOf,kE,xn,xi,xm,xe,xf,xg,xh,xl,xk,xj,reduceIte,reduceCtorEq,ya,xz,xu]
    refine wp_seq (wp_region ?_)
    refine pre_now (nt:=9) (o:=⟨0,some 8,.build [.int .i64 0,.int .i64 0,.int .i64 0] [],none,[]⟩) (find_isop 0 _ rfl rfl (fun d h=>by cases h; decide) (by kernel_rfl) rfl) rfl hv8 (.inl rfl) hW7 hn hs7 he7 fun K8 w8 a8 hW8 hf8 hd8 hs8 he8=>?_
    have hv9 : vop Go.Proofs.Tryz.prog (.store 3 (.tmp 2) (.tmp 8)) ((env6.put (some 7) v).put (some 8) (.agg [iA 0,iA 0,iA 0])) (st++(⟨[c0,c1,c2,c3,c4,c5],0,0⟩ :: ⟨[iA 0,iA 0,iA 0],0,0⟩ :: m : St)) = some (.skip,st++(⟨[c0,c1,c2,c3,c4,c5],0,0⟩ :: ⟨[iA 0,iA 0,iA 0],0,1⟩ :: m : St)):=by
      simp only [q2,kZ,kB,kC,cellsOf,kE,xn,xi,xm,xe,xf,xg,xh,xl,xk,xj,reduceIte,reduceCtorEq,ya,xz,xu]
    refine pre_now (nt:=9) (o:=⟨1,none,.store 3 (.tmp 2) (.tmp 8),none,[]⟩) (find_isop 0 _ rfl rfl (fun d h=>by cases h) (by kernel_rfl) rfl) rfl hv9 (.inr ⟨rfl,rfl⟩) hW8 hn hs8 he8 fun K9 w9 a9 hW9 hf9 hd9 hs9 he9=>?_
    refine wp_ret ?_
    show Leaves _ _ _ _ a9.defers .returning w9
    rw [hd9,hd8,hd7,hd6']
    refine leaves_cons (f:=90) (args:=#[.pointer (some ⟨kb.rb,kb.ro + 0,none⟩)]) (by simp) (by simp [go_sem]) ?_
    refine (catch_idle _ _).mono ?_
    rintro e u' w'' ⟨rfl,rfl,rfl⟩
    have h2 : VRel K9 (.ptr (st.length + 1) 0) (a9.tmps.getD 2 undef):=by
      have:=he9 2
      simpa only [q2,kZ,kB,kC,cellsOf,kE,xn,xi,xm,xe,xf,xg,xh,xl,xk,xj,reduceIte,reduceCtorEq,ya,xz,xu] using this
    obtain ⟨fv,hfr,hfv⟩:=find_result hW9 h2
    have hk9 : KM.le K K9:=KM.le_trans hK3 (KM.le_trans hk36 (KM.le_trans hf7.le (KM.le_trans hf8.le hf9.le)))
    exact ⟨fv,hfr,K,hW.back hW9 hk9,Fr.refl K st,fv,rfl,hfv.flat rfl⟩
  · intro K7 w7 v v' hcrv hW7 hf7 hv' he7
    obtain rfl : v = .iface 103 (.agg [iA b,iA a,iA e]):=by
      rcases hcr with ⟨h,_⟩ | h
      · rw [h] at hcrv; cases hcrv
      · rw [h] at hcrv; cases hcrv; rfl
    show Leaves _ _ _ _ a6.defers (.panicking _) w7
    rw [hd6']
    refine leaves_cons (f:=90) (args:=#[.pointer (some ⟨kb.rb,kb.ro + 0,none⟩)]) (by simp) (by simp [go_sem]) ?_
    have hW7' : WRel n0 wi [1,0,2,3,8,9] K7 ((st++[⟨[c0,c1,c2,c3,c4,c5],0,0⟩])++(⟨[iA 0,iA 0,iA 0],0,0⟩ :: m)) w7:=by
      rw [List.append_assoc]; exact hW7
    refine (catch_panicking hW7' hn (by rw [List.length_append]; exact hp2' K7 (KM.le_trans hk36 hf7.le)) hv' []).mono ?_
    rintro en u' w'' ⟨rfl,rfl,K8,L,hW8,hk8⟩
    have h2 : VRel K8 (.ptr (st.length + 1) 0) (a6.tmps.getD 2 undef):=by
      have:=(he7 2).mono hk8
      rw [q2] at this
      exact this
    rw [List.append_assoc] at hW8
    obtain ⟨fv,hfr,hfv⟩:=find_result hW8 h2
    have hk9 : KM.le K K8:=KM.le_trans hK3 (KM.le_trans hk36 (KM.le_trans hf7.le hk8))
    simp only [settle]
    exact ⟨fv,hfr,K,hW.back hW8 hk9,Fr.refl K st,fv,rfl,hfv.flat rfl⟩
end Go.VX.Seat
end
section
set_option maxRecDepth 100000
namespace Go.VX.Seat
open Go.Proofs
def noH : FuncId→List AV→St→CRes→St→Prop:=fun _ _ _ _ _=>False
def faultOf : CRes→Option (Int × Int × Int)
  | .ret (.tup [])=>some (0,0,0)
  | .pan (.iface t (.agg [.sc (.int .i64 b),.sc (.int .i64 a),.sc (.int .i64 e)]))=>if t = 103 then some (b,a,e) else none
  | _=>none
def findSt (st : St) (cs : List AV) : St:=st++([⟨cs,0,0⟩,⟨[iA 0,iA 0,iA 0],0,0⟩] : St)
def HFind : FuncId→List AV→St→CRes→St→Prop:=fun f args st r st' =>
  f = 53∧∃ cs cr m b a e,args = [.agg cs]∧cs.length = 6∧faultOf cr = some (b,a,e)∧r = .ret (.agg [iA b,iA a,iA e])∧st' = st ∧
    J Go.Proofs.Tryz.prog fnOf noH (.call 91 [.ptr (st.length + 2) 0] (st++([⟨cs,0,0⟩,⟨[iA 0,iA 0,iA 0],0,0⟩,⟨cs++[iA 0,iA 0],0,0⟩] : St)) cr (st++(⟨cs,0,0⟩ :: ⟨[iA 0,iA 0,iA 0],0,0⟩ :: m : St)))
theorem mixed : Go.Proofs.Tryz.prog.follows .mixedOrders = true:=by kernel_rfl
theorem hfind_sound {f : FuncId} {args : List AV} {st st' : St} {r : CRes} (h : HFind f args st r st') : SoundCall Go.Proofs.Tryz.prog [1,0,2,3,8,9] f args st r st':=by
  obtain ⟨rfl,cs,cr,m,b,a,e,rfl,hcs,hcr,rfl,rfl,j⟩:=h
  have S:=sound (P:=Go.Proofs.Tryz.prog) (gl:=[1,0,2,3,8,9]) mixed (fun f fn h=>fn_ok f fn h) (fun _ _ _ _ _ h=>h.elim) (fun _ _ _ _ _ h=>h.elim) j
  refine SoundC.sound (find_sound hcs ?_ S) callable_find
  unfold faultOf at hcr
  split at hcr
  · simp only [Option.some.injEq,Prod.mk.injEq] at hcr
    obtain ⟨rfl,rfl,rfl⟩:=hcr
    exact .inl ⟨rfl,rfl,rfl,rfl⟩
  · split at hcr
    · rename_i ht
      subst ht
      simp only [Option.some.injEq,Prod.mk.injEq] at hcr
      obtain ⟨rfl,rfl,rfl⟩:=hcr
      exact .inr rfl
    · cases hcr
  · cases hcr
theorem hfind_evo {f : FuncId} {args : List AV} {st st' : St} {r : CRes} (h : HFind f args st r st') : Evo st st':=by
  obtain ⟨rfl,cs,cr,m,b,a,e,rfl,hcs,hcr,rfl,rfl,j⟩:=h
  exact Evo.refl st'
noncomputable def evFind (n : Nat) (call : EvF) : EvF:=fun f args st =>
  match Nat.beq f 53 with
  | true=>match args with
    | [.agg cs]=>match Nat.beq cs.length 6 with
      | true=>match evF fnOf (evC Go.Proofs.Tryz.prog fnOf id n) 91 [.ptr (st.length + 2) 0] (st++([⟨cs,0,0⟩,⟨[iA 0,iA 0,iA 0],0,0⟩,⟨cs++[iA 0,iA 0],0,0⟩] : St)) with
        | some (cr,st2)=>match keepsB (findSt st cs) st2 with
          | true=>match faultOf cr with
            | some (b,a,e)=>some (.ret (.agg [iA b,iA a,iA e]),st)
            | none=>none
          | false=>none
        | none=>none
      | false=>none
    | _=>none
  | false=>call f args st
theorem evFind_ok {H : FuncId→List AV→St→CRes→St→Prop} (hH : ∀ f args st r st',HFind f args st r st'→H f args st r st') (n : Nat) {call : EvF} (hc : CallOk Go.Proofs.Tryz.prog fnOf H call) : CallOk Go.Proofs.Tryz.prog fnOf H (evFind n call):=by
  intro f args st r st' h
  unfold evFind at h
  split at h
  · rename_i hf
    have hf:=Nat.eq_of_beq_eq_true hf
    subst hf
    split at h
    · rename_i cs
      split at h
      · rename_i h6
        have h6:=Nat.eq_of_beq_eq_true h6
        split at h
        · rename_i cr st2 hev
          split at h
          · rename_i hk
            split at h
            · rename_i b a e hft
              simp only [Option.some.injEq,Prod.mk.injEq] at h
              obtain ⟨rfl,rfl⟩:=h
              have j:=evF_ok (P:=Go.Proofs.Tryz.prog) (F:=fnOf) (H:=noH) (fun _ _ _ _ _ h=>h.elim) (evC_ok (hk:=id) (fun _ _ _ _ _ h=>h.elim) (fun _ h=>h) n) _ _ _ _ _ hev
              have he:=J_evo (H:=noH) (fun _ _ _ _ _ h=>h.elim) j
              have hk2:=keepsB_ok hk (fun b x hx=>by
                have hb:=(List.getElem?_eq_some_iff.1 hx).1
                obtain ⟨y,h1,_,_,h4⟩:=he b x (by
                  rw [show (st++([⟨cs,0,0⟩,⟨[iA 0,iA 0,iA 0],0,0⟩,⟨cs++[iA 0,iA 0],0,0⟩] : St)) = findSt st cs++[⟨cs++[iA 0,iA 0],0,0⟩] by simp [findSt]]
                  rw [List.getElem?_append_left hb]
                  exact hx)
                exact ⟨y,h1,h4⟩)
              refine .hook (hH _ _ _ _ _ ⟨rfl,cs,cr,st2.drop (findSt st cs).length,b,a,e,rfl,h6,hft,rfl,rfl,?_⟩)
              rw [show (st++(⟨cs,0,0⟩ :: ⟨[iA 0,iA 0,iA 0],0,0⟩ :: st2.drop (findSt st cs).length : St)) = findSt st cs++st2.drop (findSt st cs).length by simp [findSt],← hk2]
              exact j
            · cases h
          · cases h
        · cases h
      · cases h
    · cases h
  · exact hc _ _ _ _ _ h
def formBox : Box:=⟨formCells,1,0⟩
end Go.VX.Seat
end
section
namespace Go.VX.Seat
def glob_bireme_code_ends : List AV:=[.sc (.string ⟨#[106,117,109,112]⟩),.sc (.int .i64 1),.sc (.string ⟨#[98,114,97,110,99,104]⟩),.sc (.int .i64 3),.sc (.string ⟨#[114,101,116,117,114,110]⟩),.sc (.int .i64 1),.sc (.string ⟨#[116,104,114,111,119]⟩),.sc (.int .i64 1)]
def glob_internal_strconv_uint64pow10 : List AV:=[.sc (.int .u64 1),.sc (.int .u64 10),.sc (.int .u64 100),.sc (.int .u64 1000),.sc (.int .u64 10000),.sc (.int .u64 100000),.sc (.int .u64 1000000),.sc (.int .u64 10000000),.sc (.int .u64 100000000),.sc (.int .u64 1000000000),.sc (.int .u64 10000000000),.sc (.int .u64 100000000000),.sc (.int .u64 1000000000000),.sc (.int .u64 10000000000000),.sc (.int .u64 100000000000000),.sc (.int .u64 1000000000000000),.sc (.int .u64 10000000000000000),.sc (.int .u64 100000000000000000),.sc (.int .u64 1000000000000000000),.sc (.int .u64 10000000000000000000)]
def glS : List Box:=[formBox,⟨glob_bireme_code_ends,1,0⟩,⟨glob_internal_strconv_uint64pow10,1,0⟩,⟨[],1,0⟩,⟨[.err],1,0⟩,⟨[.err],1,0⟩]
end Go.VX.Seat
end
