/- A part of the proofs of the statements of layer 17: H1, H2, E2, S25, S26, S27, S28, S29, S30, S31, S32, S33, S34, S35, S36, S37, S38, S39, E4, E3. No condition is added here. -/
import Derived.Tactics
import Derived.Tactics2
import Derived.Defers
import Derived.Recover
import Derived.Laws.Pointers
import Derived.Test.YtjimgnlmimimjaaDoorXC8
section
set_option linter.unusedVariables false
set_option linter.unusedSimpArgs false
/-! The function that recovers: code.find. -/
namespace Go.VX
open Go.RowKit (Below)
section
variable {P : Program} {n0 : Nat} {wi : World} {gl : List Nat} {K : KM} {st st1 : St} {w : World} {env : Env}
/-- One operation that is no call, ahead of the rest of its list. -/
theorem pre_now {ops : Array Oper} {nt : Nat} {o : VOper} {r : Oper} {rest : List Nat} {a : Act} {Q : Exit → Act → World → Prop} {n : VN} {u : AV} (hr : IsOp P gl nt ops o r) (hg : o.guard = none)
    (hv : vop P o.op env st = some (n, st1)) (hu : (n = .val u) ∨ (n = .skip ∧ u = undefA)) (hW : WRel n0 wi gl K st w) (hn : n0 ≤ wi.heap.size) (hnt : nt ≤ a.tmps.size) (he : EnvRel K env a.tmps)
    (k : ∀ K1 w1 a1, WRel n0 wi gl K1 st1 w1 → Fr K K1 st st1 → a1.defers = a.defers → nt ≤ a1.tmps.size → EnvRel K1 (env.put o.dst u) a1.tmps → wpOps P ops Q rest a1 w1) : wpOps P ops Q (o.idx :: rest) a w := by
  refine wpOps_step hr.at_ ?_
  rw [wanted_rel hr (fun t b _ => he t), hg, if_pos (by rfl)]
  have hnow : n.now = true := by rcases hu with rfl | ⟨rfl, _⟩ <;> rfl
  obtain ⟨K1, n', w1, hrun, hnr, hW1, hf⟩ := op_now hW (hW.size hn) hr.op (opds_ok hW he.but (fun t _ => by simp)) hv hnow
  have fin : ∀ v', VRel K1 u v' → wpOps P ops Q rest (a.put r.dst v') w1 := by
    intro v' hv'
    rw [hr.dst]
    exact k K1 w1 (a.put o.dst v') hW1 hf (put_def _ _ _) (by rw [put_size]; exact hnt) (put_rel (he.but.mono hf.le) (fun d h => Nat.lt_of_lt_of_le (hr.lt d h) hnt) hv').all
  unfold Oper.wp
  rw [hrun]
  rcases hu with rfl | ⟨rfl, rfl⟩
  · obtain ⟨v', rfl, hv'⟩ := hnr
    exact fin v' hv'
  · have : n' = .skip := hnr
    subst this
    exact fin undef (undefA_rel K1)
/-- A call ahead of the rest of its list: both ends. -/
theorem pre_call {ops : Array Oper} {nt : Nat} {o : VOper} {r : Oper} {rest : List Nat} {a : Act} {Q : Exit → Act → World → Prop} {f : FuncId} {args : List AV} {cr : CRes} (hr : IsOp P gl nt ops o r) (hg : o.guard = none)
    (hv : vop P o.op env st = some (.call f args, st)) (hf : Callable P f) (hc : SoundCall P gl f args st cr st1) (hW : WRel n0 wi gl K st w) (hn : n0 ≤ wi.heap.size) (hnt : nt ≤ a.tmps.size) (he : EnvRel K env a.tmps)
    (k : ∀ K1 w1 a1 v v', cr = .ret v → WRel n0 wi gl K1 st1 w1 → Fr K K1 st st1 → a1.defers = a.defers → nt ≤ a1.tmps.size → VRel K1 v v' → EnvRel K1 (env.put o.dst v) a1.tmps → wpOps P ops Q rest a1 w1)
    (k2 : ∀ K1 w1 v v', cr = .pan v → WRel n0 wi gl K1 st1 w1 → Fr K K1 st st1 → VRel K1 v v' → EnvRel K1 env a.tmps → Q (.panic [{ v := v', recovered := false }]) a w1) : wpOps P ops Q (o.idx :: rest) a w := by
  refine wpOps_step hr.at_ ?_
  rw [wanted_rel hr (fun t b _ => he t), hg, if_pos (by rfl)]
  obtain ⟨_, args', hrun, hargs⟩ := op_call (w := w) hr.op (opds_ok hW he.but (fun t _ => by simp)) hv hf
  unfold Oper.wp
  rw [hrun]
  simp only [Oper.upon]
  have := hc n0 wi K w args'.toList hW hn hargs
  simp only [Array.toArray_toList] at this
  refine this.mono fun e w1 h => ?_
  obtain ⟨K1, hW1, hf1, h⟩ := h
  cases cr with
  | ret v =>
    obtain ⟨v', rfl, hv'⟩ := h
    show wpOps P ops Q rest (a.put r.dst v') w1
    rw [hr.dst]
    exact k K1 w1 (a.put o.dst v') v v' rfl hW1 hf1 (put_def _ _ _) (by rw [put_size]; exact hnt) hv' (put_rel (he.but.mono hf1.le) (fun d h => Nat.lt_of_lt_of_le (hr.lt d h) hnt) hv').all
  | pan v =>
    obtain ⟨v', rfl, hv'⟩ := h
    exact k2 K1 w1 v v' rfl hW1 hf1 hv' (he.but.mono hf1.le).all
end
namespace Seat
open Go.Proofs
/-- What the closure does behind its test. -/
def v_catch : VC :=
  .seq (.reg [⟨0, some 8, .mv (.tmp 1), none, []⟩, ⟨1, some 9, .assert 113 true (.agg #[.int .i64 0, .int .i64 0, .int .i64 0]) (.tmp 8), none, []⟩, ⟨2, some 7, .mv (.tmp 9), none, []⟩, ⟨3, some 10, .ext (.tmp 7) 0, none, []⟩, ⟨4, some 11, .ext (.tmp 7) 1, none, []⟩,
      ⟨5, some 2, .alloc [.int .i64 0, .int .i64 0, .int .i64 0], none, []⟩, ⟨6, none, .store 3 (.tmp 2) (.tmp 10), none, []⟩, ⟨7, some 3, .mv (.tmp 11), none, []⟩])
    (.seq (.seq (.reg [⟨0, some 12, .mv (.tmp 3), none, []⟩, ⟨1, some 13, .un .not (.tmp 12), none, []⟩]) (.cond (.tmp 13) (.reg [⟨0, some 14, .mv (.tmp 1), none, []⟩, ⟨1, none, .panic (.tmp 14), none, []⟩]) .skip))
      (.reg [⟨0, some 15, .load (some 3) (.tmp 2), none, []⟩, ⟨1, none, .store 3 (.tmp 0) (.tmp 15), none, []⟩]))
/-- The closure's code behind its test. -/
def catchCode (f : Func) : Code := match f.body with
  | some (.seq _ (.seq _ (.cond _ x _))) => x
  | _ => .skip
theorem p_catch : prepCode Go.Proofs.Tryd.prog [0] Go.Proofs.Tryd.f79.ntmps (catchCode Go.Proofs.Tryd.f79) = some v_catch := by kernel_rfl
/-- The closure takes the fault. -/
theorem j_catch {X : Cx} {st m : St} {ver : Nat} {x y z b a e : Int} {env : Env} (h0 : env 0 = .ptr st.length 0) (h1 : env 1 = .iface 113 (.agg [iA b, iA a, iA e])) :
    wpC X v_catch env (st ++ (⟨[iA x, iA y, iA z], 0, ver⟩ :: m)) fun r _ s => r = .norm ∧ ∃ L, s = st ++ (⟨[iA b, iA a, iA e], 0, ver + 1⟩ :: (m ++ L)) := by
  refine xC_ok ?_
  simp only [v_catch, h0, h1, kZ, kB, kC, cellsOf, fillA, partsEv, zeroes, Nat.reduceSub, Int.reduceToNat, Nat.reduceMul, asInt?, asNat?, Int.reduceAdd, Int.reduceLE, Int.reduceLT, Int.reduceNeg, Nat.reduceLeDiff, VOpd.ev, Nat.reduceEqDiff, Nat.reduceAdd, reduceIte, reduceCtorEq, splice, resOf, tupOf, cellsV, AV.toV, AV.cell?, cellVal]
  exact ⟨_, rfl⟩
theorem callable_find : Callable Go.Proofs.Tryd.prog 68 := ⟨Go.Proofs.Tryd.f68, by kernel_rfl, by kernel_rfl, by kernel_rfl⟩
/-- The closure, while a fault is on its way. -/
theorem catch_panicking {n0 : Nat} {wi : World} {K : KM} {st m : St} {w : World} {ver : Nat} {x y z b a e : Int} {pv fv : Value} (hW : WRel n0 wi [0] K (st ++ (⟨[iA x, iA y, iA z], 0, ver⟩ :: m)) w) (hn : n0 ≤ wi.heap.size)
    (hp : VRel K (.ptr st.length 0) pv) (hf : VRel K (.iface 113 (.agg [iA b, iA a, iA e])) fv) (older : List PanicEntry) :
    CallsD Go.Proofs.Tryd.prog 79 #[pv] (.panicking ({ v := fv, recovered := false } :: older)) w fun en u' w' =>
      en = .returned (.tuple #[]) ∧ u' = .panicking ({ v := fv, recovered := true } :: older) ∧ ∃ K' L, WRel n0 wi [0] K' (st ++ (⟨[iA b, iA a, iA e], 0, ver + 1⟩ :: (m ++ L))) w' ∧ KM.le K K' := by
  obtain ⟨kb, hkb, rfl⟩ := ptr_inv hp
  obtain ⟨fv', rfl⟩ : ∃ v', fv = .iface 113 v' := by cases hf; exact ⟨_, rfl⟩
  refine callsD_of_wpS Go.Proofs.Tryd.func79 rfl fun c₀ cs hu => ?_
  apply wpS_seq
  apply wpS_region
  simp [wpOpsS, go_sem, recoverD, hu, Go.Proofs.Tryd.ntmps79, Exit.thenS]
  apply wpS_seq
  apply wpS_region
  simp [wpOpsS, go_sem, Exit.thenS]
  refine wpS_cond (t := true) (by simp [Act.eval, Array.replicate]) ?_
  simp only [if_true]
  refine wpS_of_wp ?_
  let X : Cx := ⟨Go.Proofs.Tryd.prog, fun _ => none, fun _ _ _ _ _ => False⟩
  let env : Env := ((((envOf [.ptr st.length 0]).put (some 4) (.iface 113 (.agg [iA b, iA a, iA e]))).put (some 1) (.iface 113 (.agg [iA b, iA a, iA e]))).put (some 5) (.iface 113 (.agg [iA b, iA a, iA e]))).put (some 6) (.sc (.bool true))
  obtain ⟨r, env', s, j, rfl, L, rfl⟩ := j_catch (X := X) (st := st) (m := m) (ver := ver) (x := x) (y := y) (z := z) (b := b) (a := a) (e := e) (env := env) rfl rfl
  have S := (sound (P := Go.Proofs.Tryd.prog) (gl := [0]) (by kernel_rfl) (fun _ _ h => by cases h) (fun _ _ _ _ _ h => h.elim) (fun _ _ _ _ _ h => h.elim) j).1
  refine S _ _ p_catch n0 wi K w _ _ hW hn ?_ ?_ ?_
  · simp [Go.Proofs.Tryd.ntmps79]
  · have h0 := env_start (K := K) (args := [.ptr st.length 0]) (.cons hp .nil) 15
    have h1 := put_rel (a := ⟨_, []⟩) h0.but (dst := some 4) (fun d h => by cases h; simp) hf
    have h2 := put_rel h1 (dst := some 1) (fun d h => by cases h; simp [Act.put]) hf
    have h3 := put_rel h2 (dst := some 5) (fun d h => by cases h; simp [Act.put]) hf
    have h4 := put_rel h3 (dst := some 6) (fun d h => by cases h; simp [Act.put]) (VRel.sc (v := .bool true) rfl)
    have h5 := h4.all
    simpa [Act.put] using h5
  · intro K' a' w' en hW' hfr hd hs he hx
    cases hx
    refine ⟨by simpa using hd, _, rfl, ?_⟩
    refine ⟨.tuple #[], by simp [results, Go.Proofs.Tryd.results79, go_sem], rfl, rfl, K', ⟨L, hW'⟩, hfr.le⟩
/-- The closure, where nothing is on its way. -/
theorem catch_idle (p : Value) (w : World) :
    CallsD Go.Proofs.Tryd.prog 79 #[p] .returning w fun e u' w' => e = .returned (.tuple #[]) ∧ u' = .returning ∧ w' = w := by
  refine callsD_of_wpS Go.Proofs.Tryd.func79 rfl fun c₀ cs hu => ?_
  apply wpS_seq
  apply wpS_region
  simp [wpOpsS, go_sem, recoverD, hu, Go.Proofs.Tryd.ntmps79, Exit.thenS]
  apply wpS_seq
  apply wpS_region
  simp [wpOpsS, go_sem, Exit.thenS]
  refine wpS_cond (t := false) (by simp [Act.eval, Array.replicate]) ?_
  simp only [Bool.false_eq_true, if_false]
  refine wpS_of_wp (wp_skip ?_)
  cases c₀
  simp_all [bodyPostS, results, Go.Proofs.Tryd.results79]
end Seat
end Go.VX
end
section
set_option linter.unusedVariables false
set_option linter.unusedSimpArgs false
/-! The function that recovers: code.find, as a whole. -/
namespace Go.VX.Seat
open Go.Proofs
open Go.RowKit (Below)
theorem find_isop (r : Nat) {ops : Array Oper} (o : VOper) {q : Oper} (h1 : ops[o.idx]? = some q) (h2 : q.dst = o.dst) (h3 : ∀ d, o.dst = some d → d < 9) (h4 : prepOp Go.Proofs.Tryd.prog [0] q.type q.op = some o.op) (h5 : pGuard ops q.guard = some o.guard) :
    IsOp Go.Proofs.Tryd.prog [0] 9 ops o q := ⟨h1, h2, h3, h4, h5⟩
theorem find_result {n0 : Nat} {wi : World} {K : KM} {st m : St} {w : World} {B : Box} {ver : Nat} {x y z : Int} {tmps : Array Value} (hW : WRel n0 wi [0] K (st ++ (B :: ⟨[iA x, iA y, iA z], 0, ver⟩ :: m)) w) (h2 : VRel K (.ptr (st.length + 1) 0) (tmps.getD 2 undef)) :
    ∃ v, (results Go.Proofs.Tryd.f68 tmps).run Go.Proofs.Tryd.prog w = .ok v w ∧ VRel K (.agg [iA x, iA y, iA z]) v := by
  obtain ⟨kb, hkb, hval⟩ := ptr_inv h2
  have hs : ((tiOf Go.Proofs.Tryd.prog 113).bind TI.agg?) = some 3 := by kernel_rfl
  obtain ⟨ti, hti, hag⟩ := Option.bind_eq_some_iff.1 hs
  obtain ⟨v', hrun, hrel⟩ := run_loadVar hW hti hkb (o := 0) (v := .agg [iA x, iA y, iA z]) (by
    rw [hag]
    simp only [kZ, kB, kC, cellsOf, fillA, partsEv, zeroes, Nat.reduceSub, Int.reduceToNat, Nat.reduceMul, asInt?, asNat?, Int.reduceAdd, Int.reduceLE, Int.reduceLT, Int.reduceNeg, Nat.reduceLeDiff, VOpd.ev, Nat.reduceEqDiff, Nat.reduceAdd, reduceIte, reduceCtorEq, splice, resOf, tupOf, cellsV, AV.toV, AV.cell?, cellVal])
  refine ⟨v', ?_, hrel⟩
  have : (Go.Proofs.Tryd.f68.results.toList.mapM (readRes tmps)).run Go.Proofs.Tryd.prog w = .ok [v'] w := by
    rw [show Go.Proofs.Tryd.f68.results.toList = [.cell 2 113] from rfl, List.mapM_cons]
    rw [run_bind _ _ w (a := v') (w' := w) (by
      simp only [readRes, hval]
      rw [run_bind _ _ w (a := ⟨kb.rb, kb.ro + 0, none⟩) (w' := w) rfl]
      exact hrun)]
    rfl
  exact results_run this
theorem find_sound {st m : St} {cs : List AV} {b a e : Int} {cr : CRes} (hcs : cs.length = 6)
    (hcr : (cr = .ret (.tup []) ∧ b = 0 ∧ a = 0 ∧ e = 0) ∨ cr = .pan (.iface 113 (.agg [iA b, iA a, iA e])))
    (hcall : Callable Go.Proofs.Tryd.prog 80)
    (hu : SoundCall Go.Proofs.Tryd.prog [0] 80 [.ptr (st.length + 2) 0] (st ++ ([⟨cs, 0, 0⟩, ⟨[iA 0, iA 0, iA 0], 0, 0⟩, ⟨cs ++ [iA 0, iA 0], 0, 0⟩] : St)) cr (st ++ (⟨cs, 0, 0⟩ :: ⟨[iA 0, iA 0, iA 0], 0, 0⟩ :: m : St))) :
    SoundCall Go.Proofs.Tryd.prog [0] 68 [.agg cs] st (.ret (.agg [iA b, iA a, iA e])) st := by
  obtain ⟨c0, c1, c2, c3, c4, c5, rfl⟩ : ∃ c0 c1 c2 c3 c4 c5, cs = [c0, c1, c2, c3, c4, c5] := by
    match cs, hcs with
    | [c0, c1, c2, c3, c4, c5], _ => exact ⟨c0, c1, c2, c3, c4, c5, rfl⟩
  intro n0 wi K w args' hW hn hargs
  refine calls_of_wp_defers Go.Proofs.Tryd.func68 rfl ?_
  refine wp_seq (wp_region ?_)
  have hv0 : vop Go.Proofs.Tryd.prog (.box (.tmp 0)) (envOf [.agg [c0, c1, c2, c3, c4, c5]]) st = some (.val (.ptr st.length 0), st ++ [⟨[c0, c1, c2, c3, c4, c5], 0, 0⟩]) := rfl
  refine pre_now (nt := 9) (o := ⟨0, some 1, .box (.tmp 0), none, []⟩) (find_isop 0 _ rfl rfl (fun d h => by cases h; decide) (by kernel_rfl) rfl) rfl hv0 (.inl rfl) hW hn ?_ (env_start hargs _) fun K1 w1 a1 hW1 hf1 hd1 hs1 he1 => ?_
  · simp only [Go.Proofs.Tryd.ntmps68, Array.size_append, Array.size_replicate, List.size_toArray]; omega
  have hv1 : vop Go.Proofs.Tryd.prog (.alloc [.int .i64 0, .int .i64 0, .int .i64 0]) ((envOf [.agg [c0, c1, c2, c3, c4, c5]]).put (some 1) (.ptr st.length 0)) (st ++ [⟨[c0, c1, c2, c3, c4, c5], 0, 0⟩]) = some (.val (.ptr (st.length + 1) 0), st ++ ([⟨[c0, c1, c2, c3, c4, c5], 0, 0⟩, ⟨[iA 0, iA 0, iA 0], 0, 0⟩] : St)) := by
    simp only [v_alloc, List.length_append, List.length_cons, List.length_nil, List.append_assoc, List.cons_append, List.nil_append, List.map_cons, List.map_nil]
  refine pre_now (nt := 9) (o := ⟨1, some 2, .alloc [.int .i64 0, .int .i64 0, .int .i64 0], none, []⟩) (find_isop 0 _ rfl rfl (fun d h => by cases h; decide) (by kernel_rfl) rfl) rfl hv1 (.inl rfl) hW1 hn hs1 he1 fun K2 w2 a2 hW2 hf2 hd2 hs2 he2 => ?_
  have hd2' : a2.defers = [] := by rw [hd2, hd1]
  clear hd1 hd2 hs1 he1 hW1
  refine wp_seq (wp_region ?_)
  have hv2 : vop Go.Proofs.Tryd.prog (.mkfn 79 [] [.tmp 2]) (((envOf [.agg [c0, c1, c2, c3, c4, c5]]).put (some 1) (.ptr st.length 0)).put (some 2) (.ptr (st.length + 1) 0)) (st ++ ([⟨[c0, c1, c2, c3, c4, c5], 0, 0⟩, ⟨[iA 0, iA 0, iA 0], 0, 0⟩] : St)) = some (.val (.fn 79 [] [.ptr (st.length + 1) 0]), st ++ ([⟨[c0, c1, c2, c3, c4, c5], 0, 0⟩, ⟨[iA 0, iA 0, iA 0], 0, 0⟩] : St)) := rfl
  refine pre_now (nt := 9) (o := ⟨0, some 3, .mkfn 79 [] [.tmp 2], none, []⟩) (find_isop 0 _ rfl rfl (fun d h => by cases h; decide) (by kernel_rfl) rfl) rfl hv2 (.inl rfl) hW2 hn hs2 he2 fun K3 w3 a3 hW3 hf3 hd3 hs3 he3 => ?_
  rw [hd2'] at hd3
  have h3 := he3 3
  have h2 := he3 2
  obtain ⟨kb, hkb, hp2⟩ := ptr_inv (show VRel K3 (.ptr (st.length + 1) 0) (a3.tmps.getD 2 undef) from h2)
  have h3' : a3.tmps.getD 3 undef = .func (.func 79) #[] #[.pointer (some ⟨kb.rb, kb.ro + 0, none⟩)] := by
    have h3 : VRel K3 (.fn 79 [] [.ptr (st.length + 1) 0]) (a3.tmps.getD 3 undef) := h3
    generalize a3.tmps.getD 3 undef = z at h3
    cases h3 with
    | fn x y =>
      cases x
      cases y with
      | cons y1 y2 =>
        cases y2
        obtain ⟨kb', hkb', rfl⟩ := ptr_inv y1
        rw [hkb] at hkb'
        cases hkb'
        rfl
  refine wpOps_step (r := ⟨none, .defer { callee := .value (.tmp 3), args := #[], argTypes := #[] }, 0, "code.go:139", #[{ on := 0, ground := .data }], none⟩) rfl ?_
  rw [if_pos (by rfl)]
  have hrun : (execOp a3.eval ⟨none, .defer { callee := .value (.tmp 3), args := #[], argTypes := #[] }, 0, "code.go:139", #[{ on := 0, ground := .data }], none⟩).run Go.Proofs.Tryd.prog w3 = .ok (.defer { target := .fn (.func 79) #[.pointer (some ⟨kb.rb, kb.ro + 0, none⟩)], args := #[] }) w3 := by
    simp [go_sem, Act.eval, h3']
  unfold Oper.wp
  rw [hrun]
  simp only [Oper.upon, wpOps, Act.put, hd3, Exit.then]
  clear hrun h3 h3' h2
  refine wp_seq (wp_region ?_)
  obtain ⟨env3, henv3⟩ : ∃ e, e = (((envOf [.agg [c0, c1, c2, c3, c4, c5]]).put (some 1) (.ptr st.length 0)).put (some 2) (.ptr (st.length + 1) 0)).put (some 3) (.fn 79 [] [.ptr (st.length + 1) 0]) := ⟨_, rfl⟩
  have he3 : EnvRel K3 env3 a3.tmps := by rw [henv3]; exact he3
  have hv4 : vop Go.Proofs.Tryd.prog (.load (some 6) (.tmp 1)) env3 (st ++ ([⟨[c0, c1, c2, c3, c4, c5], 0, 0⟩, ⟨[iA 0, iA 0, iA 0], 0, 0⟩] : St)) = some (.val (.agg [c0, c1, c2, c3, c4, c5]), st ++ ([⟨[c0, c1, c2, c3, c4, c5], 0, 0⟩, ⟨[iA 0, iA 0, iA 0], 0, 0⟩] : St)) := by
    subst henv3
    simp only [kZ, kB, kC, cellsOf, fillA, partsEv, zeroes, Nat.reduceSub, Int.reduceToNat, Nat.reduceMul, asInt?, asNat?, Int.reduceAdd, Int.reduceLE, Int.reduceLT, Int.reduceNeg, Nat.reduceLeDiff, VOpd.ev, Nat.reduceEqDiff, Nat.reduceAdd, reduceIte, reduceCtorEq, splice, resOf, tupOf, cellsV, AV.toV, AV.cell?, cellVal]
  refine pre_now (a := { a3 with defers := _ }) (nt := 9) (o := ⟨0, some 4, .load (some 6) (.tmp 1), none, []⟩) (find_isop 0 _ rfl rfl (fun d h => by cases h; decide) (by kernel_rfl) rfl) rfl hv4 (.inl rfl) hW3 hn hs3 he3 fun K4 w4 a4 hW4 hf4 hd4 hs4 he4 => ?_
  obtain ⟨env4, henv4⟩ : ∃ e, e = env3.put (some 4) (.agg [c0, c1, c2, c3, c4, c5]) := ⟨_, rfl⟩
  have he4 : EnvRel K4 env4 a4.tmps := by rw [henv4]; exact he4
  have hv5 : vop Go.Proofs.Tryd.prog (.build [.slice none 0 0, .int .i64 0, .int .i64 0, .int .i64 0, .int .i64 0, .slice none 0 0, .int .i64 0, .int .i64 0] [(0, 6, .tmp 4)]) env4 (st ++ ([⟨[c0, c1, c2, c3, c4, c5], 0, 0⟩, ⟨[iA 0, iA 0, iA 0], 0, 0⟩] : St)) = some (.val (.agg [c0, c1, c2, c3, c4, c5, iA 0, iA 0]), st ++ ([⟨[c0, c1, c2, c3, c4, c5], 0, 0⟩, ⟨[iA 0, iA 0, iA 0], 0, 0⟩] : St)) := by
    subst henv4
    simp only [kZ, kB, kC, cellsOf, fillA, partsEv, zeroes, Nat.reduceSub, Int.reduceToNat, Nat.reduceMul, asInt?, asNat?, Int.reduceAdd, Int.reduceLE, Int.reduceLT, Int.reduceNeg, Nat.reduceLeDiff, VOpd.ev, Nat.reduceEqDiff, Nat.reduceAdd, reduceIte, reduceCtorEq, splice, resOf, tupOf, cellsV, AV.toV, AV.cell?, cellVal]
  refine pre_now (nt := 9) (o := ⟨1, some 5, .build [.slice none 0 0, .int .i64 0, .int .i64 0, .int .i64 0, .int .i64 0, .slice none 0 0, .int .i64 0, .int .i64 0] [(0, 6, .tmp 4)], none, []⟩) (find_isop 0 _ rfl rfl (fun d h => by cases h; decide) (by kernel_rfl) rfl) rfl hv5 (.inl rfl) hW4 hn hs4 he4 fun K5 w5 a5 hW5 hf5 hd5 hs5 he5 => ?_
  have hv6 : vop Go.Proofs.Tryd.prog (.box (.tmp 5)) (env4.put (some 5) (.agg [c0, c1, c2, c3, c4, c5, iA 0, iA 0])) (st ++ ([⟨[c0, c1, c2, c3, c4, c5], 0, 0⟩, ⟨[iA 0, iA 0, iA 0], 0, 0⟩] : St)) = some (.val (.ptr (st.length + 2) 0), st ++ ([⟨[c0, c1, c2, c3, c4, c5], 0, 0⟩, ⟨[iA 0, iA 0, iA 0], 0, 0⟩, ⟨[c0, c1, c2, c3, c4, c5, iA 0, iA 0], 0, 0⟩] : St)) := by
    simp only [kZ, kB, kC, cellsOf, fillA, partsEv, zeroes, Nat.reduceSub, Int.reduceToNat, Nat.reduceMul, asInt?, asNat?, Int.reduceAdd, Int.reduceLE, Int.reduceLT, Int.reduceNeg, Nat.reduceLeDiff, VOpd.ev, Nat.reduceEqDiff, Nat.reduceAdd, reduceIte, reduceCtorEq, splice, resOf, tupOf, cellsV, AV.toV, AV.cell?, cellVal]
  refine pre_now (nt := 9) (o := ⟨2, some 6, .box (.tmp 5), none, []⟩) (find_isop 0 _ rfl rfl (fun d h => by cases h; decide) (by kernel_rfl) rfl) rfl hv6 (.inl rfl) hW5 hn hs5 he5 fun K6 w6 a6 hW6 hf6 hd6 hs6 he6 => ?_
  have hd6' : a6.defers = [{ target := .fn (.func 79) #[.pointer (some ⟨kb.rb, kb.ro + 0, none⟩)], args := #[] }] := by rw [hd6, hd5, hd4]
  have hp2' : ∀ K' : KM, KM.le K3 K' → VRel K' (.ptr (st.length + 1) 0) (.pointer (some ⟨kb.rb, kb.ro + 0, none⟩)) := fun K' hk => VRel.ptr (hk _ _ hkb)
  have hk36 : KM.le K3 K6 := KM.le_trans hf4.le (KM.le_trans hf5.le hf6.le)
  have hK3 : KM.le K K3 := KM.le_trans hf1.le (KM.le_trans hf2.le hf3.le)
  obtain ⟨env6, henv6⟩ : ∃ e, e = (env4.put (some 5) (.agg [c0, c1, c2, c3, c4, c5, iA 0, iA 0])).put (some 6) (.ptr (st.length + 2) 0) := ⟨_, rfl⟩
  have he6 : EnvRel K6 env6 a6.tmps := by rw [henv6]; exact he6
  have q6 : env6 6 = .ptr (st.length + 2) 0 := by rw [henv6]; rfl
  have q2 : env6 2 = .ptr (st.length + 1) 0 := by rw [henv6, henv4, henv3]; rfl
  clear hd4 hd5 hd6 hs4 hs5 he4 he5 hW4 hW5 hv4 hv5 hv6 hW3 hW2
  have hv7 : vop Go.Proofs.Tryd.prog (.call 80 [.tmp 6]) env6 (st ++ ([⟨[c0, c1, c2, c3, c4, c5], 0, 0⟩, ⟨[iA 0, iA 0, iA 0], 0, 0⟩, ⟨[c0, c1, c2, c3, c4, c5, iA 0, iA 0], 0, 0⟩] : St)) = some (.call 80 [.ptr (st.length + 2) 0], st ++ ([⟨[c0, c1, c2, c3, c4, c5], 0, 0⟩, ⟨[iA 0, iA 0, iA 0], 0, 0⟩, ⟨[c0, c1, c2, c3, c4, c5, iA 0, iA 0], 0, 0⟩] : St)) := by
    simp only [q6, kZ, kB, kC, cellsOf, fillA, partsEv, zeroes, Nat.reduceSub, Int.reduceToNat, Nat.reduceMul, asInt?, asNat?, Int.reduceAdd, Int.reduceLE, Int.reduceLT, Int.reduceNeg, Nat.reduceLeDiff, VOpd.ev, Nat.reduceEqDiff, Nat.reduceAdd, reduceIte, reduceCtorEq, splice, resOf, tupOf, cellsV, AV.toV, AV.cell?, cellVal]
  refine pre_call (nt := 9) (o := ⟨3, some 7, .call 80 [.tmp 6], none, []⟩) (find_isop 0 _ rfl rfl (fun d h => by cases h; decide) (by kernel_rfl) rfl) rfl hv7 hcall hu hW6 hn hs6 he6 ?_ ?_
  · intro K7 w7 a7 v v' hcrv hW7 hf7 hd7 hs7 hv' he7
    obtain ⟨rfl, rfl, rfl⟩ : b = 0 ∧ a = 0 ∧ e = 0 := by
      rcases hcr with ⟨_, h⟩ | h
      · exact h
      · rw [h] at hcrv; cases hcrv
    have hv8 : vop Go.Proofs.Tryd.prog (.build [.int .i64 0, .int .i64 0, .int .i64 0] []) (env6.put (some 7) v) (st ++ (⟨[c0, c1, c2, c3, c4, c5], 0, 0⟩ :: ⟨[iA 0, iA 0, iA 0], 0, 0⟩ :: m : St)) = some (.val (.agg [iA 0, iA 0, iA 0]), st ++ (⟨[c0, c1, c2, c3, c4, c5], 0, 0⟩ :: ⟨[iA 0, iA 0, iA 0], 0, 0⟩ :: m : St)) := by
      simp only [kZ, kB, kC, cellsOf, fillA, partsEv, zeroes, Nat.reduceSub, Int.reduceToNat, Nat.reduceMul, asInt?, asNat?, Int.reduceAdd, Int.reduceLE, Int.reduceLT, Int.reduceNeg, Nat.reduceLeDiff, VOpd.ev, Nat.reduceEqDiff, Nat.reduceAdd, reduceIte, reduceCtorEq, splice, resOf, tupOf, cellsV, AV.toV, AV.cell?, cellVal]
    refine wp_seq (wp_region ?_)
    refine pre_now (nt := 9) (o := ⟨0, some 8, .build [.int .i64 0, .int .i64 0, .int .i64 0] [], none, []⟩) (find_isop 0 _ rfl rfl (fun d h => by cases h; decide) (by kernel_rfl) rfl) rfl hv8 (.inl rfl) hW7 hn hs7 he7 fun K8 w8 a8 hW8 hf8 hd8 hs8 he8 => ?_
    have hv9 : vop Go.Proofs.Tryd.prog (.store 3 (.tmp 2) (.tmp 8)) ((env6.put (some 7) v).put (some 8) (.agg [iA 0, iA 0, iA 0])) (st ++ (⟨[c0, c1, c2, c3, c4, c5], 0, 0⟩ :: ⟨[iA 0, iA 0, iA 0], 0, 0⟩ :: m : St)) = some (.skip, st ++ (⟨[c0, c1, c2, c3, c4, c5], 0, 0⟩ :: ⟨[iA 0, iA 0, iA 0], 0, 1⟩ :: m : St)) := by
      simp only [q2, kZ, kB, kC, cellsOf, fillA, partsEv, zeroes, Nat.reduceSub, Int.reduceToNat, Nat.reduceMul, asInt?, asNat?, Int.reduceAdd, Int.reduceLE, Int.reduceLT, Int.reduceNeg, Nat.reduceLeDiff, VOpd.ev, Nat.reduceEqDiff, Nat.reduceAdd, reduceIte, reduceCtorEq, splice, resOf, tupOf, cellsV, AV.toV, AV.cell?, cellVal]
    refine pre_now (nt := 9) (o := ⟨1, none, .store 3 (.tmp 2) (.tmp 8), none, []⟩) (find_isop 0 _ rfl rfl (fun d h => by cases h) (by kernel_rfl) rfl) rfl hv9 (.inr ⟨rfl, rfl⟩) hW8 hn hs8 he8 fun K9 w9 a9 hW9 hf9 hd9 hs9 he9 => ?_
    refine wp_ret ?_
    show Leaves _ _ _ _ a9.defers .returning w9
    rw [hd9, hd8, hd7, hd6']
    refine leaves_cons (f := 79) (args := #[.pointer (some ⟨kb.rb, kb.ro + 0, none⟩)]) (by simp) (by simp [go_sem]) ?_
    refine (catch_idle _ _).mono ?_
    rintro e u' w'' ⟨rfl, rfl, rfl⟩
    have h2 : VRel K9 (.ptr (st.length + 1) 0) (a9.tmps.getD 2 undef) := by
      have := he9 2
      simpa only [q2, kZ, kB, kC, cellsOf, fillA, partsEv, zeroes, Nat.reduceSub, Int.reduceToNat, Nat.reduceMul, asInt?, asNat?, Int.reduceAdd, Int.reduceLE, Int.reduceLT, Int.reduceNeg, Nat.reduceLeDiff, VOpd.ev, Nat.reduceEqDiff, Nat.reduceAdd, reduceIte, reduceCtorEq, splice, resOf, tupOf, cellsV, AV.toV, AV.cell?, cellVal] using this
    obtain ⟨fv, hfr, hfv⟩ := find_result hW9 h2
    have hk9 : KM.le K K9 := KM.le_trans hK3 (KM.le_trans hk36 (KM.le_trans hf7.le (KM.le_trans hf8.le hf9.le)))
    exact ⟨fv, hfr, K, hW.back hW9 hk9, Fr.refl K st, fv, rfl, hfv.flat rfl⟩
  · intro K7 w7 v v' hcrv hW7 hf7 hv' he7
    obtain rfl : v = .iface 113 (.agg [iA b, iA a, iA e]) := by
      rcases hcr with ⟨h, _⟩ | h
      · rw [h] at hcrv; cases hcrv
      · rw [h] at hcrv; cases hcrv; rfl
    show Leaves _ _ _ _ a6.defers (.panicking _) w7
    rw [hd6']
    refine leaves_cons (f := 79) (args := #[.pointer (some ⟨kb.rb, kb.ro + 0, none⟩)]) (by simp) (by simp [go_sem]) ?_
    have hW7' : WRel n0 wi [0] K7 ((st ++ [⟨[c0, c1, c2, c3, c4, c5], 0, 0⟩]) ++ (⟨[iA 0, iA 0, iA 0], 0, 0⟩ :: m)) w7 := by
      rw [List.append_assoc]; exact hW7
    refine (catch_panicking hW7' hn (by rw [List.length_append]; exact hp2' K7 (KM.le_trans hk36 hf7.le)) hv' []).mono ?_
    rintro en u' w'' ⟨rfl, rfl, K8, L, hW8, hk8⟩
    have h2 : VRel K8 (.ptr (st.length + 1) 0) (a6.tmps.getD 2 undef) := by
      have := (he7 2).mono hk8
      rw [q2] at this
      exact this
    rw [List.append_assoc] at hW8
    obtain ⟨fv, hfr, hfv⟩ := find_result hW8 h2
    have hk9 : KM.le K K8 := KM.le_trans hK3 (KM.le_trans hk36 (KM.le_trans hf7.le hk8))
    simp only [settle]
    exact ⟨fv, hfr, K, hW.back hW8 hk9, Fr.refl K st, fv, rfl, hfv.flat rfl⟩
end Go.VX.Seat
end
section
set_option linter.unusedVariables false
set_option linter.unusedSimpArgs false
set_option maxRecDepth 100000
/-! What the functions that are told of come to: code.find; and the law's own example, a closed call. -/
namespace Go.VX.Seat
open Go.Proofs
def noH : FuncId → List AV → St → CRes → St → Prop := fun _ _ _ _ _ => False
/-- What a check's end says: the block, the place, the error. -/
def faultOf : CRes → Option (Int × Int × Int)
  | .ret (.tup []) => some (0, 0, 0)
  | .pan (.iface t (.agg [.sc (.int .i64 b), .sc (.int .i64 a), .sc (.int .i64 e)])) => if t = 113 then some (b, a, e) else none
  | _ => none
def findSt (st : St) (cs : List AV) : St := st ++ ([⟨cs, 0, 0⟩, ⟨[iA 0, iA 0, iA 0], 0, 0⟩] : St)
/-- code.find, by the checker. -/
def HFind : FuncId → List AV → St → CRes → St → Prop := fun f args st r st' =>
  f = 68 ∧ ∃ cs cr m b a e, args = [.agg cs] ∧ cs.length = 6 ∧ faultOf cr = some (b, a, e) ∧ r = .ret (.agg [iA b, iA a, iA e]) ∧ st' = st ∧
    J Go.Proofs.Tryd.prog fnOf noH (.call 80 [.ptr (st.length + 2) 0] (st ++ ([⟨cs, 0, 0⟩, ⟨[iA 0, iA 0, iA 0], 0, 0⟩, ⟨cs ++ [iA 0, iA 0], 0, 0⟩] : St)) cr (st ++ (⟨cs, 0, 0⟩ :: ⟨[iA 0, iA 0, iA 0], 0, 0⟩ :: m : St)))
theorem mixed : Go.Proofs.Tryd.prog.follows .mixedOrders = true := by kernel_rfl
theorem hfind_sound {f : FuncId} {args : List AV} {st st' : St} {r : CRes} (h : HFind f args st r st') : SoundCall Go.Proofs.Tryd.prog [0] f args st r st' ∧ Callable Go.Proofs.Tryd.prog f := by
  obtain ⟨rfl, cs, cr, m, b, a, e, rfl, hcs, hcr, rfl, rfl, j⟩ := h
  have S := sound (P := Go.Proofs.Tryd.prog) (gl := [0]) mixed (fun f fn h => fn_ok f fn h) (fun _ _ _ _ _ h => h.elim) (fun _ _ _ _ _ h => h.elim) j
  refine ⟨find_sound hcs ?_ S.2 S.1, callable_find⟩
  unfold faultOf at hcr
  split at hcr
  · simp only [Option.some.injEq, Prod.mk.injEq] at hcr
    obtain ⟨rfl, rfl, rfl⟩ := hcr
    exact .inl ⟨rfl, rfl, rfl, rfl⟩
  · split at hcr
    · rename_i ht
      subst ht
      simp only [Option.some.injEq, Prod.mk.injEq] at hcr
      obtain ⟨rfl, rfl, rfl⟩ := hcr
      exact .inr rfl
    · cases hcr
  · cases hcr
theorem hfind_evo {f : FuncId} {args : List AV} {st st' : St} {r : CRes} (h : HFind f args st r st') : Evo st st' := by
  obtain ⟨rfl, cs, cr, m, b, a, e, rfl, hcs, hcr, rfl, rfl, j⟩ := h
  exact Evo.refl st'
/-- How closed runs take code.find. -/
noncomputable def evFind (n : Nat) (call : EvF) : EvF := fun f args st =>
  match Nat.beq f 68 with
  | true => match args with
    | [.agg cs] => match Nat.beq cs.length 6 with
      | true => match evF fnOf (evC Go.Proofs.Tryd.prog fnOf id n) 80 [.ptr (st.length + 2) 0] (st ++ ([⟨cs, 0, 0⟩, ⟨[iA 0, iA 0, iA 0], 0, 0⟩, ⟨cs ++ [iA 0, iA 0], 0, 0⟩] : St)) with
        | some (cr, st2) => match keepsB (findSt st cs) st2 with
          | true => match faultOf cr with
            | some (b, a, e) => some (.ret (.agg [iA b, iA a, iA e]), st)
            | none => none
          | false => none
        | none => none
      | false => none
    | _ => none
  | false => call f args st
theorem evFind_ok (n : Nat) {call : EvF} (hc : CallOk Go.Proofs.Tryd.prog fnOf HFind call) : CallOk Go.Proofs.Tryd.prog fnOf HFind (evFind n call) := by
  intro f args st r st' h
  unfold evFind at h
  split at h
  · rename_i hf
    have hf := Nat.eq_of_beq_eq_true hf
    subst hf
    split at h
    · rename_i cs
      split at h
      · rename_i h6
        have h6 := Nat.eq_of_beq_eq_true h6
        split at h
        · rename_i cr st2 hev
          split at h
          · rename_i hk
            split at h
            · rename_i b a e hft
              simp only [Option.some.injEq, Prod.mk.injEq] at h
              obtain ⟨rfl, rfl⟩ := h
              have j := evF_ok (P := Go.Proofs.Tryd.prog) (F := fnOf) (H := noH) (fun _ _ _ _ _ h => h.elim) (evC_ok (hk := id) (fun _ _ _ _ _ h => h.elim) (fun _ h => h) n) _ _ _ _ _ hev
              have he := J_evo (H := noH) (fun _ _ _ _ _ h => h.elim) j
              have hk2 := keepsB_ok hk (fun b x hx => by
                have hb := (List.getElem?_eq_some_iff.1 hx).1
                obtain ⟨y, h1, _, _, h4⟩ := he b x (by
                  rw [show (st ++ ([⟨cs, 0, 0⟩, ⟨[iA 0, iA 0, iA 0], 0, 0⟩, ⟨cs ++ [iA 0, iA 0], 0, 0⟩] : St)) = findSt st cs ++ [⟨cs ++ [iA 0, iA 0], 0, 0⟩] by simp [findSt]]
                  rw [List.getElem?_append_left hb]
                  exact hx)
                exact ⟨y, h1, h4⟩)
              refine .hook ⟨rfl, cs, cr, st2.drop (findSt st cs).length, b, a, e, rfl, h6, hft, rfl, rfl, ?_⟩
              rw [show (st ++ (⟨cs, 0, 0⟩ :: ⟨[iA 0, iA 0, iA 0], 0, 0⟩ :: st2.drop (findSt st cs).length : St)) = findSt st cs ++ st2.drop (findSt st cs).length by simp [findSt], ← hk2]
              exact j
            · cases h
          · cases h
        · cases h
      · cases h
    · cases h
  · exact hc _ _ _ _ _ h
/-- A closed call, worked out. -/
noncomputable def runClosed (n : Nat) (f : FuncId) (st : St) : Option (CRes × St) := evF fnOf (evC Go.Proofs.Tryd.prog fnOf (evFind n) n) f [] st
theorem runClosed_ok {n : Nat} {f : FuncId} {st st' : St} {r : CRes} (h : runClosed n f st = some (r, st')) : J Go.Proofs.Tryd.prog fnOf HFind (.call f [] st r st') :=
  evF_ok (fun _ _ _ _ _ h => hfind_evo h) (evC_ok (hk := evFind n) (fun _ _ _ _ _ h => hfind_evo h) (fun _ h => evFind_ok n h) n) _ _ _ _ _ h
/-- The table of forms, as it lies in memory. -/
def formBox : Box := ⟨formCells, 1, 0⟩
end Go.VX.Seat
end
section
set_option linter.unusedVariables false
set_option linter.unusedSimpArgs false
set_option maxRecDepth 4000
/-! The program's own Check. -/
namespace Go.VX.Seat
open Go.Proofs
/-- The functions of the seat, and what is told of. -/
structure OnH (X : Cx) : Prop extends On X where
  find : ∀ f args st r st', HFind f args st r st' → X.H f args st r st'
  alive : ∀ st : St, st[0]? = some formBox → X.H 17 [] st (.ret (bA true)) st
/-- The table lies where it must. -/
def GB (st : St) : Prop := st[0]? = some formBox
theorem GB.app {st : St} (h : GB st) (L : St) : GB (st ++ L) := by
  unfold GB at *
  rw [List.getElem?_append_left (List.getElem?_eq_some_iff.1 h).1]; exact h
theorem GB.glob {st : St} (h : GB st) : GlobAt st := BoxAt.of (m := 1) (v := 0) h (by decide)
theorem opsFind_ne {U : UnitV} {i : Nat} : ∀ {l : List OpV} {k : Nat} {x : Int × Int × Int}, opsFind U i k l = some x → x.1 ≠ 0
  | [], _, _, h => by simp [opsFind] at h
  | o :: r, k, x, h => by
    unfold opsFind at h
    split at h
    · rename_i hd
      cases h
      exact of_decide_eq_true hd
    · exact opsFind_ne h
theorem blkFind_ne {U : UnitV} : ∀ {l : List BlkV} {i : Nat} {x : Int × Int × Int}, blkFind U i l = some x → x.1 ≠ 0
  | [], _, _, h => by simp [blkFind] at h
  | b :: r, i, x, h => by
    unfold blkFind at h
    split at h
    · cases h; simp
    · split at h
      · cases h; simp
      · split at h
        · rename_i y hy
          cases h
          exact opsFind_ne hy
        · split at h
          · rename_i hd
            cases h
            exact of_decide_eq_true hd
          · exact blkFind_ne h
theorem findU_zero {U : UnitV} (h : (findU U).1 = 0) : findU U = (0, 0, 0) := by
  revert h
  unfold findU
  split
  · intro h; simp at h
  · split
    · intro h; simp at h
    · split
      · intro h; simp at h
      · split
        · rename_i x hx
          intro h
          exact absurd h (blkFind_ne hx)
        · split
          · intro h; simp at h
          · intro _; rfl
theorem faultOf_outF (U : UnitV) : faultOf (outF (findU U)) = some ((findU U).2.1, (findU U).2.2, (findU U).1) := by
  unfold outF
  by_cases h : (findU U).1 = 0
  · rw [findU_zero h]; rfl
  · rw [outC_ne h]
    simp [faultOf]
section
variable {X : Cx} {st : St}
theorem j_code_find (h : OnH X) (hg : GB st) {lo hi : Nat} {v : AV} {U : UnitV} (hv : UnitAt st lo hi v U) :
    J X.P X.F X.H (.call 68 [v] st (.ret (.agg [iA (findU U).2.1, iA (findU U).2.2, iA (findU U).1])) st) := by
  obtain ⟨s, bl, rfl, hs, hb⟩ := hv
  have hh : On (⟨Go.Proofs.Tryd.prog, fnOf, noH⟩ : Cx) := ⟨rfl, rfl⟩
  obtain ⟨r, s', j, rfl, m, rfl⟩ := w_code_unit hh (st := st ++ ([⟨[s, iA U.params, iA U.regs, iA U.code, iA U.spill, bl], 0, 0⟩, ⟨[iA 0, iA 0, iA 0], 0, 0⟩] : St)) (hg.app _).glob (hs.mono _) (hb.mono _)
  refine .hook (h.find _ _ _ _ _ ⟨rfl, _, _, m, _, _, _, rfl, rfl, faultOf_outF U, rfl, rfl, ?_⟩)
  simpa using j
theorem j_code_Check (h : OnH X) (hg : GB st) {lo hi : Nat} {v : AV} {U : UnitV} (hv : UnitAt st lo hi v U) :
    J X.P X.F X.H (.call 43 [v] st (.ret (iA (chkU U))) st) := by
  refine pure_intro (by rw [h.F]; rfl) rfl ?_
  have hm := fun L => hv.mono L
  obtain ⟨s, bl, rfl, hs, hb⟩ := hv
  simp only [v_code_Check, kB, kZ, kD, fillA, partsEv, zeroes, Nat.reduceSub, Int.reduceToNat, Nat.reduceMul, asInt?, asNat?, Int.reduceAdd, Int.reduceLE, Int.reduceLT, Int.reduceNeg, Nat.reduceLeDiff, VOpd.ev, Nat.reduceEqDiff, Nat.reduceAdd, reduceIte, reduceCtorEq, splice, resOf, tupOf, cellsV, AV.toV, AV.cell?, cellVal]
  refine callO_same (j_code_find h (hg.app _) (hm _)) ?_
  simp only [kB, kZ, kD, fillA, partsEv, zeroes, Nat.reduceSub, Int.reduceToNat, Nat.reduceMul, asInt?, asNat?, Int.reduceAdd, Int.reduceLE, Int.reduceLT, Int.reduceNeg, Nat.reduceLeDiff, VOpd.ev, Nat.reduceEqDiff, Nat.reduceAdd, reduceIte, reduceCtorEq, splice, resOf, tupOf, cellsV, AV.toV, AV.cell?, cellVal]
  exact ⟨rfl, _, rfl⟩
/-- What look says. -/
def lookU (U : UnitV) (b : Int) : Int := thereU U true b
theorem j_trace_look (h : OnH X) (hg : GB st) {lo hi : Nat} {v : AV} {U : UnitV} (hv : UnitAt st lo hi v U) (b : Int) :
    J X.P X.F X.H (.call 39 [v, iA b] st (.ret (iA (thereU U true b))) st) := by
  refine pure_intro (by rw [h.F]; rfl) rfl ?_
  have hm := fun L => hv.mono L
  obtain ⟨s, bl, rfl, hs, hb⟩ := hv
  have l2 : lenA bl = some U.blocks.length := by
    obtain ⟨f, hb, _⟩ := hb
    have := hb.len
    simpa using this
  unfold thereU
  simp only [v_trace_look, kB, kZ, kD, fillA, partsEv, zeroes, Nat.reduceSub, Int.reduceToNat, Nat.reduceMul, asInt?, asNat?, Int.reduceAdd, Int.reduceLE, Int.reduceLT, Int.reduceNeg, Nat.reduceLeDiff, VOpd.ev, Nat.reduceEqDiff, Nat.reduceAdd, reduceIte, reduceCtorEq, splice, resOf, tupOf, cellsV, AV.toV, AV.cell?, cellVal]
  refine callO_same (j_code_Check h (hg.app _) (hm _)) ?_
  simp only [kB, kZ, kD, fillA, partsEv, zeroes, Nat.reduceSub, Int.reduceToNat, Nat.reduceMul, asInt?, asNat?, Int.reduceAdd, Int.reduceLE, Int.reduceLT, Int.reduceNeg, Nat.reduceLeDiff, VOpd.ev, Nat.reduceEqDiff, Nat.reduceAdd, reduceIte, reduceCtorEq, splice, resOf, tupOf, cellsV, AV.toV, AV.cell?, cellVal]
  refine condO_intro ?_ ?_ <;> intro hc
  · simp only [hc, kB, kZ, kD, fillA, partsEv, zeroes, Nat.reduceSub, Int.reduceToNat, Nat.reduceMul, asInt?, asNat?, Int.reduceAdd, Int.reduceLE, Int.reduceLT, Int.reduceNeg, Nat.reduceLeDiff, VOpd.ev, Nat.reduceEqDiff, Nat.reduceAdd, reduceIte, reduceCtorEq, splice, resOf, tupOf, cellsV, AV.toV, AV.cell?, cellVal]
    first | exact ⟨_, rfl⟩ | exact ⟨rfl, _, rfl⟩ | exact ⟨trivial, _, rfl⟩ | exact ⟨[], (List.append_nil _).symm⟩
  · simp only [hc, l2, kB, kZ, kD, fillA, partsEv, zeroes, Nat.reduceSub, Int.reduceToNat, Nat.reduceMul, asInt?, asNat?, Int.reduceAdd, Int.reduceLE, Int.reduceLT, Int.reduceNeg, Nat.reduceLeDiff, VOpd.ev, Nat.reduceEqDiff, Nat.reduceAdd, reduceIte, reduceCtorEq, splice, resOf, tupOf, cellsV, AV.toV, AV.cell?, cellVal]
    clear hm hs hb h
    repeat' (first | (refine gO_t ?_ ?_ <;> (intro hc; simp only [*, kB, kZ, kD, fillA, partsEv, zeroes, Nat.reduceSub, Int.reduceToNat, Nat.reduceMul, asInt?, asNat?, Int.reduceAdd, Int.reduceLE, Int.reduceLT, Int.reduceNeg, Nat.reduceLeDiff, VOpd.ev, Nat.reduceEqDiff, Nat.reduceAdd, reduceIte, reduceCtorEq, splice, resOf, tupOf, cellsV, AV.toV, AV.cell?, cellVal])) | (refine gO_f ?_ ?_ <;> (intro hc; simp only [*, kB, kZ, kD, fillA, partsEv, zeroes, Nat.reduceSub, Int.reduceToNat, Nat.reduceMul, asInt?, asNat?, Int.reduceAdd, Int.reduceLE, Int.reduceLT, Int.reduceNeg, Nat.reduceLeDiff, VOpd.ev, Nat.reduceEqDiff, Nat.reduceAdd, reduceIte, reduceCtorEq, splice, resOf, tupOf, cellsV, AV.toV, AV.cell?, cellVal])) | (refine condO_intro ?_ ?_ <;> (intro hc; simp only [*, kB, kZ, kD, fillA, partsEv, zeroes, Nat.reduceSub, Int.reduceToNat, Nat.reduceMul, asInt?, asNat?, Int.reduceAdd, Int.reduceLE, Int.reduceLT, Int.reduceNeg, Nat.reduceLeDiff, VOpd.ev, Nat.reduceEqDiff, Nat.reduceAdd, reduceIte, reduceCtorEq, splice, resOf, tupOf, cellsV, AV.toV, AV.cell?, cellVal])))
    all_goals first | exact ⟨_, rfl⟩ | exact ⟨rfl, _, rfl⟩ | exact ⟨trivial, _, rfl⟩ | exact ⟨[], (List.append_nil _).symm⟩
end
end Go.VX.Seat
end
section
set_option linter.unusedVariables false
set_option linter.unusedSimpArgs false
set_option maxRecDepth 4000
/-! A unit behind a pointer; trace.extend. -/
namespace Go.VX.Seat
open Go.Proofs
/-- A box of the unit. -/
def UBox (sz bl : AV) (f : Nat → AV) (n b : Nat) : Prop := boxOf sz = some b ∨ boxOf bl = some b ∨ ∃ j, j < n ∧ boxOf (f j) = some b
theorem OwnB.agree' {X : Nat → Prop} {s s' : St} {lo : Nat} {bl : AV} {f : Nat → AV} {l : List BlkV} (h : OwnB s lo bl f l) (ha : Agree X s s') (hx : ∀ b, boxOf bl = some b → ¬ X b) (hx2 : ∀ j, j < l.length → ∀ b, boxOf (f j) = some b → ¬ X b) : OwnB s' lo bl f l where
  own := h.own.agree ha hx
  box := h.box.agree ha hx
  ops := fun i hi => (h.ops i hi).agree ha (hx2 i hi)
  sep1 := h.sep1
  sep2 := h.sep2
structure UPtr (s : St) (ub lo : Nat) (sz bl : AV) (f : Nat → AV) (U : UnitV) : Prop where
  box : ∃ ver, s[ub]? = some ⟨[sz, iA U.params, iA U.regs, iA U.code, iA U.spill, bl], 0, ver⟩
  sep : ¬ UBox sz bl f U.blocks.length ub
  z : OwnZ s lo sz bl f U.sizes U.blocks
  b : OwnB s lo bl f U.blocks
theorem UPtr.lt {s : St} {ub lo : Nat} {sz bl : AV} {f : Nat → AV} {U : UnitV} (h : UPtr s ub lo sz bl f U) : ub < s.length := let ⟨_, hb⟩ := h.box; (List.getElem?_eq_some_iff.1 hb).1
theorem UPtr.agree {X : Nat → Prop} {s s' : St} {ub lo : Nat} {sz bl : AV} {f : Nat → AV} {U : UnitV} (h : UPtr s ub lo sz bl f U) (ha : Agree X s s') (h1 : ¬ X ub) (h2 : ∀ b, UBox sz bl f U.blocks.length b → b < s.length → ¬ X b) : UPtr s' ub lo sz bl f U :=
  let ⟨ver, hb⟩ := h.box
  ⟨⟨ver, ha.box hb h1⟩, h.sep, ⟨h.z.own.agree ha fun b hb => h2 b (.inl hb) (h.z.own.bnd b hb).2, h.z.sep⟩, h.b.agree' ha (fun b hb => h2 b (.inr (.inl hb)) (h.b.own.bnd b hb).2) (fun j hj b hb => h2 b (.inr (.inr ⟨j, hj, hb⟩)) ((h.b.ops j hj).bnd b hb).2)⟩
theorem UPtr.regs {s : St} {ub lo : Nat} {sz bl : AV} {f : Nat → AV} {U : UnitV} (h : UPtr s ub lo sz bl f U) (r : Int) :
    ∃ s', s.put ub 2 [iA r] = some s' ∧ Agree (fun n => n = ub) s s' ∧ UPtr s' ub lo sz bl f { U with regs := r } := by
  obtain ⟨ver, hbx⟩ := h.box
  have hput := put_box (o := 2) (vs := [iA r]) hbx (by simp) rfl
  refine ⟨_, hput, Agree.set _ _ _, ⟨⟨ver + 1, by rw [List.getElem?_set_self (List.getElem?_eq_some_iff.1 hbx).1]; rfl⟩, h.sep, ⟨h.z.own.agree (Agree.set _ _ _) (fun b hb e => ?_), h.z.sep⟩, h.b.agree' (Agree.set _ _ _) (fun b hb e => ?_) (fun j hj b hb e => ?_)⟩⟩
  · exact h.sep (.inl (e ▸ hb))
  · exact h.sep (.inr (.inl (e ▸ hb)))
  · exact h.sep (.inr (.inr ⟨j, hj, e ▸ hb⟩))
/-- A block's operations are laid anew. -/
theorem UPtr.setops {s : St} {ub lo : Nat} {sz bl w : AV} {f : Nat → AV} {U : UnitV} (h : UPtr s ub lo sz bl f U) (i : Nat) (hi : i < U.blocks.length) (ops : List OpV)
    (hw : OwnS s lo w 7 (ops.map OpV.row)) (hwn : ∀ n, boxOf w = some n → ¬ UBox sz bl f U.blocks.length n ∧ n ≠ ub) :
    ∃ bb s2, boxOf bl = some bb ∧ elemA bl 6 (i : Int) = some (.ptr bb (i * 6)) ∧ s.put bb (i * 6 + 0) [w] = some s2 ∧ Agree (fun n => n = bb) s s2 ∧ UPtr s2 ub lo sz bl (fun j => if j = i then w else f j) { U with blocks := U.blocks.set i { U.blocks[i] with ops := ops } } := by
  obtain ⟨ver, hb⟩ := h.box
  obtain ⟨bb, s2, hbb, hel, hput, hag, hB2, hE2⟩ := own_setops h.b.own h.b.box i hi ops (isCell_len hw.arr.len)
  have hbu : bb ≠ ub := fun e => h.sep (by rw [← e]; exact .inr (.inl hbb))
  have hlen : ∀ (j : Nat), j < (U.blocks.set i { U.blocks[i] with ops := ops }).length → j < U.blocks.length := fun j hj => by simpa using hj
  have hboxj : ∀ j, j < U.blocks.length → ∀ n, boxOf (if j = i then w else f j) = some n → (j ≠ i ∧ boxOf (f j) = some n) ∨ (j = i ∧ boxOf w = some n) := fun j hj n hn => by
    by_cases hji : j = i
    · rw [if_pos hji] at hn
      exact .inr ⟨hji, hn⟩
    · rw [if_neg hji] at hn
      exact .inl ⟨hji, hn⟩
  refine ⟨bb, s2, hbb, hel, hput, hag, ⟨⟨ver, hag.box hb (fun e => hbu e.symm)⟩, fun hx => ?_, ⟨h.z.own.agree hag fun b hbz hx => (by subst hx; exact (h.z.sep _ hbz).1 hbb), fun b hbz => ⟨(h.z.sep b hbz).1, fun j hj hjb => ?_⟩⟩, ⟨hB2, hE2, fun j hj => ?_, fun j hj b hbl hjb => ?_, fun j k hj hk hjk b hjb hkb => ?_⟩⟩⟩
  · rcases hx with hx | hx | ⟨j, hj, hx⟩
    · exact h.sep (.inl hx)
    · exact h.sep (.inr (.inl hx))
    · rcases hboxj j (hlen j hj) _ hx with ⟨_, h1⟩ | ⟨_, h1⟩
      · exact h.sep (.inr (.inr ⟨j, hlen j hj, h1⟩))
      · exact (hwn _ h1).2 rfl
  · rcases hboxj j (hlen j hj) b hjb with ⟨_, h1⟩ | ⟨_, h1⟩
    · exact (h.z.sep b hbz).2 j (hlen j hj) h1
    · exact (hwn b h1).1 (.inl hbz)
  · have hj' := hlen j hj
    simp only [List.getElem_set]
    by_cases hji : i = j
    · subst hji
      simp only [if_true]
      exact hw.agree hag fun b hb e => (hwn b hb).1 (.inr (.inl (by rw [e]; exact hbb)))
    · have hij : ¬ j = i := fun e => hji e.symm
      simp only [hji, hij, if_false]
      exact (h.b.ops j hj').agree hag fun b hb hx => (by subst hx; exact h.b.sep1 j hj' _ hbb hb)
  · rcases hboxj j (hlen j hj) b hjb with ⟨_, h1⟩ | ⟨_, h1⟩
    · exact h.b.sep1 j (hlen j hj) _ hbl h1
    · exact (hwn b h1).1 (.inr (.inl hbl))
  · have hj' := hlen j hj
    have hk' := hlen k hk
    rcases hboxj j hj' b hjb with ⟨h1, h1'⟩ | ⟨h1, h1'⟩ <;> rcases hboxj k hk' b hkb with ⟨h2, h2'⟩ | ⟨h2, h2'⟩
    · exact h.b.sep2 j k hj' hk' hjk b h1' h2'
    · exact (hwn b h2').1 (.inr (.inr ⟨j, hj', h1'⟩))
    · exact (hwn b h1').1 (.inr (.inr ⟨k, hk', h2'⟩))
    · omega
/-- A block's operations, appended to. -/
theorem UPtr.addops {X : Nat → Prop} {s s1 : St} {ub lo : Nat} {sz bl w : AV} {f : Nat → AV} {U : UnitV} (h : UPtr s ub lo sz bl f U) (i : Nat) (hi : i < U.blocks.length) (l2 : List OpV) (ha : Agree X s s1) (hX : ∀ n, n < s.length → X n → boxOf (f i) = some n)
    (hw : OwnS s1 lo w 7 ((U.blocks[i].ops ++ l2).map OpV.row)) (hwn : w = f i ∨ boxOf w = some s.length) :
    ∃ bb s2, boxOf bl = some bb ∧ elemA bl 6 (i : Int) = some (.ptr bb (i * 6)) ∧ s1.put bb (i * 6 + 0) [w] = some s2 ∧ Agree (fun n => X n ∨ n = bb) s s2 ∧ UPtr s2 ub lo sz bl (fun j => if j = i then w else f j) { U with blocks := U.blocks.set i { U.blocks[i] with ops := U.blocks[i].ops ++ l2 } } := by
  obtain ⟨ver, hb⟩ := h.box
  have hub := (List.getElem?_eq_some_iff.1 hb).1
  have hXub : ¬ X ub := fun hx => h.sep (.inr (.inr ⟨i, hi, hX ub hub hx⟩))
  have hbl1 : ∀ b, boxOf bl = some b → ¬ X b := fun b hb hx => h.b.sep1 i hi b hb (hX b (h.b.own.bnd b hb).2 hx)
  have hB1 := h.b.own.agree ha hbl1
  have hE1 := h.b.box.agree ha hbl1
  obtain ⟨bb, s2, hbb, hel, hput, hag, hB2, hE2⟩ := own_setops hB1 hE1 i hi (U.blocks[i].ops ++ l2) (isCell_len hw.arr.len)
  have hbb0 := h.b.own.bnd bb hbb
  have hbu : bb ≠ ub := fun e => h.sep (by rw [← e]; exact .inr (.inl hbb))
  have hwb : ∀ n, boxOf w = some n → boxOf (f i) = some n ∨ n = s.length := fun n hn => by
    rcases hwn with rfl | h1
    · exact .inl hn
    · rw [h1] at hn; cases hn; exact .inr rfl
  have hwbb : ∀ n, boxOf w = some n → n ≠ bb := fun n hn e => by
    subst e
    rcases hwb _ hn with h1 | h1
    · exact h.b.sep1 i hi _ hbb h1
    · omega
  have hlen : ∀ (j : Nat), j < (U.blocks.set i { U.blocks[i] with ops := U.blocks[i].ops ++ l2 }).length → j < U.blocks.length := fun j hj => by simpa using hj
  have hboxj : ∀ j, j < U.blocks.length → ∀ n, boxOf (if j = i then w else f j) = some n → boxOf (f j) = some n ∨ (j = i ∧ n = s.length) := fun j hj n hn => by
    by_cases hji : j = i
    · subst hji
      rw [if_pos rfl] at hn
      rcases hwb n hn with h1 | h1
      · exact .inl h1
      · exact .inr ⟨rfl, h1⟩
    · rw [if_neg hji] at hn
      exact .inl hn
  refine ⟨bb, s2, hbb, hel, hput, ha.trans hag, ⟨⟨ver, hag.box (ha.box hb hXub) (fun e => hbu e.symm)⟩, fun hx => ?_, ⟨?_, fun b hbz => ⟨(h.z.sep b hbz).1, fun j hj hjb => ?_⟩⟩, ⟨hB2, hE2, fun j hj => ?_, fun j hj b hbl hjb => ?_, fun j k hj hk hjk b hjb hkb => ?_⟩⟩⟩
  · rcases hx with hx | hx | ⟨j, hj, hx⟩
    · exact h.sep (.inl hx)
    · exact h.sep (.inr (.inl hx))
    · rcases hboxj j (hlen j hj) _ hx with h1 | ⟨_, h1⟩
      · exact h.sep (.inr (.inr ⟨j, hlen j hj, h1⟩))
      · omega
  · refine (h.z.own.agree ha fun b hbz hx => ?_).agree hag fun b hbz hx => ?_
    · exact (h.z.sep b hbz).2 i hi (hX b (h.z.own.bnd b hbz).2 hx)
    · subst hx; exact (h.z.sep _ hbz).1 hbb
  · rcases hboxj j (hlen j hj) b hjb with h1 | ⟨_, h1⟩
    · exact (h.z.sep b hbz).2 j (hlen j hj) h1
    · have := (h.z.own.bnd b hbz).2
      omega
  · have hj' := hlen j hj
    simp only [List.getElem_set]
    by_cases hji : i = j
    · subst hji
      simp only [if_true]
      exact hw.agree hag fun b hb => hwbb b hb
    · have hij : ¬ j = i := fun e => hji e.symm
      simp only [hji, hij, if_false]
      refine ((h.b.ops j hj').agree ha fun b hb hx => ?_).agree hag fun b hb hx => ?_
      · exact h.b.sep2 j i hj' hi (fun e => hji e.symm) b hb (hX b ((h.b.ops j hj').bnd b hb).2 hx)
      · subst hx; exact h.b.sep1 j hj' _ hbb hb
  · rw [hbb] at hbl
    cases hbl
    rcases hboxj j (hlen j hj) _ hjb with h1 | ⟨_, h1⟩
    · exact h.b.sep1 j (hlen j hj) _ hbb h1
    · omega
  · have hj' := hlen j hj
    have hk' := hlen k hk
    rcases hboxj j hj' b hjb with h1 | ⟨h1, h1'⟩ <;> rcases hboxj k hk' b hkb with h2 | ⟨h2, h2'⟩
    · exact h.b.sep2 j k hj' hk' hjk b h1 h2
    · have := ((h.b.ops j hj').bnd b h1).2
      omega
    · have := ((h.b.ops k hk').bnd b h2).2
      omega
    · omega
theorem UPtr.setend {s : St} {ub lo : Nat} {sz bl : AV} {f : Nat → AV} {U : UnitV} (h : UPtr s ub lo sz bl f U) (i : Nat) (hi : i < U.blocks.length) (e : EndV) :
    ∃ bb s2, boxOf bl = some bb ∧ elemA bl 6 (i : Int) = some (.ptr bb (i * 6)) ∧ s.put bb (i * 6 + 1) [iA e.k, iA e.a, iA e.t, iA e.e] = some s2 ∧ Agree (fun n => n = bb) s s2 ∧ UPtr s2 ub lo sz bl f { U with blocks := U.blocks.set i { U.blocks[i] with e := e } } := by
  obtain ⟨ver, hb⟩ := h.box
  obtain ⟨bb, s2, hbb, hel, hput, hag, hB2, hE2⟩ := own_setend h.b.own h.b.box i hi e
  have hbu : bb ≠ ub := fun e => h.sep (by rw [← e]; exact .inr (.inl hbb))
  have hlen : ∀ (j : Nat), j < (U.blocks.set i { U.blocks[i] with e := e }).length → j < U.blocks.length := fun j hj => by simpa using hj
  refine ⟨bb, s2, hbb, hel, hput, hag, ⟨⟨ver, hag.box hb (fun e => hbu e.symm)⟩, (by simpa using h.sep), ⟨?_, fun b hbz => ⟨(h.z.sep b hbz).1, fun j hj hjb => (h.z.sep b hbz).2 j (hlen j hj) hjb⟩⟩, ⟨hB2, hE2, fun j hj => ?_, fun j hj b hbl hjb => h.b.sep1 j (hlen j hj) b hbl hjb, fun j k hj hk hjk b hjb hkb => h.b.sep2 j k (hlen j hj) (hlen k hk) hjk b hjb hkb⟩⟩⟩
  · exact h.z.own.agree hag fun b hbz hx => (by subst hx; exact (h.z.sep _ hbz).1 hbb)
  · have hj' := hlen j hj
    have := (h.b.ops j hj').agree hag fun b hb hx => (by subst hx; exact h.b.sep1 j hj' _ hbb hb)
    simp only [List.getElem_set]
    by_cases hji : i = j
    · subst hji
      simpa using this
    · simpa [hji] using this
theorem UPtr.own {s : St} {ub lo : Nat} {sz bl : AV} {f : Nat → AV} {U : UnitV} (h : UPtr s ub lo sz bl f U) : OwnU s lo (.agg [sz, iA U.params, iA U.regs, iA U.code, iA U.spill, bl]) U := ⟨sz, bl, f, rfl, h.z, h.b⟩
end Go.VX.Seat
end
section
set_option linter.unusedVariables false
set_option linter.unusedSimpArgs false
set_option maxRecDepth 4000
/-! trace.extend. -/
namespace Go.VX.Seat
open Go.Proofs
def extOps (U : UnitV) (B : BlkV) (way : Int) : List OpV :=
  if way = 1 then [⟨1, U.regs, 0, 0, 0, 0, -1⟩, ⟨11, U.regs + 1, B.e.a, U.regs, 0, 0, -1⟩, ⟨21, 0, U.regs + 1, 0, 0, B.e.e, -1⟩] else if way = 2 then [⟨21, 0, B.e.a, 0, 0, B.e.t, -1⟩] else []
def ext1 (U : UnitV) (B : BlkV) : List OpV := [⟨1, U.regs, 0, 0, 0, 0, -1⟩, ⟨11, U.regs + 1, B.e.a, U.regs, 0, 0, -1⟩, ⟨21, 0, U.regs + 1, 0, 0, B.e.e, -1⟩]
def ext2 (B : BlkV) : List OpV := [⟨21, 0, B.e.a, 0, 0, B.e.t, -1⟩]
theorem extOps_one (U : UnitV) (B : BlkV) : extOps U B 1 = ext1 U B := rfl
theorem extOps_two (U : UnitV) (B : BlkV) : extOps U B 2 = ext2 B := rfl
theorem extOps_no (U : UnitV) (B : BlkV) (way : Int) (h1 : ¬ way = 1) (h2 : ¬ way = 2) : extOps U B way = [] := by simp [extOps, h1, h2]
def extRegs (U : UnitV) (way : Int) : Int := if way = 1 then U.regs + 2 else U.regs
def extMid (U : UnitV) (x : Nat) (B : BlkV) (way : Int) : UnitV := { U with regs := extRegs U way, blocks := U.blocks.set x { B with ops := B.ops ++ extOps U B way } }
/-- A block extended along a way by another one. -/
def extBy (U : UnitV) (x : Nat) (B : BlkV) (way : Int) (by_ : BlkV) : UnitV := { U with regs := extRegs U way, blocks := U.blocks.set x { B with ops := B.ops ++ extOps U B way ++ by_.ops, e := by_.e } }
theorem UPtr.row {s : St} {ub lo : Nat} {sz bl : AV} {f : Nat → AV} {U : UnitV} (h : UPtr s ub lo sz bl f U) (x : Nat) (hx : x < U.blocks.length) {bb : Nat} (hbb : boxOf bl = some bb) :
    elemA bl 6 (x : Int) = some (.ptr bb (x * 6)) ∧ lo ≤ bb ∧ bb < s.length ∧ St.at1 s bb (x * 6 + 0) = some (f x) ∧ St.at1 s bb (x * 6 + 1 + 1) = some (iA U.blocks[x].e.a) ∧ St.at1 s bb (x * 6 + 1 + 2) = some (iA U.blocks[x].e.t) ∧ St.at1 s bb (x * 6 + 1 + 3) = some (iA U.blocks[x].e.e) := by
  obtain ⟨bb', s2, hbb', hel, _⟩ := h.setend x hx U.blocks[x].e
  rw [hbb] at hbb'
  cases hbb'
  obtain ⟨b1, o1, he1, hn1, ha1, _⟩ := h.b.own.arr.get x (by rw [blkRows_length]; exact hx)
  rw [hel] at he1
  cases he1
  rw [blkRows_get _ _ _ hx] at ha1
  have a : ∀ k, k < 6 → St.at1 s bb (x * 6 + k) = (U.blocks[x].row (f x))[k]? := fun k hk => by simpa using ha1 [] k hk
  have h0 := h.b.own.bnd bb hbb
  exact ⟨hel, h0.1, h0.2, a 0 (by omega), by rw [Nat.add_assoc]; exact a 2 (by omega), by rw [Nat.add_assoc]; exact a 3 (by omega), by rw [Nat.add_assoc]; exact a 4 (by omega)⟩
theorem UPtr.bbx {s : St} {ub lo : Nat} {sz bl : AV} {f : Nat → AV} {U : UnitV} (h : UPtr s ub lo sz bl f U) (x : Nat) (hx : x < U.blocks.length) : ∃ bb, boxOf bl = some bb := by
  obtain ⟨bb, _, hbb, _⟩ := h.setend x hx U.blocks[x].e
  exact ⟨bb, hbb⟩
theorem UPtr.cells {s : St} {ub lo : Nat} {sz bl : AV} {f : Nat → AV} {U : UnitV} (h : UPtr s ub lo sz bl f U) (k : Nat) : St.at1 s ub k = [sz, iA U.params, iA U.regs, iA U.code, iA U.spill, bl][k]? :=
  let ⟨_, hb⟩ := h.box
  at1_box hb (by decide) k
section
variable {X : Cx}
set_option maxHeartbeats 1000000 in
theorem w_trace_extendF (h : On X) {stp S0 : St} {ub lo lo' hi' : Nat} {sz bl bw : AV} {f : Nat → AV} {U : UnitV} {by_ : BlkV} (hst : ∃ m, S0 = stp ++ m) (hub : stp.length ≤ ub) (hsl : stp.length ≤ lo) (hlo : lo ≤ S0.length) (hU : UPtr S0 ub lo sz bl f U) (hby : OpsAt stp lo' hi' bw by_.ops)
    (x : Nat) (hx : x < U.blocks.length) (way : Int) (hreg : -1000000000000 ≤ U.regs ∧ U.regs ≤ 1000000000000) (hsz : U.blocks[x].ops.length + 3 + by_.ops.length ≤ 1000000) :
    wpF X 42 [.ptr ub 0, iA x, iA way, .agg (by_.row bw)] S0 fun r s => r = .ret (.tup []) ∧ Agree (fun n => n = ub ∨ UBox sz bl f U.blocks.length n) S0 s ∧ ∃ f', UPtr s ub lo sz bl f' (extBy U x U.blocks[x] way by_) ∧ ∀ n, UBox sz bl f' U.blocks.length n → UBox sz bl f U.blocks.length n ∨ S0.length ≤ n := by
  refine wpF_go (fn := v_trace_extend) (by rw [h.F]; rfl) ?_
  obtain ⟨bb, hbb⟩ := hU.bbx x hx
  have hbc := isCell_len hby.len
  simp only [v_trace_extend, BlkV.row, hbc, kB, kZ, kD, fillA, partsEv, zeroes, Nat.reduceSub, Int.reduceToNat, Nat.reduceMul, asInt?, asNat?, Int.reduceAdd, Int.reduceLE, Int.reduceLT, Int.reduceNeg, Nat.reduceLeDiff, VOpd.ev, Nat.reduceEqDiff, Nat.reduceAdd, reduceIte, reduceCtorEq, splice, resOf, tupOf, cellsV, AV.toV, AV.cell?, cellVal]
  have hag0 := Agree.app (fun _ => False) S0 [⟨[bw, iA by_.e.k, iA by_.e.a, iA by_.e.t, iA by_.e.e, iA by_.catch_], 0, 0⟩]
  have hubl := hU.lt
  have hU1 := hU.agree hag0 (fun h => h) (fun _ _ _ h => h)
  have hlb : (S0 ++ [⟨[bw, iA by_.e.k, iA by_.e.a, iA by_.e.t, iA by_.e.e, iA by_.catch_], 0, 0⟩] : St)[S0.length]? = some ⟨[bw, iA by_.e.k, iA by_.e.a, iA by_.e.t, iA by_.e.e, iA by_.catch_], 0, 0⟩ := by simp
  have hnl : boxOf bl ≠ some S0.length ∧ boxOf (f x) ≠ some S0.length := ⟨fun h => by have := (hU.b.own.bnd _ h).2; omega, fun h => by have := ((hU.b.ops x hx).bnd _ h).2; omega⟩
  have hl1 : S0.length < (S0 ++ [⟨[bw, iA by_.e.k, iA by_.e.a, iA by_.e.t, iA by_.e.e, iA by_.catch_], 0, 0⟩] : St).length := by simp
  simp only [Nat.add_zero]
  generalize (S0 ++ [⟨[bw, iA by_.e.k, iA by_.e.a, iA by_.e.t, iA by_.e.e, iA by_.catch_], 0, 0⟩] : St) = S1 at *
  have c1 := hU1.cells
  obtain ⟨hel, hbl, hbl2, r0, rA, rT, rE⟩ := hU1.row x hx hbb
  simp only [c1, hel, kB, kZ, kD, fillA, partsEv, zeroes, Nat.reduceSub, Int.reduceToNat, Nat.reduceMul, asInt?, asNat?, Int.reduceAdd, Int.reduceLE, Int.reduceLT, Int.reduceNeg, Nat.reduceLeDiff, VOpd.ev, Nat.reduceEqDiff, Nat.reduceAdd, reduceIte, reduceCtorEq, splice, resOf, tupOf, cellsV, AV.toV, AV.cell?, cellVal]
  refine anyCond (mB m0) (fun e s => e 7 = .ptr S0.length 0 ∧ e 8 = .ptr bb (x * 6) ∧ s[S0.length]? = some ⟨[bw, iA by_.e.k, iA by_.e.a, iA by_.e.t, iA by_.e.e, iA by_.catch_], 0, 0⟩ ∧ Agree (fun n => n = ub ∨ UBox sz bl f U.blocks.length n) S0 s ∧ ∃ f', UPtr s ub lo sz bl f' (extMid U x U.blocks[x] way) ∧ (∀ n, boxOf (f' x) = some n → boxOf (f x) = some n ∨ S0.length < n) ∧ ∀ j, j ≠ x → f' j = f j) ?_ ?_
  · have hlo1 : lo ≤ S1.length := by omega
    refine condO_intro ?_ ?_ <;> intro hc
    · have hway : way = 1 := of_decide_eq_true hc
      subst hway
      obtain ⟨S2, hput2, hag2, hU2⟩ := hU1.regs (U.regs + 2)
      have hw1 : IntKind.wrap .i64 (U.regs + 1) = U.regs + 1 := wrap_small (by omega) (by omega)
      have hw2 : IntKind.wrap .i64 (U.regs + 2) = U.regs + 2 := wrap_small (by omega) (by omega)
      obtain ⟨hel2, _, _, s0, sA, sT, sE⟩ := hU2.row x hx hbb
      simp only [hc, c1, hel, hw1, hw2, hput2, s0, sA, sT, sE, kB, kZ, kD, fillA, partsEv, zeroes, Nat.reduceSub, Int.reduceToNat, Nat.reduceMul, asInt?, asNat?, Int.reduceAdd, Int.reduceLE, Int.reduceLT, Int.reduceNeg, Nat.reduceLeDiff, VOpd.ev, Nat.reduceEqDiff, Nat.reduceAdd, reduceIte, reduceCtorEq, splice, resOf, tupOf, cellsV, AV.toV, AV.cell?, cellVal]
      have hag3 := Agree.app (fun _ => False) S2 [⟨[iA 1, iA U.regs, iA 0, iA 0, iA 0, iA 0, iA (-1), iA 11, iA (U.regs + 1), iA U.blocks[x].e.a, iA U.regs, iA 0, iA 0, iA (-1), iA 21, iA 0, iA (U.regs + 1), iA 0, iA 0, iA U.blocks[x].e.e, iA (-1)], 0, 0⟩]
      have hU3 := hU2.agree hag3 (fun h => h) (fun _ _ _ h => h)
      have hb3 : (S2 ++ [⟨[iA 1, iA U.regs, iA 0, iA 0, iA 0, iA 0, iA (-1), iA 11, iA (U.regs + 1), iA U.blocks[x].e.a, iA U.regs, iA 0, iA 0, iA (-1), iA 21, iA 0, iA (U.regs + 1), iA 0, iA 0, iA U.blocks[x].e.e, iA (-1)], 0, 0⟩] : St)[S2.length]? = some ⟨((ext1 U U.blocks[x]).map OpV.row).flatten, 0, 0⟩ := by rw [List.getElem?_append_right (Nat.le_refl _), Nat.sub_self]; rfl
      have hlen2 : S2.length = S1.length ∨ S1.length ≤ S2.length := .inr hag2.len
      refine opR_append (vx := f x) (vy := .sl S2.length 0 3 7 true) (lo := lo) (lo' := S2.length) (hi' := S2.length + 1) (rows := U.blocks[x].ops.map OpV.row) (rows2 := (ext1 U U.blocks[x]).map OpV.row) ?_ ?_ (hU3.b.ops x hx) ?_ ?_ ?_ (opRow_cells _) ?_
      · simp only [kB, kZ, kD, fillA, partsEv, zeroes, Nat.reduceSub, Int.reduceToNat, Nat.reduceMul, asInt?, asNat?, Int.reduceAdd, Int.reduceLE, Int.reduceLT, Int.reduceNeg, Nat.reduceLeDiff, VOpd.ev, Nat.reduceEqDiff, Nat.reduceAdd, reduceIte, reduceCtorEq, splice, resOf, tupOf, cellsV, AV.toV, AV.cell?, cellVal]
      · simp only [kB, kZ, kD, fillA, partsEv, zeroes, Nat.reduceSub, Int.reduceToNat, Nat.reduceMul, asInt?, asNat?, Int.reduceAdd, Int.reduceLE, Int.reduceLT, Int.reduceNeg, Nat.reduceLeDiff, VOpd.ev, Nat.reduceEqDiff, Nat.reduceAdd, reduceIte, reduceCtorEq, splice, resOf, tupOf, cellsV, AV.toV, AV.cell?, cellVal]
      · simp; omega
      · refine ArrAt.ofBox hb3 (by decide) (fun r hr => ?_) rfl
        obtain ⟨o, _, rfl⟩ := List.mem_map.1 hr
        rfl
      · simp only [List.length_map, ext1, List.length_cons, List.length_nil]
        omega
      intro w S4 hag4 hw4 hor4
      rw [← List.map_append] at hw4
      obtain ⟨bb', S5, hbb', hel5, hput5, hag5, hU5⟩ := hU3.addops x hx (ext1 U U.blocks[x]) hag4 (fun n _ h => h.2) hw4 (by
        rcases hor4 with ⟨_, h, _⟩ | ⟨_, h, _⟩
        · exact .inl h
        · exact .inr h)
      rw [hbb] at hbb'
      cases hbb'
      have hwc := isCell_len hw4.arr.len
      have hwo := cellsOf_len hw4.arr.len
      simp only [hwc, hwo, hput5, kB, kZ, kD, fillA, partsEv, zeroes, Nat.reduceSub, Int.reduceToNat, Nat.reduceMul, asInt?, asNat?, Int.reduceAdd, Int.reduceLE, Int.reduceLT, Int.reduceNeg, Nat.reduceLeDiff, VOpd.ev, Nat.reduceEqDiff, Nat.reduceAdd, reduceIte, reduceCtorEq, splice, resOf, tupOf, cellsV, AV.toV, AV.cell?, cellVal]
      have hS3 : (S2 ++ [⟨[iA 1, iA U.regs, iA 0, iA 0, iA 0, iA 0, iA (-1), iA 11, iA (U.regs + 1), iA U.blocks[x].e.a, iA U.regs, iA 0, iA 0, iA (-1), iA 21, iA 0, iA (U.regs + 1), iA 0, iA 0, iA U.blocks[x].e.e, iA (-1)], 0, 0⟩] : St).length = S2.length + 1 := by simp
      have hag15 := (hag2.trans hag3).trans hag5
      have hx15 : ∀ n, ((n = ub ∨ False) ∨ ((ext1 U U.blocks[x]).map OpV.row ≠ [] ∧ boxOf (f x) = some n) ∨ n = bb) → (n = ub ∨ UBox sz bl f U.blocks.length n) ∧ n ≠ S0.length := fun n hn => by
        rcases hn with (rfl | h) | ⟨_, h⟩ | rfl
        · exact ⟨.inl rfl, Nat.ne_of_lt hubl⟩
        · exact h.elim
        · exact ⟨.inr (.inr (.inr ⟨x, hx, h⟩)), fun e => hnl.2 (by rw [← e]; exact h)⟩
        · exact ⟨.inr (.inr (.inl hbb)), fun e => hnl.1 (by rw [← e]; exact hbb)⟩
      refine ⟨hag15.box hlb (fun hn => (hx15 _ hn).2 rfl), (hag0.trans hag15).mono (fun n _ hn => by
        rcases hn with hn | hn
        · exact hn.elim
        · exact (hx15 n hn).1), _, hU5, ?_⟩
      simp only [if_true]
      refine ⟨?_, fun j hj => if_neg hj⟩
      rcases hor4 with ⟨_, h, _⟩ | ⟨_, h, _⟩
      · rw [h]; exact fun n hn => .inl hn
      · rw [h, hS3]
        intro n e
        have := hag2.len
        have := Option.some.inj e
        exact .inr (by omega)
    · have hway : ¬ way = 1 := of_decide_eq_false hc
      simp only [hc, kB, kZ, kD, fillA, partsEv, zeroes, Nat.reduceSub, Int.reduceToNat, Nat.reduceMul, asInt?, asNat?, Int.reduceAdd, Int.reduceLE, Int.reduceLT, Int.reduceNeg, Nat.reduceLeDiff, VOpd.ev, Nat.reduceEqDiff, Nat.reduceAdd, reduceIte, reduceCtorEq, splice, resOf, tupOf, cellsV, AV.toV, AV.cell?, cellVal]
      refine condO_intro ?_ ?_ <;> intro hc2
      · have hway : way = 2 := of_decide_eq_true hc2
        subst hway
        simp only [hc, c1, hel, r0, rA, rT, rE, kB, kZ, kD, fillA, partsEv, zeroes, Nat.reduceSub, Int.reduceToNat, Nat.reduceMul, asInt?, asNat?, Int.reduceAdd, Int.reduceLE, Int.reduceLT, Int.reduceNeg, Nat.reduceLeDiff, VOpd.ev, Nat.reduceEqDiff, Nat.reduceAdd, reduceIte, reduceCtorEq, splice, resOf, tupOf, cellsV, AV.toV, AV.cell?, cellVal]
        have hag3 := Agree.app (fun _ => False) S1 [⟨[iA 21, iA 0, iA U.blocks[x].e.a, iA 0, iA 0, iA U.blocks[x].e.t, iA (-1)], 0, 0⟩]
        have hU3 := hU1.agree hag3 (fun h => h) (fun _ _ _ h => h)
        have hb3 : (S1 ++ [⟨[iA 21, iA 0, iA U.blocks[x].e.a, iA 0, iA 0, iA U.blocks[x].e.t, iA (-1)], 0, 0⟩] : St)[S1.length]? = some ⟨((ext2 U.blocks[x]).map OpV.row).flatten, 0, 0⟩ := by rw [List.getElem?_append_right (Nat.le_refl _), Nat.sub_self]; rfl
        refine opR_append (vx := f x) (vy := .sl S1.length 0 1 7 true) (lo := lo) (lo' := S1.length) (hi' := S1.length + 1) (rows := U.blocks[x].ops.map OpV.row) (rows2 := (ext2 U.blocks[x]).map OpV.row) ?_ ?_ (hU3.b.ops x hx) ?_ ?_ ?_ (opRow_cells _) ?_
        · simp only [kB, kZ, kD, fillA, partsEv, zeroes, Nat.reduceSub, Int.reduceToNat, Nat.reduceMul, asInt?, asNat?, Int.reduceAdd, Int.reduceLE, Int.reduceLT, Int.reduceNeg, Nat.reduceLeDiff, VOpd.ev, Nat.reduceEqDiff, Nat.reduceAdd, reduceIte, reduceCtorEq, splice, resOf, tupOf, cellsV, AV.toV, AV.cell?, cellVal]
        · simp only [kB, kZ, kD, fillA, partsEv, zeroes, Nat.reduceSub, Int.reduceToNat, Nat.reduceMul, asInt?, asNat?, Int.reduceAdd, Int.reduceLE, Int.reduceLT, Int.reduceNeg, Nat.reduceLeDiff, VOpd.ev, Nat.reduceEqDiff, Nat.reduceAdd, reduceIte, reduceCtorEq, splice, resOf, tupOf, cellsV, AV.toV, AV.cell?, cellVal]
        · simp; omega
        · refine ArrAt.ofBox hb3 (by decide) (fun r hr => ?_) rfl
          obtain ⟨o, _, rfl⟩ := List.mem_map.1 hr
          rfl
        · simp only [List.length_map, ext2, List.length_cons, List.length_nil]
          omega
        intro w S4 hag4 hw4 hor4
        rw [← List.map_append] at hw4
        obtain ⟨bb', S5, hbb', hel5, hput5, hag5, hU5⟩ := hU3.addops x hx (ext2 U.blocks[x]) hag4 (fun n _ h => h.2) hw4 (by
          rcases hor4 with ⟨_, h, _⟩ | ⟨_, h, _⟩
          · exact .inl h
          · exact .inr h)
        rw [hbb] at hbb'
        cases hbb'
        have hwc := isCell_len hw4.arr.len
        have hwo := cellsOf_len hw4.arr.len
        simp only [hwc, hwo, hput5, kB, kZ, kD, fillA, partsEv, zeroes, Nat.reduceSub, Int.reduceToNat, Nat.reduceMul, asInt?, asNat?, Int.reduceAdd, Int.reduceLE, Int.reduceLT, Int.reduceNeg, Nat.reduceLeDiff, VOpd.ev, Nat.reduceEqDiff, Nat.reduceAdd, reduceIte, reduceCtorEq, splice, resOf, tupOf, cellsV, AV.toV, AV.cell?, cellVal]
        have hS3 : (S1 ++ [⟨[iA 21, iA 0, iA U.blocks[x].e.a, iA 0, iA 0, iA U.blocks[x].e.t, iA (-1)], 0, 0⟩] : St).length = S1.length + 1 := by simp
        have hag15 := hag3.trans hag5
        have hx15 : ∀ n, (False ∨ ((ext2 U.blocks[x]).map OpV.row ≠ [] ∧ boxOf (f x) = some n) ∨ n = bb) → (n = ub ∨ UBox sz bl f U.blocks.length n) ∧ n ≠ S0.length := fun n hn => by
          rcases hn with h | ⟨_, h⟩ | rfl
          · exact h.elim
          · exact ⟨.inr (.inr (.inr ⟨x, hx, h⟩)), fun e => hnl.2 (by rw [← e]; exact h)⟩
          · exact ⟨.inr (.inr (.inl hbb)), fun e => hnl.1 (by rw [← e]; exact hbb)⟩
        refine ⟨hag15.box hlb (fun hn => (hx15 _ hn).2 rfl), (hag0.trans hag15).mono (fun n _ hn => by
          rcases hn with hn | hn
          · exact hn.elim
          · exact (hx15 n hn).1), _, hU5, ?_⟩
        simp only [if_true]
        refine ⟨?_, fun j hj => if_neg hj⟩
        rcases hor4 with ⟨_, h, _⟩ | ⟨_, h, _⟩
        · rw [h]; exact fun n hn => .inl hn
        · rw [h, hS3]
          intro n e
          have := Option.some.inj e
          exact .inr (by omega)
      · have hway2 : ¬ way = 2 := of_decide_eq_false hc2
        simp only [hc, c1, hel, kB, kZ, kD, fillA, partsEv, zeroes, Nat.reduceSub, Int.reduceToNat, Nat.reduceMul, asInt?, asNat?, Int.reduceAdd, Int.reduceLE, Int.reduceLT, Int.reduceNeg, Nat.reduceLeDiff, VOpd.ev, Nat.reduceEqDiff, Nat.reduceAdd, reduceIte, reduceCtorEq, splice, resOf, tupOf, cellsV, AV.toV, AV.cell?, cellVal]
        have hE : extMid U x U.blocks[x] way = U := by
          unfold extMid extRegs
          rw [extOps_no U _ way hway hway2, if_neg hway, List.append_nil]
          rw [show ({ U.blocks[x] with ops := U.blocks[x].ops } : BlkV) = U.blocks[x] from rfl, List.set_getElem_self]
        rw [hE]
        refine ⟨hlb, hag0.mono (fun n _ hn => hn.elim), f, hU1, fun n hn => .inl hn, fun _ _ => rfl⟩
  · intro e s ⟨e7, e8, hlb2, hag, f', hU2, hnl3, hfj⟩
    have hnl2 : boxOf (f' x) ≠ some S0.length := fun h => by
      rcases hnl3 _ h with h | h
      · exact hnl.2 h
      · omega
    have hUlo : ∀ n, UBox sz bl f U.blocks.length n → lo ≤ n := fun n hn => by
      rcases hn with h | h | ⟨j, hj, h⟩
      · exact (hU.z.own.bnd n h).1
      · exact (hU.b.own.bnd n h).1
      · exact ((hU.b.ops j hj).bnd n h).1
    have hUM : (extMid U x U.blocks[x] way).blocks.length = U.blocks.length := by simp [extMid]
    have hx2 : x < (extMid U x U.blocks[x] way).blocks.length := by omega
    have hBx : (extMid U x U.blocks[x] way).blocks[x] = { U.blocks[x] with ops := U.blocks[x].ops ++ extOps U U.blocks[x] way } := by simp [extMid]
    have hel3 : (extOps U U.blocks[x] way).length ≤ 3 := by
      unfold extOps
      split
      · simp
      · split <;> simp
    obtain ⟨hel2, hbl3, hbl4, s0, _, _, _⟩ := hU2.row x hx2 hbb
    have l1 := at1_box hlb2 (by decide)
    obtain ⟨m0, hm0⟩ := hst
    have hagp : Agree (fun n => stp.length ≤ n) stp s := ((show Agree (fun _ => False) stp S0 by rw [hm0]; exact Agree.app (fun _ => False) stp m0).trans hag).mono fun n hn hx => by
      rcases hx with h | rfl | h
      · exact h.elim
      · exact hub
      · exact Nat.le_trans hsl (hUlo _ h)
    have hby2 := hby.agree hagp (fun b hb h => by have := hby.boxlt hb; omega)
    simp only [e7, e8, hel2, s0, l1, kB, kZ, kD, fillA, partsEv, zeroes, Nat.reduceSub, Int.reduceToNat, Nat.reduceMul, asInt?, asNat?, Int.reduceAdd, Int.reduceLE, Int.reduceLT, Int.reduceNeg, Nat.reduceLeDiff, VOpd.ev, Nat.reduceEqDiff, Nat.reduceAdd, reduceIte, reduceCtorEq, splice, resOf, tupOf, cellsV, AV.toV, AV.cell?, cellVal]
    refine opR_append (vx := f' x) (vy := bw) (lo := lo) (rows := (extMid U x U.blocks[x] way).blocks[x].ops.map OpV.row) (rows2 := by_.ops.map OpV.row) ?_ ?_ (hU2.b.ops x hx2) (Nat.le_trans hlo hag.len) hby2 ?_ (opRow_cells _) ?_
    · simp only [kB, kZ, kD, fillA, partsEv, zeroes, Nat.reduceSub, Int.reduceToNat, Nat.reduceMul, asInt?, asNat?, Int.reduceAdd, Int.reduceLE, Int.reduceLT, Int.reduceNeg, Nat.reduceLeDiff, VOpd.ev, Nat.reduceEqDiff, Nat.reduceAdd, reduceIte, reduceCtorEq, splice, resOf, tupOf, cellsV, AV.toV, AV.cell?, cellVal]
    · simp only [kB, kZ, kD, fillA, partsEv, zeroes, Nat.reduceSub, Int.reduceToNat, Nat.reduceMul, asInt?, asNat?, Int.reduceAdd, Int.reduceLE, Int.reduceLT, Int.reduceNeg, Nat.reduceLeDiff, VOpd.ev, Nat.reduceEqDiff, Nat.reduceAdd, reduceIte, reduceCtorEq, splice, resOf, tupOf, cellsV, AV.toV, AV.cell?, cellVal]
    · rw [hBx]
      simp only [List.length_map, List.length_append]
      omega
    intro w S4 hag4 hw4 hor4
    rw [← List.map_append] at hw4
    obtain ⟨bb', S5, hbb', hel5, hput5, hag5, hU5⟩ := hU2.addops x hx2 by_.ops hag4 (fun n _ h => h.2) hw4 (by
      rcases hor4 with ⟨_, h, _⟩ | ⟨_, h, _⟩
      · exact .inl h
      · exact .inr h)
    rw [hbb] at hbb'
    cases hbb'
    have hx5 : ∀ n, ((by_.ops.map OpV.row ≠ [] ∧ boxOf (f' x) = some n) ∨ n = bb) → (n < S0.length → n = ub ∨ UBox sz bl f U.blocks.length n) ∧ n ≠ S0.length := fun n hn => by
      rcases hn with ⟨_, h⟩ | rfl
      · exact ⟨fun hlt => (hnl3 n h).elim (fun h => .inr (.inr (.inr ⟨x, hx, h⟩))) (fun h => by omega), fun e => hnl2 (by rw [← e]; exact h)⟩
      · exact ⟨fun _ => .inr (.inr (.inl hbb)), fun e => hnl.1 (by rw [← e]; exact hbb)⟩
    have hlb5 := hag5.box hlb2 (fun hn => (hx5 _ hn).2 rfl)
    have l5 := atN_box hlb5 (by decide)
    have l5e := l5 1 4 (by simp)
    simp only [kB, kZ, kD, fillA, partsEv, zeroes, Nat.reduceSub, Int.reduceToNat, Nat.reduceMul, asInt?, asNat?, Int.reduceAdd, Int.reduceLE, Int.reduceLT, Int.reduceNeg, Nat.reduceLeDiff, VOpd.ev, Nat.reduceEqDiff, Nat.reduceAdd, reduceIte, reduceCtorEq, splice, resOf, tupOf, cellsV, AV.toV, AV.cell?, cellVal] at l5e
    have hwc := isCell_len hw4.arr.len
    have hwo := cellsOf_len hw4.arr.len
    obtain ⟨bb', S6, hbb', hel6, hput6, hag6, hU6⟩ := hU5.setend x (by simp; exact hx2) by_.e
    rw [hbb] at hbb'
    cases hbb'
    simp only [e7, e8, hwc, hwo, hput5, hput6, l5e, kB, kZ, kD, fillA, partsEv, zeroes, Nat.reduceSub, Int.reduceToNat, Nat.reduceMul, asInt?, asNat?, Int.reduceAdd, Int.reduceLE, Int.reduceLT, Int.reduceNeg, Nat.reduceLeDiff, VOpd.ev, Nat.reduceEqDiff, Nat.reduceAdd, reduceIte, reduceCtorEq, splice, resOf, tupOf, cellsV, AV.toV, AV.cell?, cellVal]
    refine ⟨((hag.trans hag5).trans hag6).mono (fun n hlt hn => ?_), (fun j => if j = x then w else f' j), ?_, fun n hn => ?_⟩
    · rcases hn with (hn | hn) | hn
      · exact hn
      · exact (hx5 n hn).1 hlt
      · subst hn; exact .inr (.inr (.inl hbb))
    · have he : extBy U x U.blocks[x] way by_ = { ({ extMid U x U.blocks[x] way with blocks := (extMid U x U.blocks[x] way).blocks.set x { (extMid U x U.blocks[x] way).blocks[x] with ops := (extMid U x U.blocks[x] way).blocks[x].ops ++ by_.ops } } : UnitV) with blocks := ((extMid U x U.blocks[x] way).blocks.set x { (extMid U x U.blocks[x] way).blocks[x] with ops := (extMid U x U.blocks[x] way).blocks[x].ops ++ by_.ops }).set x { ((extMid U x U.blocks[x] way).blocks.set x { (extMid U x U.blocks[x] way).blocks[x] with ops := (extMid U x U.blocks[x] way).blocks[x].ops ++ by_.ops })[x]'(by simp; exact hx2) with e := by_.e } } := by
        rw [List.set_set, List.getElem_set_self, hBx]
        simp only [extMid, extBy, List.set_set]
      rw [he]
      exact hU6
    · rcases hn with h | h | ⟨j, hj, h⟩
      · exact .inl (.inl h)
      · exact .inl (.inr (.inl h))
      · by_cases hjx : j = x
        · subst hjx
          simp only [if_true] at h
          rcases hor4 with ⟨_, hw, _⟩ | ⟨_, hw, _⟩
          · rw [hw] at h
            rcases hnl3 n h with h | h
            · exact .inl (.inr (.inr ⟨j, hj, h⟩))
            · exact .inr (by omega)
          · rw [hw] at h
            have := Option.some.inj h
            have := hag.len
            exact .inr (by omega)
        · simp only [if_neg hjx, hfj j hjx] at h
          exact .inl (.inr (.inr ⟨j, hj, h⟩))
theorem w_trace_extend (h : On X) {stp S0 : St} {ub lo lo' hi' : Nat} {sz bl bw : AV} {f : Nat → AV} {U : UnitV} {by_ : BlkV} (hst : ∃ m, S0 = stp ++ m) (hub : stp.length ≤ ub) (hsl : stp.length ≤ lo) (hlo : lo ≤ S0.length) (hU : UPtr S0 ub lo sz bl f U) (hby : OpsAt stp lo' hi' bw by_.ops)
    (x : Nat) (hx : x < U.blocks.length) (way : Int) (hreg : -1000000000000 ≤ U.regs ∧ U.regs ≤ 1000000000000) (hsz : U.blocks[x].ops.length + 3 + by_.ops.length ≤ 1000000) :
    wpF X 42 [.ptr ub 0, iA x, iA way, .agg (by_.row bw)] S0 fun r s => r = .ret (.tup []) ∧ Agree (fun n => n = ub ∨ lo ≤ n) S0 s ∧ ∃ f', UPtr s ub lo sz bl f' (extBy U x U.blocks[x] way by_) := by
  refine (w_trace_extendF h hst hub hsl hlo hU hby x hx way hreg hsz).mono fun r s hr => ?_
  obtain ⟨h1, hag, f', hU', _⟩ := hr
  refine ⟨h1, hag.mono fun n _ hn => ?_, f', hU'⟩
  rcases hn with h | h | h | ⟨j, hj, h⟩
  · exact .inl h
  · exact .inr (hU.z.own.bnd n h).1
  · exact .inr (hU.b.own.bnd n h).1
  · exact .inr ((hU.b.ops j hj).bnd n h).1
end
end Go.VX.Seat
end
section
set_option linter.unusedVariables false
set_option linter.unusedSimpArgs false
set_option maxRecDepth 4000
/-! biremeref07.Copy, biremelaw17.cut. -/
namespace Go.VX.Seat
open Go.Proofs
theorem cutB_all : ∀ {l : List BlkV} {n : Nat} {k : Int}, l.length ≤ n → (total l : Int) ≤ k → cutB l n k = l
  | [], n, k, _, _ => by simp [cutB]
  | b :: r, 0, k, h, _ => by simp at h
  | b :: r, n + 1, k, h, hk => by
    have hk' : (b.ops.length : Int) + (total r : Int) ≤ k := by
      unfold total at hk ⊢
      simp only [List.map_cons, List.sum_cons] at hk
      omega
    have ht : b.ops.take k.toNat = b.ops := List.take_of_length_le (by omega)
    unfold cutB
    rw [ht, cutB_all (by simpa using h) (by omega)]
theorem total_le (m : Nat) : ∀ {l : List BlkV}, (∀ b ∈ l, b.ops.length ≤ m) → total l ≤ m * l.length
  | [], _ => by simp [total]
  | b :: r, h => by
    have h1 := h b (by simp)
    have h2 := total_le m (l := r) (fun x hx => h x (List.mem_cons_of_mem _ hx))
    have h3 : total (b :: r) = b.ops.length + total r := by unfold total; simp
    rw [List.length_cons, Nat.mul_succ, h3]
    omega
theorem cutU_all {U : UnitV} {k : Int} (hz : U.sizes.length ≤ 17) (hk : (total U.blocks : Int) ≤ k) : cutU U U.blocks.length k = U := by
  unfold cutU
  rw [cutB_all (Nat.le_refl _) hk, List.take_of_length_le hz]
section
variable {X : Cx} {st : St}
theorem w_r07_Copy (h : On X) {lo hi : Nat} {v : AV} {U : UnitV} (hv : UnitAt st lo hi v U) (hz : U.sizes.length ≤ 17) (hn : U.blocks.length ≤ 100000) (hlen : ∀ b ∈ U.blocks, b.ops.length ≤ 1000000) :
    wpF X 54 [v] st fun r s => NewU st s r U := by
  refine wpF_go (fn := v_r07_Copy) (by rw [h.F]; rfl) ?_
  have hm := fun L => hv.mono L
  obtain ⟨s, bl, rfl, hs, hb⟩ := hv
  have l2 : lenA bl = some U.blocks.length := by
    obtain ⟨f, hb, _⟩ := hb
    have := hb.len
    simpa using this
  have ht : total U.blocks ≤ 1000000 * U.blocks.length := total_le _ hlen
  have hk : (total U.blocks : Int) ≤ 1099511627776 := by omega
  simp only [v_r07_Copy, l2, kB, kZ, kD, fillA, partsEv, zeroes, Nat.reduceSub, Int.reduceToNat, Nat.reduceMul, asInt?, asNat?, Int.reduceAdd, Int.reduceLE, Int.reduceLT, Int.reduceNeg, Nat.reduceLeDiff, VOpd.ev, Nat.reduceEqDiff, Nat.reduceAdd, reduceIte, reduceCtorEq, splice, resOf, tupOf, cellsV, AV.toV, AV.cell?, cellVal]
  refine callO_newU (w_Cut h (hm _) U.blocks.length 1099511627776 (by omega) (by omega) (fun b hb => ?_)) ?_
  · have := hlen b (List.mem_of_mem_take hb)
    omega
  intro w m hw
  rw [cutU_all hz hk] at hw
  obtain ⟨sz, bl2, f, rfl, hz2, hb2⟩ := hw.ex
  have hszc := isCell_len hz2.own.arr.len
  have hblc := isCell_len hb2.own.arr.len
  simp only [hszc, hblc, kB, kZ, kD, fillA, partsEv, zeroes, Nat.reduceSub, Int.reduceToNat, Nat.reduceMul, asInt?, asNat?, Int.reduceAdd, Int.reduceLE, Int.reduceLT, Int.reduceNeg, Nat.reduceLeDiff, VOpd.ev, Nat.reduceEqDiff, Nat.reduceAdd, reduceIte, reduceCtorEq, splice, resOf, tupOf, cellsV, AV.toV, AV.cell?, cellVal]
  have hag := Agree.swap st [⟨[s, iA U.params, iA U.regs, iA U.code, iA U.spill, bl], 0, 0⟩] ⟨[.sc (.slice none 0 0), iA 0, iA 0, iA 0, iA 0, .sc (.slice none 0 0)], 0, 0⟩ ⟨[sz, iA U.params, iA U.regs, iA U.code, iA U.spill, bl2], 0, 1⟩ m
  have hl : (st ++ ([⟨[s, iA U.params, iA U.regs, iA U.code, iA U.spill, bl], 0, 0⟩, ⟨[.sc (.slice none 0 0), iA 0, iA 0, iA 0, iA 0, .sc (.slice none 0 0)], 0, 0⟩] : St)).length = st.length + 2 := by simp
  rw [hl] at hz2 hb2
  simp only [List.append_assoc, List.cons_append, List.nil_append] at hz2 hb2
  exact ⟨_, rfl, ⟨_, rfl⟩, ⟨sz, bl2, f, rfl, (hz2.agree hag (fun b hb _ h => by simp at h; omega)).low (by omega), (hb2.agree hag (fun b hb _ h => by simp at h; omega)).low (by omega)⟩⟩
theorem w_cut (h : On X) {lo hi : Nat} {v : AV} {U : UnitV} (hv : UnitAt st lo hi v U) :
    wpF X 11 [v] st fun r s => NewU st s r (cutU U 16 60) := by
  refine wpF_go (fn := v_l17_cut) (by rw [h.F]; rfl) ?_
  have hm := fun L => hv.mono L
  obtain ⟨s, bl, rfl, hs, hb⟩ := hv
  simp only [v_l17_cut, kB, kZ, kD, fillA, partsEv, zeroes, Nat.reduceSub, Int.reduceToNat, Nat.reduceMul, asInt?, asNat?, Int.reduceAdd, Int.reduceLE, Int.reduceLT, Int.reduceNeg, Nat.reduceLeDiff, VOpd.ev, Nat.reduceEqDiff, Nat.reduceAdd, reduceIte, reduceCtorEq, splice, resOf, tupOf, cellsV, AV.toV, AV.cell?, cellVal]
  refine callO_newU (w_Cut h (hm _) 16 60 (by omega) (by omega) (fun b hb => by simp; omega)) ?_
  intro w m hw
  obtain ⟨sz, bl2, f, rfl, hz2, hb2⟩ := hw.ex
  have hszc := isCell_len hz2.own.arr.len
  have hblc := isCell_len hb2.own.arr.len
  simp only [hszc, hblc, kB, kZ, kD, fillA, partsEv, zeroes, Nat.reduceSub, Int.reduceToNat, Nat.reduceMul, asInt?, asNat?, Int.reduceAdd, Int.reduceLE, Int.reduceLT, Int.reduceNeg, Nat.reduceLeDiff, VOpd.ev, Nat.reduceEqDiff, Nat.reduceAdd, reduceIte, reduceCtorEq, splice, resOf, tupOf, cellsV, AV.toV, AV.cell?, cellVal]
  have hag := Agree.swap st [⟨[s, iA U.params, iA U.regs, iA U.code, iA U.spill, bl], 0, 0⟩] ⟨[.sc (.slice none 0 0), iA 0, iA 0, iA 0, iA 0, .sc (.slice none 0 0)], 0, 0⟩ ⟨[sz, iA U.params, iA U.regs, iA U.code, iA U.spill, bl2], 0, 1⟩ m
  have hl : (st ++ ([⟨[s, iA U.params, iA U.regs, iA U.code, iA U.spill, bl], 0, 0⟩, ⟨[.sc (.slice none 0 0), iA 0, iA 0, iA 0, iA 0, .sc (.slice none 0 0)], 0, 0⟩] : St)).length = st.length + 2 := by simp
  rw [hl] at hz2 hb2
  simp only [List.append_assoc, List.cons_append, List.nil_append] at hz2 hb2
  exact ⟨_, rfl, ⟨_, rfl⟩, ⟨sz, bl2, f, rfl, (hz2.agree hag (fun b hb _ h => by simp at h; omega)).low (by omega), (hb2.agree hag (fun b hb _ h => by simp at h; omega)).low (by omega)⟩⟩
end
end Go.VX.Seat
end
section
set_option linter.unusedVariables false
set_option linter.unusedSimpArgs false
set_option maxRecDepth 4000
/-! biremeref17.with. -/
namespace Go.VX.Seat
open Go.Proofs
theorem kept_one {env : Env} {s s' : St} {x : VOpd} {b o : Nat} (hx : x.ev env = .ptr b o) (h : s'[b]? = s[b]?) : keptA env s s' [x] = true := by
  unfold keptA
  simp only [List.all_cons, List.all_nil, Bool.and_true, hx, h]
  cases s[b]? with
  | none => rfl
  | some x => simp
theorem UPtr.rowN {s : St} {ub lo : Nat} {sz bl : AV} {f : Nat → AV} {U : UnitV} (h : UPtr s ub lo sz bl f U) (x : Nat) (hx : x < U.blocks.length) {bb : Nat} (hbb : boxOf bl = some bb) :
    St.atN s bb (x * 6 + 1) 4 = some [iA U.blocks[x].e.k, iA U.blocks[x].e.a, iA U.blocks[x].e.t, iA U.blocks[x].e.e] := by
  obtain ⟨hel, _⟩ := h.row x hx hbb
  obtain ⟨b1, o1, he1, hn1, ha1, hm1⟩ := h.b.own.arr.get x (by rw [blkRows_length]; exact hx)
  rw [hel] at he1
  cases he1
  rw [blkRows_get _ _ _ hx] at hm1
  have := hm1 [] 1 4 (by omega)
  rw [List.append_nil] at this
  exact this
/-- Units: behind a pointer, once more. -/
theorem OwnU.ptr {s : St} {ub lo : Nat} {sz bl : AV} {f : Nat → AV} {U : UnitV} {ver : Nat} (hz : OwnZ s lo sz bl f U.sizes U.blocks) (hb : OwnB s lo bl f U.blocks) (hu : s[ub]? = some ⟨[sz, iA U.params, iA U.regs, iA U.code, iA U.spill, bl], 0, ver⟩) (hx : ¬ UBox sz bl f U.blocks.length ub) : UPtr s ub lo sz bl f U := ⟨⟨ver, hu⟩, hx, hz, hb⟩
theorem ubox_lt {s : St} {lo : Nat} {sz bl : AV} {f : Nat → AV} {zs : List Int} {l : List BlkV} (hz : OwnZ s lo sz bl f zs l) (hb : OwnB s lo bl f l) {b : Nat} (h : UBox sz bl f l.length b) : lo ≤ b ∧ b < s.length := by
  rcases h with h | h | ⟨j, hj, h⟩
  · exact hz.own.bnd b h
  · exact hb.own.bnd b h
  · exact (hb.ops j hj).bnd b h
section
variable {X : Cx} {st : St}
set_option maxHeartbeats 2000000 in
theorem w_r17_with (h : On X) {lo hi lo' hi' : Nat} {v bw : AV} {U : UnitV} {by_ : BlkV} (hv : UnitAt st lo hi v U) (hby : OpsAt st lo' hi' bw by_.ops) (x : Nat) (hx : x < U.blocks.length) (way : Int)
    (hz : U.sizes.length ≤ 17) (hn : U.blocks.length ≤ 100000) (hlen : ∀ b ∈ U.blocks, b.ops.length ≤ 900000) (hbl : by_.ops.length ≤ 90000) (hreg : -1000000000000 ≤ U.regs ∧ U.regs ≤ 1000000000000) :
    wpF X 46 [v, iA x, iA way, .agg (by_.row bw)] st fun r s => NewU st s r (extBy U x U.blocks[x] way by_) := by
  refine wpF_go (fn := v_r17_with) (by rw [h.F]; rfl) ?_
  have hm := fun L => hv.mono L
  have hbc := isCell_len hby.len
  have hbxl := hlen _ (List.getElem_mem hx)
  obtain ⟨s, bl, rfl, hs, hb⟩ := hv
  simp only [v_r17_with, BlkV.row, hbc, kB, kZ, kD, fillA, partsEv, zeroes, Nat.reduceSub, Int.reduceToNat, Nat.reduceMul, asInt?, asNat?, Int.reduceAdd, Int.reduceLE, Int.reduceLT, Int.reduceNeg, Nat.reduceLeDiff, VOpd.ev, Nat.reduceEqDiff, Nat.reduceAdd, reduceIte, reduceCtorEq, splice, resOf, tupOf, cellsV, AV.toV, AV.cell?, cellVal]
  refine callO_newU (w_r07_Copy h (hm _) hz hn (fun b hb => by have := hlen b hb; omega)) ?_
  intro w m hw
  obtain ⟨sz, bl2, f, rfl, hz2, hb2⟩ := hw.ex
  have hszc := isCell_len hz2.own.arr.len
  have hblc := isCell_len hb2.own.arr.len
  simp only [hszc, hblc, kB, kZ, kD, fillA, partsEv, zeroes, Nat.reduceSub, Int.reduceToNat, Nat.reduceMul, asInt?, asNat?, Int.reduceAdd, Int.reduceLE, Int.reduceLT, Int.reduceNeg, Nat.reduceLeDiff, VOpd.ev, Nat.reduceEqDiff, Nat.reduceAdd, reduceIte, reduceCtorEq, splice, resOf, tupOf, cellsV, AV.toV, AV.cell?, cellVal]
  have hl3 : (st ++ ([⟨[s, iA U.params, iA U.regs, iA U.code, iA U.spill, bl], 0, 0⟩, ⟨[bw, iA by_.e.k, iA by_.e.a, iA by_.e.t, iA by_.e.e, iA by_.catch_], 0, 0⟩, ⟨[.sc (.slice none 0 0), iA 0, iA 0, iA 0, iA 0, .sc (.slice none 0 0)], 0, 0⟩] : St)).length = st.length + 3 := by simp
  rw [hl3] at hz2 hb2
  have hagA : Agree (fun _ => False) ((st ++ ([⟨[s, iA U.params, iA U.regs, iA U.code, iA U.spill, bl], 0, 0⟩, ⟨[bw, iA by_.e.k, iA by_.e.a, iA by_.e.t, iA by_.e.e, iA by_.catch_], 0, 0⟩, ⟨[.sc (.slice none 0 0), iA 0, iA 0, iA 0, iA 0, .sc (.slice none 0 0)], 0, 0⟩] : St)) ++ m) (st ++ (⟨[s, iA U.params, iA U.regs, iA U.code, iA U.spill, bl], 0, 0⟩ :: ⟨[bw, iA by_.e.k, iA by_.e.a, iA by_.e.t, iA by_.e.e, iA by_.catch_], 0, 0⟩ :: ⟨[.sc (.slice none 0 0), iA 0, iA 0, iA 0, iA 0, .sc (.slice none 0 0)], 0, 0⟩ :: (m ++ [⟨[sz, iA U.params, iA U.regs, iA U.code, iA U.spill, bl2], 0, 1⟩])) : St) := by
    simpa using Agree.app (fun _ => False) ((st ++ ([⟨[s, iA U.params, iA U.regs, iA U.code, iA U.spill, bl], 0, 0⟩, ⟨[bw, iA by_.e.k, iA by_.e.a, iA by_.e.t, iA by_.e.e, iA by_.catch_], 0, 0⟩, ⟨[.sc (.slice none 0 0), iA 0, iA 0, iA 0, iA 0, .sc (.slice none 0 0)], 0, 0⟩] : St)) ++ m) [⟨[sz, iA U.params, iA U.regs, iA U.code, iA U.spill, bl2], 0, 1⟩]
  have hU1 : UPtr (st ++ (⟨[s, iA U.params, iA U.regs, iA U.code, iA U.spill, bl], 0, 0⟩ :: ⟨[bw, iA by_.e.k, iA by_.e.a, iA by_.e.t, iA by_.e.e, iA by_.catch_], 0, 0⟩ :: ⟨[.sc (.slice none 0 0), iA 0, iA 0, iA 0, iA 0, .sc (.slice none 0 0)], 0, 0⟩ :: (m ++ [⟨[sz, iA U.params, iA U.regs, iA U.code, iA U.spill, bl2], 0, 1⟩])) : St) (st.length + (m.length + 1 + 1 + 1)) (st.length + 3) sz bl2 f U := by
    refine OwnU.ptr (ver := 1) (hz2.agree hagA (fun _ _ _ h => h)) (hb2.agree hagA (fun _ _ _ h => h)) (by simp) (fun hx => ?_)
    have := (ubox_lt hz2 hb2 hx).2
    simp at this
  have hSt : Agree (fun _ => False) st (st ++ (⟨[s, iA U.params, iA U.regs, iA U.code, iA U.spill, bl], 0, 0⟩ :: ⟨[bw, iA by_.e.k, iA by_.e.a, iA by_.e.t, iA by_.e.e, iA by_.catch_], 0, 0⟩ :: ⟨[.sc (.slice none 0 0), iA 0, iA 0, iA 0, iA 0, .sc (.slice none 0 0)], 0, 0⟩ :: (m ++ [⟨[sz, iA U.params, iA U.regs, iA U.code, iA U.spill, bl2], 0, 1⟩])) : St) := Agree.app _ _ _
  have h4 : (st ++ (⟨[s, iA U.params, iA U.regs, iA U.code, iA U.spill, bl], 0, 0⟩ :: ⟨[bw, iA by_.e.k, iA by_.e.a, iA by_.e.t, iA by_.e.e, iA by_.catch_], 0, 0⟩ :: ⟨[.sc (.slice none 0 0), iA 0, iA 0, iA 0, iA 0, .sc (.slice none 0 0)], 0, 0⟩ :: (m ++ [⟨[sz, iA U.params, iA U.regs, iA U.code, iA U.spill, bl2], 0, 1⟩])) : St)[st.length + 0]? = some ⟨[s, iA U.params, iA U.regs, iA U.code, iA U.spill, bl], 0, 0⟩ := by simp
  have h7 : (st ++ (⟨[s, iA U.params, iA U.regs, iA U.code, iA U.spill, bl], 0, 0⟩ :: ⟨[bw, iA by_.e.k, iA by_.e.a, iA by_.e.t, iA by_.e.e, iA by_.catch_], 0, 0⟩ :: ⟨[.sc (.slice none 0 0), iA 0, iA 0, iA 0, iA 0, .sc (.slice none 0 0)], 0, 0⟩ :: (m ++ [⟨[sz, iA U.params, iA U.regs, iA U.code, iA U.spill, bl2], 0, 1⟩])) : St)[st.length + 1]? = some ⟨[bw, iA by_.e.k, iA by_.e.a, iA by_.e.t, iA by_.e.e, iA by_.catch_], 0, 0⟩ := by simp
  have h8 : (st ++ (⟨[s, iA U.params, iA U.regs, iA U.code, iA U.spill, bl], 0, 0⟩ :: ⟨[bw, iA by_.e.k, iA by_.e.a, iA by_.e.t, iA by_.e.e, iA by_.catch_], 0, 0⟩ :: ⟨[.sc (.slice none 0 0), iA 0, iA 0, iA 0, iA 0, .sc (.slice none 0 0)], 0, 0⟩ :: (m ++ [⟨[sz, iA U.params, iA U.regs, iA U.code, iA U.spill, bl2], 0, 1⟩])) : St)[st.length + 2]? = some ⟨[.sc (.slice none 0 0), iA 0, iA 0, iA 0, iA 0, .sc (.slice none 0 0)], 0, 0⟩ := by simp
  have hN : (st ++ (⟨[s, iA U.params, iA U.regs, iA U.code, iA U.spill, bl], 0, 0⟩ :: ⟨[bw, iA by_.e.k, iA by_.e.a, iA by_.e.t, iA by_.e.e, iA by_.catch_], 0, 0⟩ :: ⟨[.sc (.slice none 0 0), iA 0, iA 0, iA 0, iA 0, .sc (.slice none 0 0)], 0, 0⟩ :: (m ++ [⟨[sz, iA U.params, iA U.regs, iA U.code, iA U.spill, bl2], 0, 1⟩])) : St).length = st.length + (m.length + 1 + 1 + 1) + 1 := by first | (simp; done) | (simp; omega)
  have hUx : ∀ b, UBox sz bl2 f U.blocks.length b → st.length + 3 ≤ b ∧ b < st.length + (m.length + 1 + 1 + 1) := fun b hb => by
    have := ubox_lt hz2 hb2 hb
    simp at this
    omega
  have hubl : st.length + 3 ≤ st.length + (m.length + 1 + 1 + 1) := by omega
  clear hagA hz2 hb2 hm hs hb hl3
  generalize hS1 : (st ++ (⟨[s, iA U.params, iA U.regs, iA U.code, iA U.spill, bl], 0, 0⟩ :: ⟨[bw, iA by_.e.k, iA by_.e.a, iA by_.e.t, iA by_.e.e, iA by_.catch_], 0, 0⟩ :: ⟨[.sc (.slice none 0 0), iA 0, iA 0, iA 0, iA 0, .sc (.slice none 0 0)], 0, 0⟩ :: (m ++ [⟨[sz, iA U.params, iA U.regs, iA U.code, iA U.spill, bl2], 0, 1⟩])) : St) = S1 at *
  generalize hub : st.length + (m.length + 1 + 1 + 1) = ub at *
  clear hS1 hub hw m
  obtain ⟨bb, hbb⟩ := hU1.bbx x hx
  obtain ⟨hel, hbl3, hbl4, r0, rA, rT, rE⟩ := hU1.row x hx hbb
  have rN := hU1.rowN x hx hbb
  have c9 := hU1.cells
  have hbbx := hUx bb (.inr (.inl hbb))
  have r0a := fun L => at1_app r0 L
  have c4a : ∀ (L : St) k, St.at1 (S1 ++ L) (st.length + 0) k = [s, iA U.params, iA U.regs, iA U.code, iA U.spill, bl][k]? := fun L k => at1_box ((Agree.app (fun _ => False) S1 L).box h4 (fun h => h)) (by decide) k
  simp only [c9, hel, rN, r0a, kB, kZ, kD, fillA, partsEv, zeroes, Nat.reduceSub, Int.reduceToNat, Nat.reduceMul, asInt?, asNat?, Int.reduceAdd, Int.reduceLE, Int.reduceLT, Int.reduceNeg, Nat.reduceLeDiff, VOpd.ev, Nat.reduceEqDiff, Nat.reduceAdd, reduceIte, reduceCtorEq, splice, resOf, tupOf, cellsV, AV.toV, AV.cell?, cellVal]
  have hs2 : (S1 ++ ([⟨[iA U.blocks[x].e.k, iA U.blocks[x].e.a, iA U.blocks[x].e.t, iA U.blocks[x].e.e], 0, 1⟩, ⟨[], 0, 0⟩] : St))[S1.length + 1]? = some ⟨[], 0, 0⟩ := by simp
  refine opR_append (vx := .sl (S1.length + 1) 0 0 7 true) (vy := f x) (lo := S1.length + 1) (rows := []) (rows2 := U.blocks[x].ops.map OpV.row) ?_ ?_ (own_empty hs2 (by decide) (Nat.le_refl _)) ?_ ((hU1.b.ops x hx).arr.mono _) ?_ (opRow_cells _) ?_
  · simp only [kB, kZ, kD, fillA, partsEv, zeroes, Nat.reduceSub, Int.reduceToNat, Nat.reduceMul, asInt?, asNat?, Int.reduceAdd, Int.reduceLE, Int.reduceLT, Int.reduceNeg, Nat.reduceLeDiff, VOpd.ev, Nat.reduceEqDiff, Nat.reduceAdd, reduceIte, reduceCtorEq, splice, resOf, tupOf, cellsV, AV.toV, AV.cell?, cellVal]
  · simp only [kB, kZ, kD, fillA, partsEv, zeroes, Nat.reduceSub, Int.reduceToNat, Nat.reduceMul, asInt?, asNat?, Int.reduceAdd, Int.reduceLE, Int.reduceLT, Int.reduceNeg, Nat.reduceLeDiff, VOpd.ev, Nat.reduceEqDiff, Nat.reduceAdd, reduceIte, reduceCtorEq, splice, resOf, tupOf, cellsV, AV.toV, AV.cell?, cellVal]
  · simp
  · simp only [List.length_map, List.length_nil]; omega
  intro w1 S2 hag2 hw1 _
  rw [List.nil_append] at hw1
  have hag12 : Agree (fun n => S1.length + 1 ≤ n) S1 S2 := ((Agree.app (fun _ => False) S1 ([⟨[iA U.blocks[x].e.k, iA U.blocks[x].e.a, iA U.blocks[x].e.t, iA U.blocks[x].e.e], 0, 1⟩, ⟨[], 0, 0⟩] : St)).trans hag2).mono fun n _ hn => by
    rcases hn with hn | ⟨_, hn⟩
    · exact hn.elim
    · cases hn; exact Nat.le_refl _
  have he2 : S2[S1.length]? = some ⟨[iA U.blocks[x].e.k, iA U.blocks[x].e.a, iA U.blocks[x].e.t, iA U.blocks[x].e.e], 0, 1⟩ := hag2.box (by simp) (fun hn => by have := Option.some.inj hn.2; omega)
  have hS2l : S1.length + 2 ≤ S2.length := by have := hag2.len; simpa using this
  have hU2 := hU1.agree hag12 (fun hn => by omega) (fun b hb _ hn => by have := (hUx b hb).2; omega)
  have h4b := hag12.box h4 (fun hn => by omega)
  have h7b := hag12.box h7 (fun hn => by omega)
  have h8b := hag12.box h8 (fun hn => by omega)
  have d4 := at1_box h4b (by decide)
  have dE := at1_box he2 (by decide)
  have hw1r : IntKind.wrap .i64 (U.regs + 1) = U.regs + 1 := wrap_small (by omega) (by omega)
  have hw2r : IntKind.wrap .i64 (U.regs + 2) = U.regs + 2 := wrap_small (by omega) (by omega)
  simp only [kB, kZ, kD, fillA, partsEv, zeroes, Nat.reduceSub, Int.reduceToNat, Nat.reduceMul, asInt?, asNat?, Int.reduceAdd, Int.reduceLE, Int.reduceLT, Int.reduceNeg, Nat.reduceLeDiff, VOpd.ev, Nat.reduceEqDiff, Nat.reduceAdd, reduceIte, reduceCtorEq, splice, resOf, tupOf, cellsV, AV.toV, AV.cell?, cellVal]
  refine anyCond (mB m0) (fun e s' => e 7 = .ptr (st.length + 1) 0 ∧ e 8 = .ptr (st.length + 2) 0 ∧ e 9 = .ptr ub 0 ∧ e 10 = .ptr bb (x * 6) ∧ ∃ w', e 12 = w' ∧ UPtr s' ub (st.length + 3) sz bl2 f { U with regs := extRegs U way } ∧ OwnS s' (S1.length + 1) w' 7 ((U.blocks[x].ops ++ extOps U U.blocks[x] way).map OpV.row) ∧
    s'[st.length + 1]? = some ⟨[bw, iA by_.e.k, iA by_.e.a, iA by_.e.t, iA by_.e.e, iA by_.catch_], 0, 0⟩ ∧ s'[st.length + 2]? = some ⟨[.sc (.slice none 0 0), iA 0, iA 0, iA 0, iA 0, .sc (.slice none 0 0)], 0, 0⟩ ∧ S1.length + 1 ≤ s'.length ∧ Agree (fun n => st.length ≤ n) st s') ?_ ?_
  · have hAst : Agree (fun n => st.length ≤ n) st S2 := (hSt.trans hag12).mono fun n hn h => by
      rcases h with h | h
      · exact h.elim
      · omega
    refine condO_intro ?_ ?_ <;> intro hc
    · have hway : way = 1 := of_decide_eq_true hc
      subst hway
      simp only [hc, d4, dE, hw1r, kB, kZ, kD, fillA, partsEv, zeroes, Nat.reduceSub, Int.reduceToNat, Nat.reduceMul, asInt?, asNat?, Int.reduceAdd, Int.reduceLE, Int.reduceLT, Int.reduceNeg, Nat.reduceLeDiff, VOpd.ev, Nat.reduceEqDiff, Nat.reduceAdd, reduceIte, reduceCtorEq, splice, resOf, tupOf, cellsV, AV.toV, AV.cell?, cellVal]
      have hag3 := Agree.app (fun _ => False) S2 [⟨[iA 1, iA U.regs, iA 0, iA 0, iA 0, iA 0, iA (-1), iA 11, iA (U.regs + 1), iA U.blocks[x].e.a, iA U.regs, iA 0, iA 0, iA (-1), iA 21, iA 0, iA (U.regs + 1), iA 0, iA 0, iA U.blocks[x].e.e, iA (-1)], 0, 0⟩]
      have hU3 := hU2.agree hag3 (fun h => h) (fun _ _ _ h => h)
      have hw3 := hw1.agree hag3 (fun _ _ h => h)
      have hb3 : (S2 ++ [⟨[iA 1, iA U.regs, iA 0, iA 0, iA 0, iA 0, iA (-1), iA 11, iA (U.regs + 1), iA U.blocks[x].e.a, iA U.regs, iA 0, iA 0, iA (-1), iA 21, iA 0, iA (U.regs + 1), iA 0, iA 0, iA U.blocks[x].e.e, iA (-1)], 0, 0⟩] : St)[S2.length]? = some ⟨((ext1 U U.blocks[x]).map OpV.row).flatten, 0, 0⟩ := by rw [List.getElem?_append_right (Nat.le_refl _), Nat.sub_self]; rfl
      refine opR_append (vx := w1) (vy := .sl S2.length 0 3 7 true) (lo := S1.length + 1) (lo' := S2.length) (hi' := S2.length + 1) (rows := U.blocks[x].ops.map OpV.row) (rows2 := (ext1 U U.blocks[x]).map OpV.row) ?_ ?_ hw3 ?_ ?_ ?_ (opRow_cells _) ?_
      · simp only [kB, kZ, kD, fillA, partsEv, zeroes, Nat.reduceSub, Int.reduceToNat, Nat.reduceMul, asInt?, asNat?, Int.reduceAdd, Int.reduceLE, Int.reduceLT, Int.reduceNeg, Nat.reduceLeDiff, VOpd.ev, Nat.reduceEqDiff, Nat.reduceAdd, reduceIte, reduceCtorEq, splice, resOf, tupOf, cellsV, AV.toV, AV.cell?, cellVal]
      · simp only [kB, kZ, kD, fillA, partsEv, zeroes, Nat.reduceSub, Int.reduceToNat, Nat.reduceMul, asInt?, asNat?, Int.reduceAdd, Int.reduceLE, Int.reduceLT, Int.reduceNeg, Nat.reduceLeDiff, VOpd.ev, Nat.reduceEqDiff, Nat.reduceAdd, reduceIte, reduceCtorEq, splice, resOf, tupOf, cellsV, AV.toV, AV.cell?, cellVal]
      · simp; omega
      · refine ArrAt.ofBox hb3 (by decide) (fun r hr => ?_) rfl
        obtain ⟨o, _, rfl⟩ := List.mem_map.1 hr
        rfl
      · simp only [List.length_map, ext1, List.length_cons, List.length_nil]
        omega
      intro w S4 hag4 hw4 hor4
      rw [← List.map_append] at hw4
      have hwb : ∀ n, boxOf w1 = some n → S1.length + 1 ≤ n := fun n hn => (hw1.bnd n hn).1
      have hU4 := hU3.agree hag4 (fun h => by have := hwb _ h.2; omega) (fun b hb _ h => by have := hwb _ h.2; have := hUx b hb; omega)
      have h4c := hag4.box (hag3.box h4b (fun h => h)) (fun h => by have := hwb _ h.2; omega)
      have h7c := hag4.box (hag3.box h7b (fun h => h)) (fun h => by have := hwb _ h.2; omega)
      have h8c := hag4.box (hag3.box h8b (fun h => h)) (fun h => by have := hwb _ h.2; omega)
      have d4c := at1_box h4c (by decide)
      obtain ⟨S5, hput5, hag5, hU5⟩ := hU4.regs (U.regs + 2)
      simp only [d4c, hw2r, hput5, kB, kZ, kD, fillA, partsEv, zeroes, Nat.reduceSub, Int.reduceToNat, Nat.reduceMul, asInt?, asNat?, Int.reduceAdd, Int.reduceLE, Int.reduceLT, Int.reduceNeg, Nat.reduceLeDiff, VOpd.ev, Nat.reduceEqDiff, Nat.reduceAdd, reduceIte, reduceCtorEq, splice, resOf, tupOf, cellsV, AV.toV, AV.cell?, cellVal]
      refine ⟨hU5, hw4.agree hag5 (fun b hb e => ?_), hag5.box h7c (by omega), hag5.box h8c (by omega), (have h4l : S2.length + 1 ≤ S4.length := (by have := hag4.len; simpa using this); have := hag5.len; by omega), ?_⟩
      · have := (hw4.bnd b hb).1; omega
      · exact (((hAst.trans hag3).trans hag4).trans hag5).mono fun n hn h => by
          rcases h with ((h | h) | h) | h
          · exact h
          · exact h.elim
          · have := hwb _ h.2; omega
          · omega
    · have hway : ¬ way = 1 := of_decide_eq_false hc
      simp only [hc, kB, kZ, kD, fillA, partsEv, zeroes, Nat.reduceSub, Int.reduceToNat, Nat.reduceMul, asInt?, asNat?, Int.reduceAdd, Int.reduceLE, Int.reduceLT, Int.reduceNeg, Nat.reduceLeDiff, VOpd.ev, Nat.reduceEqDiff, Nat.reduceAdd, reduceIte, reduceCtorEq, splice, resOf, tupOf, cellsV, AV.toV, AV.cell?, cellVal]
      refine condO_intro ?_ ?_ <;> intro hc2
      · have hway : way = 2 := of_decide_eq_true hc2
        subst hway
        simp only [hc, d4, dE, kB, kZ, kD, fillA, partsEv, zeroes, Nat.reduceSub, Int.reduceToNat, Nat.reduceMul, asInt?, asNat?, Int.reduceAdd, Int.reduceLE, Int.reduceLT, Int.reduceNeg, Nat.reduceLeDiff, VOpd.ev, Nat.reduceEqDiff, Nat.reduceAdd, reduceIte, reduceCtorEq, splice, resOf, tupOf, cellsV, AV.toV, AV.cell?, cellVal]
        have hag3 := Agree.app (fun _ => False) S2 [⟨[iA 21, iA 0, iA U.blocks[x].e.a, iA 0, iA 0, iA U.blocks[x].e.t, iA (-1)], 0, 0⟩]
        have hU3 := hU2.agree hag3 (fun h => h) (fun _ _ _ h => h)
        have hw3 := hw1.agree hag3 (fun _ _ h => h)
        have hb3 : (S2 ++ [⟨[iA 21, iA 0, iA U.blocks[x].e.a, iA 0, iA 0, iA U.blocks[x].e.t, iA (-1)], 0, 0⟩] : St)[S2.length]? = some ⟨((ext2 U.blocks[x]).map OpV.row).flatten, 0, 0⟩ := by rw [List.getElem?_append_right (Nat.le_refl _), Nat.sub_self]; rfl
        refine opR_append (vx := w1) (vy := .sl S2.length 0 1 7 true) (lo := S1.length + 1) (lo' := S2.length) (hi' := S2.length + 1) (rows := U.blocks[x].ops.map OpV.row) (rows2 := (ext2 U.blocks[x]).map OpV.row) ?_ ?_ hw3 ?_ ?_ ?_ (opRow_cells _) ?_
        · simp only [kB, kZ, kD, fillA, partsEv, zeroes, Nat.reduceSub, Int.reduceToNat, Nat.reduceMul, asInt?, asNat?, Int.reduceAdd, Int.reduceLE, Int.reduceLT, Int.reduceNeg, Nat.reduceLeDiff, VOpd.ev, Nat.reduceEqDiff, Nat.reduceAdd, reduceIte, reduceCtorEq, splice, resOf, tupOf, cellsV, AV.toV, AV.cell?, cellVal]
        · simp only [kB, kZ, kD, fillA, partsEv, zeroes, Nat.reduceSub, Int.reduceToNat, Nat.reduceMul, asInt?, asNat?, Int.reduceAdd, Int.reduceLE, Int.reduceLT, Int.reduceNeg, Nat.reduceLeDiff, VOpd.ev, Nat.reduceEqDiff, Nat.reduceAdd, reduceIte, reduceCtorEq, splice, resOf, tupOf, cellsV, AV.toV, AV.cell?, cellVal]
        · simp; omega
        · refine ArrAt.ofBox hb3 (by decide) (fun r hr => ?_) rfl
          obtain ⟨o, _, rfl⟩ := List.mem_map.1 hr
          rfl
        · simp only [List.length_map, ext2, List.length_cons, List.length_nil]
          omega
        intro w S4 hag4 hw4 hor4
        rw [← List.map_append] at hw4
        have hwb : ∀ n, boxOf w1 = some n → S1.length + 1 ≤ n := fun n hn => (hw1.bnd n hn).1
        have hU4 := hU3.agree hag4 (fun h => by have := hwb _ h.2; omega) (fun b hb _ h => by have := hwb _ h.2; have := hUx b hb; omega)
        have h7c := hag4.box (hag3.box h7b (fun h => h)) (fun h => by have := hwb _ h.2; omega)
        have h8c := hag4.box (hag3.box h8b (fun h => h)) (fun h => by have := hwb _ h.2; omega)
        simp only [kB, kZ, kD, fillA, partsEv, zeroes, Nat.reduceSub, Int.reduceToNat, Nat.reduceMul, asInt?, asNat?, Int.reduceAdd, Int.reduceLE, Int.reduceLT, Int.reduceNeg, Nat.reduceLeDiff, VOpd.ev, Nat.reduceEqDiff, Nat.reduceAdd, reduceIte, reduceCtorEq, splice, resOf, tupOf, cellsV, AV.toV, AV.cell?, cellVal]
        refine ⟨hU4, hw4, h7c, h8c, (have h4l : S2.length + 1 ≤ S4.length := (by have := hag4.len; simpa using this); by omega), ?_⟩
        exact ((hAst.trans hag3).trans hag4).mono fun n hn h => by
          rcases h with (h | h) | h
          · exact h
          · exact h.elim
          · have := hwb _ h.2; omega
      · have hway2 : ¬ way = 2 := of_decide_eq_false hc2
        simp only [hc, kB, kZ, kD, fillA, partsEv, zeroes, Nat.reduceSub, Int.reduceToNat, Nat.reduceMul, asInt?, asNat?, Int.reduceAdd, Int.reduceLE, Int.reduceLT, Int.reduceNeg, Nat.reduceLeDiff, VOpd.ev, Nat.reduceEqDiff, Nat.reduceAdd, reduceIte, reduceCtorEq, splice, resOf, tupOf, cellsV, AV.toV, AV.cell?, cellVal]
        rw [extOps_no U _ way hway hway2, List.append_nil]
        have hr : extRegs U way = U.regs := by simp [extRegs, hway]
        rw [hr]
        exact ⟨hU2, hw1, h7b, h8b, by omega, hAst⟩
  · intro e s' ⟨e7, e8, e9, e10, w', e12, hU6, hw6, h7d, h8d, hge, hAd⟩
    have d7 := at1_box h7d (by decide)
    have d7N := atN_box h7d (by decide) 1 4 (by simp)
    simp only [kB, kZ, kD, fillA, partsEv, zeroes, Nat.reduceSub, Int.reduceToNat, Nat.reduceMul, asInt?, asNat?, Int.reduceAdd, Int.reduceLE, Int.reduceLT, Int.reduceNeg, Nat.reduceLeDiff, VOpd.ev, Nat.reduceEqDiff, Nat.reduceAdd, reduceIte, reduceCtorEq, splice, resOf, tupOf, cellsV, AV.toV, AV.cell?, cellVal] at d7N
    have hby2 := hby.agree hAd (fun b hb h => by have := hby.boxlt hb; omega)
    have hel3 : (extOps U U.blocks[x] way).length ≤ 3 := by
      unfold extOps
      split
      · simp
      · split <;> simp
    have hstl := hSt.len
    have hulen := hU1.lt
    simp only [e7, e8, e9, e10, e12, d7, d7N, kB, kZ, kD, fillA, partsEv, zeroes, Nat.reduceSub, Int.reduceToNat, Nat.reduceMul, asInt?, asNat?, Int.reduceAdd, Int.reduceLE, Int.reduceLT, Int.reduceNeg, Nat.reduceLeDiff, VOpd.ev, Nat.reduceEqDiff, Nat.reduceAdd, reduceIte, reduceCtorEq, splice, resOf, tupOf, cellsV, AV.toV, AV.cell?, cellVal]
    refine opR_append (vx := w') (vy := bw) (lo := S1.length + 1) (rows := (U.blocks[x].ops ++ extOps U U.blocks[x] way).map OpV.row) (rows2 := by_.ops.map OpV.row) ?_ ?_ hw6 ?_ hby2 ?_ (opRow_cells _) ?_
    · simp only [kB, kZ, kD, fillA, partsEv, zeroes, Nat.reduceSub, Int.reduceToNat, Nat.reduceMul, asInt?, asNat?, Int.reduceAdd, Int.reduceLE, Int.reduceLT, Int.reduceNeg, Nat.reduceLeDiff, VOpd.ev, Nat.reduceEqDiff, Nat.reduceAdd, reduceIte, reduceCtorEq, splice, resOf, tupOf, cellsV, AV.toV, AV.cell?, cellVal]
    · simp only [kB, kZ, kD, fillA, partsEv, zeroes, Nat.reduceSub, Int.reduceToNat, Nat.reduceMul, asInt?, asNat?, Int.reduceAdd, Int.reduceLE, Int.reduceLT, Int.reduceNeg, Nat.reduceLeDiff, VOpd.ev, Nat.reduceEqDiff, Nat.reduceAdd, reduceIte, reduceCtorEq, splice, resOf, tupOf, cellsV, AV.toV, AV.cell?, cellVal]
    · exact hge
    · simp only [List.length_map, List.length_append]
      omega
    intro w3 S7 hag7 hw7 _
    rw [← List.map_append] at hw7
    have hwb : ∀ n, boxOf w' = some n → S1.length + 1 ≤ n := fun n hn => (hw6.bnd n hn).1
    have hU7 := hU6.agree hag7 (fun h => by have := hwb _ h.2; omega) (fun b hb _ h => by have := hwb _ h.2; have := hUx b hb; omega)
    have h7e := hag7.box h7d (fun h => by have := hwb _ h.2; omega)
    have h8e := hag7.box h8d (fun h => by have := hwb _ h.2; omega)
    have hwc := isCell_len hw7.arr.len
    have hwo := cellsOf_len hw7.arr.len
    obtain ⟨bb', S8, hbb', hel8, hput8, hag8, hU8⟩ := hU7.setops x hx _ (hw7.low (by omega)) (fun n hn => by
      have := (hw7.bnd n hn).1
      exact ⟨fun hb => by have := hUx n hb; omega, by omega⟩)
    rw [hbb] at hbb'
    cases hbb'
    obtain ⟨bb', S9, hbb', hel9, hput9, hag9, hU9⟩ := hU8.setend x (by simp; exact hx) by_.e
    rw [hbb] at hbb'
    cases hbb'
    refine ⟨kept_one (b := st.length + 1) (o := 1) (by simp only [e7, kB, kZ, kD, fillA, partsEv, zeroes, Nat.reduceSub, Int.reduceToNat, Nat.reduceMul, asInt?, asNat?, Int.reduceAdd, Int.reduceLE, Int.reduceLT, Int.reduceNeg, Nat.reduceLeDiff, VOpd.ev, Nat.reduceEqDiff, Nat.reduceAdd, reduceIte, reduceCtorEq, splice, resOf, tupOf, cellsV, AV.toV, AV.cell?, cellVal]) (by rw [h7e, h7d]), ?_⟩
    have hk8 : ∀ env : Env, env 73 = .ptr (st.length + 1) 1 → keptA env S7 S8 [.tmp 73] = true := fun env he => kept_one (b := st.length + 1) (o := 1) he (by rw [hag8.eq _ (List.getElem?_eq_some_iff.1 h7e).1 (by omega)])
    obtain ⟨ver9, hb9⟩ := hU9.box
    have d9 := atN_box hb9 (by decide) 0 6 (by simp)
    simp only [kB, kZ, kD, fillA, partsEv, zeroes, Nat.reduceSub, Int.reduceToNat, Nat.reduceMul, asInt?, asNat?, Int.reduceAdd, Int.reduceLE, Int.reduceLT, Int.reduceNeg, Nat.reduceLeDiff, VOpd.ev, Nat.reduceEqDiff, Nat.reduceAdd, reduceIte, reduceCtorEq, splice, resOf, tupOf, cellsV, AV.toV, AV.cell?, cellVal] at d9
    have h8g := hag9.box (hag8.box h8e (by omega)) (by omega)
    have hput10 := put_box (o := 0) (vs := [sz, iA U.params, iA (extRegs U way), iA U.code, iA U.spill, bl2]) h8g (by simp) (by simp only [hszc, hblc, kB, kZ, kD, fillA, partsEv, zeroes, Nat.reduceSub, Int.reduceToNat, Nat.reduceMul, asInt?, asNat?, Int.reduceAdd, Int.reduceLE, Int.reduceLT, Int.reduceNeg, Nat.reduceLeDiff, VOpd.ev, Nat.reduceEqDiff, Nat.reduceAdd, reduceIte, reduceCtorEq, splice, resOf, tupOf, cellsV, AV.toV, AV.cell?, cellVal])
    have hag10 := Agree.put hput10
    simp only [kB, kZ, kD, fillA, partsEv, zeroes, Nat.reduceSub, Int.reduceToNat, Nat.reduceMul, asInt?, asNat?, Int.reduceAdd, Int.reduceLE, Int.reduceLT, Int.reduceNeg, Nat.reduceLeDiff, VOpd.ev, Nat.reduceEqDiff, Nat.reduceAdd, reduceIte, reduceCtorEq, splice, resOf, tupOf, cellsV, AV.toV, AV.cell?, cellVal] at hput10
    obtain ⟨S10, hput10, h10, hag10⟩ : ∃ S10, St.put S9 (st.length + 2) 0 [sz, iA U.params, iA (extRegs U way), iA U.code, iA U.spill, bl2] = some S10 ∧ S10[st.length + 2]? = some ⟨[sz, iA U.params, iA (extRegs U way), iA U.code, iA U.spill, bl2], 0, 1⟩ ∧ Agree (fun n => n = st.length + 2) S9 S10 :=
      ⟨_, hput10, by rw [List.getElem?_set_self (List.getElem?_eq_some_iff.1 h8g).1], Agree.set _ _ _⟩
    have d10 := atN_box h10 (by decide) 0 6 (by simp)
    simp only [kB, kZ, kD, fillA, partsEv, zeroes, Nat.reduceSub, Int.reduceToNat, Nat.reduceMul, asInt?, asNat?, Int.reduceAdd, Int.reduceLE, Int.reduceLT, Int.reduceNeg, Nat.reduceLeDiff, VOpd.ev, Nat.reduceEqDiff, Nat.reduceAdd, reduceIte, reduceCtorEq, splice, resOf, tupOf, cellsV, AV.toV, AV.cell?, cellVal] at d10
    simp only [e7, e8, e9, e10, e12, d7, hwc, hwo, hput8, hput9, hk8, d9, hput10, d10, kB, kZ, kD, fillA, partsEv, zeroes, Nat.reduceSub, Int.reduceToNat, Nat.reduceMul, asInt?, asNat?, Int.reduceAdd, Int.reduceLE, Int.reduceLT, Int.reduceNeg, Nat.reduceLeDiff, VOpd.ev, Nat.reduceEqDiff, Nat.reduceAdd, reduceIte, reduceCtorEq, splice, resOf, tupOf, cellsV, AV.toV, AV.cell?, cellVal]
    have hAll : Agree (fun n => st.length ≤ n) st S10 := ((((hAd.trans hag7).trans hag8).trans hag9).trans hag10).mono fun n hn h => by
      rcases h with (((h | h) | h) | h) | h
      · exact h
      · have := hwb _ h.2; omega
      · omega
      · omega
      · omega
    obtain ⟨mm, hmm⟩ := hAll.ext (a := st) ⟨[], by simp⟩ (fun b hb h => by omega)
    have hU10 := hU9.agree hag10 (by omega) (fun b hb hb2 h => by
      have h1 := ubox_lt hU9.z hU9.b hb
      omega)
    have he : extBy U x U.blocks[x] way by_ = { ({ ({ U with regs := extRegs U way } : UnitV) with blocks := U.blocks.set x { U.blocks[x] with ops := U.blocks[x].ops ++ extOps U U.blocks[x] way ++ by_.ops } } : UnitV) with blocks := (U.blocks.set x { U.blocks[x] with ops := U.blocks[x].ops ++ extOps U U.blocks[x] way ++ by_.ops }).set x { (U.blocks.set x { U.blocks[x] with ops := U.blocks[x].ops ++ extOps U U.blocks[x] way ++ by_.ops })[x]'(by simp; exact hx) with e := by_.e } } := by
      rw [List.set_set, List.getElem_set_self]
      rfl
    rw [he]
    exact ⟨_, rfl, ⟨mm, hmm⟩, ⟨sz, bl2, _, rfl, hU10.z.low (by omega), hU10.b.low (by omega)⟩⟩
end
end Go.VX.Seat
end
section
set_option linter.unusedVariables false
set_option linter.unusedSimpArgs false
set_option maxRecDepth 4000
/-! What a right unit is like. -/
namespace Go.VX.Seat
open Go.Proofs
structure BWf (U : UnitV) (b : BlkV) : Prop where
  ops : b.ops.length ≤ 400
  end_ : endErrU U b.e = 0
  op : ∀ o ∈ b.ops, opErrU U o = 0
  catch_ : -1 ≤ b.catch_ ∧ b.catch_ < U.blocks.length
structure Wf (U : UnitV) : Prop where
  sizes : U.sizes.length ≤ 16
  nb : 1 ≤ U.blocks.length ∧ U.blocks.length ≤ 2000
  regs : 1 ≤ U.regs ∧ U.regs ≤ 4096
  spill : 0 ≤ U.spill ∧ U.spill ≤ 4096
  params : 0 ≤ U.params ∧ U.params ≤ 8 ∧ U.params ≤ U.regs
  blk : ∀ b ∈ U.blocks, BWf U b
  tot : total U.blocks ≤ 20000
theorem opsFind_none {U : UnitV} {i : Nat} : ∀ {l : List OpV} {k : Nat}, opsFind U i k l = none → ∀ o ∈ l, opErrU U o = 0
  | [], _, _, o, ho => by cases ho
  | x :: r, k, h, o, ho => by
    unfold opsFind at h
    split at h
    · cases h
    · rename_i hd
      rcases List.mem_cons.1 ho with rfl | ho
      · exact Decidable.not_not.1 fun hn => hd (decide_eq_true hn)
      · exact opsFind_none h o ho
theorem blkFind_none {U : UnitV} : ∀ {l : List BlkV} {i : Nat}, blkFind U i l = none → ∀ b ∈ l, BWf U b
  | [], _, _, b, hb => by cases hb
  | x :: r, i, h, b, hb => by
    unfold blkFind at h
    split at h
    · cases h
    · rename_i h1
      split at h
      · cases h
      · rename_i h2
        split at h
        · cases h
        · rename_i h3
          split at h
          · cases h
          · rename_i h4
            rcases List.mem_cons.1 hb with rfl | hb
            · refine ⟨?_, Decidable.not_not.1 fun hn => h4 (decide_eq_true hn), opsFind_none h3, ?_⟩
              · simp only [decide_eq_true_eq] at h2; omega
              · simp only [Bool.or_eq_true, decide_eq_true_eq] at h1; omega
            · exact blkFind_none h b hb
theorem chk_wf {U : UnitV} (h : chkU U = 0) : Wf U := by
  unfold chkU findU at h
  split at h
  · simp at h
  · rename_i h1
    split at h
    · simp at h
    · rename_i h2
      split at h
      · simp at h
      · rename_i h3
        simp only [limitsU, headU, Bool.or_eq_true, decide_eq_true_eq] at h1 h3
        split at h
        · rename_i x hx
          exact absurd h (blkFind_ne hx)
        · rename_i hn
          split at h
          · simp at h
          · rename_i h4
            simp only [decide_eq_true_eq] at h4
            exact ⟨by omega, by omega, by omega, by omega, by omega, blkFind_none hn, by omega⟩
theorem isWay_to {U : UnitV} {e : EndV} {way : Int} (h : endErrU U e = 0) (hw : isWay e way = true) : ∃ n : Nat, n < U.blocks.length ∧ toOf e way = n := by
  unfold endErrU endErr at h
  split at h
  · simp at h
  · split at h
    · simp at h
    · split at h
      · simp at h
      · rename_i h3
        clear h
        simp only [Bool.or_eq_true, Bool.and_eq_true, Bool.not_eq_true', not_or, not_and, Bool.not_eq_false] at h3
        have key : ∀ t : Int, regOkA U.blocks.length t = true → ∃ n : Nat, n < U.blocks.length ∧ t = n := fun t ht => by
          simp only [regOkA, Bool.and_eq_true, decide_eq_true_eq] at ht
          exact ⟨t.toNat, by omega, by omega⟩
        unfold isWay at hw
        unfold toOf
        cases h5 : wayTo e.k way with
        | true =>
          simp only [if_true]
          refine key _ (h3.1 ?_)
          simp only [wayTo, Bool.or_eq_true, Bool.and_eq_true, decide_eq_true_eq] at h5
          simp only [endTo, Bool.or_eq_true, decide_eq_true_eq]
          omega
        | false =>
          rw [h5, Bool.false_or] at hw
          simp only [Bool.false_eq_true, if_false, hw, if_true]
          refine key _ (h3.2 ?_)
          simp only [wayElse, Bool.and_eq_true, decide_eq_true_eq] at hw
          simp only [endElse, decide_eq_true_eq]
          omega
end Go.VX.Seat
end
section
set_option linter.unusedVariables false
set_option linter.unusedSimpArgs false
set_option maxRecDepth 4000
/-! trace.Extend. -/
namespace Go.VX.Seat
open Go.Proofs
def zeroU : UnitV := ⟨[], 0, 0, 0, 0, []⟩
abbrev zeroA : AV := .agg [.sc (.slice none 0 0), iA 0, iA 0, iA 0, iA 0, .sc (.slice none 0 0)]
theorem own_zero (s : St) (lo : Nat) : OwnU s lo zeroA zeroU :=
  ⟨_, _, fun _ => .sc (.slice none 0 0), rfl, ⟨own_nil _ _ _, fun b h => by cases h⟩, ⟨own_nil _ _ _, fun h => absurd rfl h, fun i h => absurd h (by simp [zeroU]), fun i h => absurd h (by simp [zeroU]), fun i j h => absurd h (by simp [zeroU])⟩⟩
/-- A new unit, and an error. -/
def NewUE (st s : St) (r : CRes) (x : UnitV × Int) : Prop := ∃ w, r = .ret (.tup [w, iA x.2]) ∧ (∃ m, s = st ++ m) ∧ OwnU s st.length w x.1
theorem newUE_zero (st m : St) (e : Int) : NewUE st (st ++ m) (.ret (.tup [zeroA, iA e])) (zeroU, e) := ⟨_, rfl, ⟨m, rfl⟩, own_zero _ _⟩
theorem callO_newUE {X : Cx} {env : Env} {st : St} {Q : Post3} {K : Env → St → Post3 → Prop} {f : FuncId} {args : List AV} {dst : Option Nat} {keep : List VOpd} {x : UnitV × Int} (hw : wpF X f args st fun r s => NewUE st s r x)
    (h : ∀ w m, OwnU (st ++ m) st.length w x.1 → K (env.put dst (.tup [w, iA x.2])) (st ++ m) Q) : callO X f args dst keep K env st Q := by
  refine wpF.mono hw ?_
  rintro r s ⟨w, rfl, ⟨m, rfl⟩, h1⟩
  exact ⟨kept_app _ _ _ _, h w m h1⟩
/-- Whether a block can be extended along a way. -/
def canU (U : UnitV) (x : Nat) (way : Int) : Bool := match U.blocks[x]? with
  | some B => match U.blocks[(toOf B.e way).toNat]? with
    | some C => isWay B.e way && decide (C.catch_ = B.catch_)
    | none => false
  | none => false
def extendR (U : UnitV) (x : Nat) (way : Int) : UnitV × Int :=
  if decide (way < 0) || decide (2 < way) then (zeroU, 2) else if !canU U x way then (zeroU, 5) else
  match U.blocks[x]? with
  | some B => match U.blocks[(toOf B.e way).toNat]? with
    | some C => if decide (chkU (extBy U x B way C) ≠ 0) then (zeroU, 11) else (extBy U x B way C, 0)
    | none => (zeroU, 5)
  | none => (zeroU, 5)
/-- P17.1, with the errors. -/
def extendU (U : UnitV) (b way : Int) : UnitV × Int := if decide (thereU U true b ≠ 0) then (zeroU, thereU U true b) else extendR U b.toNat way
theorem there_zero {U : UnitV} {right : Bool} {b : Int} (h : thereU U right b = 0) : chkU U = 0 ∧ right = true ∧ ∃ x : Nat, x < U.blocks.length ∧ b = x := by
  unfold thereU at h
  split at h
  · rename_i h1
    simp only [decide_eq_true_eq] at h1
    exact absurd h h1
  · rename_i h1
    simp only [decide_eq_true_eq, Decidable.not_not] at h1
    split at h
    · simp at h
    · rename_i h2
      simp only [Bool.or_eq_true, Bool.not_eq_true', decide_eq_true_eq, not_or, Bool.not_eq_false] at h2
      exact ⟨h1, h2.1.1, b.toNat, by omega, by omega⟩
theorem canU_way {U : UnitV} {x n : Nat} (hx : x < U.blocks.length) (hn : n < U.blocks.length) {way : Int} (hto : toOf U.blocks[x].e way = n) : canU U x way = (isWay U.blocks[x].e way && decide (U.blocks[n].catch_ = U.blocks[x].catch_)) := by
  unfold canU
  rw [List.getElem?_eq_getElem hx]
  simp only [hto, Int.toNat_natCast, List.getElem?_eq_getElem hn]
theorem canU_no {U : UnitV} {x : Nat} (hx : x < U.blocks.length) {way : Int} (hw : isWay U.blocks[x].e way = false) : canU U x way = false := by
  unfold canU
  rw [List.getElem?_eq_getElem hx]
  simp only [hw, Bool.false_and]
  split <;> rfl
section
variable {X : Cx} {st : St}
end
end Go.VX.Seat
end
section
set_option linter.unusedVariables false
set_option linter.unusedSimpArgs false
set_option maxRecDepth 4000
/-! biremeref17.Extend; same. -/
namespace Go.VX.Seat
open Go.Proofs
section
variable {X : Cx} {st : St}
end
end Go.VX.Seat
end
section
set_option linter.unusedVariables false
set_option linter.unusedSimpArgs false
set_option maxRecDepth 4000
/-! same; the law TraceExtends. -/
namespace Go.VX.Seat
open Go.Proofs
theorem _root_.Go.VX.Agree.head (st A A' m M : St) (h : A.length = A'.length) : Agree (fun n => n < st.length + A.length) (st ++ (A ++ m)) (st ++ (A' ++ (m ++ M))) :=
  ⟨by simp; omega, fun b hb hx => by
    simp at hb
    have e1 : (st ++ (A ++ m))[b]? = m[b - st.length - A.length]? := by
      rw [List.getElem?_append_right (by omega), List.getElem?_append_right (by omega)]
    have e2 : (st ++ (A' ++ (m ++ M)))[b]? = m[b - st.length - A'.length]? := by
      rw [List.getElem?_append_right (by omega), List.getElem?_append_right (by omega), List.getElem?_append_left (by omega)]
    rw [e1, e2, h]⟩
theorem fits_wf {U : UnitV} (wf : Wf U) : Fits U := ⟨by have := wf.sizes; omega, by have := wf.nb; omega, fun b hb => by have := (wf.blk b hb).ops; omega⟩
theorem fits_zero : Fits zeroU := ⟨by decide, by decide, fun b hb => by cases hb⟩
section
variable {X : Cx} {st : St}
theorem j_l17_same (h : On X) {lo hi lo' hi' : Nat} {v w : AV} {U : UnitV} (hv : UnitAt st lo hi v U) (hw : UnitAt st lo' hi' w U) (f : Int) (hf : f = 0 ∧ Fits U ∨ f ≠ 0 ∧ U = zeroU) :
    J X.P X.F X.H (.call 15 [v, w, iA f, iA f] st (.ret (bA true)) st) := by
  refine pure_intro (by rw [h.F]; rfl) rfl ?_
  have hm := fun L => hv.mono L
  have hm' := fun L => hw.mono L
  obtain ⟨s, bl, rfl, hs, hb⟩ := hv
  obtain ⟨s', bl', rfl, hs', hb'⟩ := hw
  have l1 := hs.len
  have l2 : lenA bl = some U.blocks.length := by
    obtain ⟨f, hb, _⟩ := hb
    have := hb.len
    simpa using this
  simp only [List.length_map] at l1
  simp only [v_l17_same, eq_self, kB, kZ, kD, fillA, partsEv, zeroes, Nat.reduceSub, Int.reduceToNat, Nat.reduceMul, asInt?, asNat?, Int.reduceAdd, Int.reduceLE, Int.reduceLT, Int.reduceNeg, Nat.reduceLeDiff, VOpd.ev, Nat.reduceEqDiff, Nat.reduceAdd, reduceIte, reduceCtorEq, splice, resOf, tupOf, cellsV, AV.toV, AV.cell?, cellVal]
  rcases hf with ⟨rfl, hf⟩ | ⟨hf, rfl⟩
  · simp only [eq_self, kB, kZ, kD, fillA, partsEv, zeroes, Nat.reduceSub, Int.reduceToNat, Nat.reduceMul, asInt?, asNat?, Int.reduceAdd, Int.reduceLE, Int.reduceLT, Int.reduceNeg, Nat.reduceLeDiff, VOpd.ev, Nat.reduceEqDiff, Nat.reduceAdd, reduceIte, reduceCtorEq, splice, resOf, tupOf, cellsV, AV.toV, AV.cell?, cellVal]
    refine callO_same (j_r07_Same h (hm _) (hm' _) hf) ?_
    simp only [eq_self, kB, kZ, kD, fillA, partsEv, zeroes, Nat.reduceSub, Int.reduceToNat, Nat.reduceMul, asInt?, asNat?, Int.reduceAdd, Int.reduceLE, Int.reduceLT, Int.reduceNeg, Nat.reduceLeDiff, VOpd.ev, Nat.reduceEqDiff, Nat.reduceAdd, reduceIte, reduceCtorEq, splice, resOf, tupOf, cellsV, AV.toV, AV.cell?, cellVal]
    first | exact ⟨_, rfl⟩ | exact ⟨rfl, _, rfl⟩ | exact ⟨trivial, _, rfl⟩ | exact ⟨[], (List.append_nil _).symm⟩
  · have hd : decide (f = 0) = false := decide_eq_false hf
    have hd2 : decide (f ≠ 0) = true := decide_eq_true hf
    simp only [zeroU, List.length_nil] at l1 l2
    have w0 : IntKind.wrap .i64 0 = 0 := rfl
    simp only [hd, hd2, l1, l2, w0, zeroU, Int.add_zero, Int.zero_add, Int.natCast_zero, eq_self, kB, kZ, kD, fillA, partsEv, zeroes, Nat.reduceSub, Int.reduceToNat, Nat.reduceMul, asInt?, asNat?, Int.reduceAdd, Int.reduceLE, Int.reduceLT, Int.reduceNeg, Nat.reduceLeDiff, VOpd.ev, Nat.reduceEqDiff, Nat.reduceAdd, reduceIte, reduceCtorEq, splice, resOf, tupOf, cellsV, AV.toV, AV.cell?, cellVal]
    first | exact ⟨_, rfl⟩ | exact ⟨rfl, _, rfl⟩ | exact ⟨trivial, _, rfl⟩ | exact ⟨[], (List.append_nil _).symm⟩
theorem chk_cut_fits (U : UnitV) : Fits (cutU U 16 60) := by
  have hlen : ∀ (l : List BlkV) (n : Nat) (k : Int), (cutB l n k).length ≤ n := fun l => by
    induction l with
    | nil => intro n k; simp [cutB]
    | cons b r ih =>
      intro n k
      cases n with
      | zero => simp [cutB]
      | succ n => simp only [cutB, List.length_cons]; have := ih n (k - (b.ops.take k.toNat).length); omega
  have hops : ∀ (l : List BlkV) (n : Nat) (k : Int), k ≤ 60 → ∀ b ∈ cutB l n k, b.ops.length ≤ 60 := fun l => by
    induction l with
    | nil => intro n k _ b hb; simp [cutB] at hb
    | cons x r ih =>
      intro n k hk b hb
      cases n with
      | zero => simp [cutB] at hb
      | succ n =>
        simp only [cutB] at hb
        rcases List.mem_cons.1 hb with rfl | hb
        · simp; omega
        · exact ih n _ (by omega) b hb
  refine ⟨?_, ?_, fun b hb => ?_⟩
  · simp [cutU]; omega
  · have := hlen U.blocks 16 60
    simp only [cutU]; omega
  · have := hops U.blocks 16 60 (by omega) b hb
    omega
theorem extendR_cases (U : UnitV) (x : Nat) (way : Int) : ((extendR U x way).2 = 0 ∧ Fits (extendR U x way).1) ∨ ((extendR U x way).2 ≠ 0 ∧ (extendR U x way).1 = zeroU) := by
  unfold extendR
  split
  · exact .inr ⟨by decide, rfl⟩
  · split
    · exact .inr ⟨by decide, rfl⟩
    · split
      · split
        · split
          · exact .inr ⟨by decide, rfl⟩
          · rename_i hn
            exact .inl ⟨rfl, fits_wf (chk_wf (by simpa using hn))⟩
        · exact .inr ⟨by decide, rfl⟩
      · exact .inr ⟨by decide, rfl⟩
end
end Go.VX.Seat
end
section
set_option linter.unusedVariables false
set_option linter.unusedSimpArgs false
set_option maxRecDepth 4000
/-! Blocks that go to themselves. -/
namespace Go.VX.Seat
open Go.Proofs
def selfG (e : EndV) (x w : Int) : Bool := isWay e w && decide (toOf e w = x)
/-- The way by which a block goes to itself; -1: there is none. -/
def selfN (e : EndV) (x : Int) : Int := if selfG e x 0 then 0 else if selfG e x 1 then 1 else if selfG e x 2 then 2 else -1
theorem selfN_hit {e : EndV} {x : Int} {i : Nat} (h3 : i < 3) (h : selfG e x i = true) (hb : ∀ j : Nat, j < i → selfG e x j = false) : selfN e x = i := by
  unfold selfN
  match i, h3 with
  | 0, _ =>
    have h0 : selfG e x 0 = true := h
    rw [h0]; rfl
  | 1, _ =>
    have h0 := hb 0 (by omega)
    have h0 : selfG e x 0 = false := h0
    have h1 : selfG e x 1 = true := h
    rw [h0, h1]; rfl
  | 2, _ =>
    have h0 : selfG e x 0 = false := hb 0 (by omega)
    have h1 : selfG e x 1 = false := hb 1 (by omega)
    have h2 : selfG e x 2 = true := h
    rw [h0, h1, h2]; rfl
theorem selfN_none {e : EndV} {x : Int} (hb : ∀ j : Nat, j < 3 → selfG e x j = false) : selfN e x = -1 := by
  have h0 : selfG e x 0 = false := hb 0 (by omega)
  have h1 : selfG e x 1 = false := hb 1 (by omega)
  have h2 : selfG e x 2 = false := hb 2 (by omega)
  unfold selfN
  rw [h0, h1, h2]; rfl
section
variable {X : Cx} {st : St}
theorem j_r17_self (h : On X) {lo hi : Nat} {v : AV} {U : UnitV} (hv : UnitAt st lo hi v U) (x : Nat) (hx : x < U.blocks.length) :
    J X.P X.F X.H (.call 53 [v, iA x] st (.ret (iA (selfN U.blocks[x].e x))) st) := by
  refine pure_intro (by rw [h.F]; rfl) rfl ?_
  obtain ⟨s, bl, rfl, hs, hb⟩ := hv
  obtain ⟨f, hb, hbo⟩ := hb
  obtain ⟨b1, o1, he1, hn1, ha1, hm1⟩ := hb.get x (by simpa using hx)
  simp only [List.getElem_mapIdx, BlkV.row] at hn1 ha1 hm1
  have r1 := fun L => hm1 L 1 4 (by omega)
  simp only [kB, kZ, kD, fillA, partsEv, zeroes, Nat.reduceSub, Int.reduceToNat, Nat.reduceMul, asInt?, asNat?, Int.reduceAdd, Int.reduceLE, Int.reduceLT, Int.reduceNeg, Nat.reduceLeDiff, VOpd.ev, Nat.reduceEqDiff, Nat.reduceAdd, reduceIte, reduceCtorEq, splice, resOf, tupOf, cellsV, AV.toV, AV.cell?, cellVal] at r1
  simp only [v_r17_self, kB, kZ, kD, fillA, partsEv, zeroes, Nat.reduceSub, Int.reduceToNat, Nat.reduceMul, asInt?, asNat?, Int.reduceAdd, Int.reduceLE, Int.reduceLT, Int.reduceNeg, Nat.reduceLeDiff, VOpd.ev, Nat.reduceEqDiff, Nat.reduceAdd, reduceIte, reduceCtorEq, splice, resOf, tupOf, cellsV, AV.toV, AV.cell?, cellVal]
  refine loop_live [1, 2] (fun m e => ∃ i : Nat, i + m = 3 ∧ e 5 = iA i ∧ ∀ j : Nat, j < i → selfG U.blocks[x].e x j = false) 3 ?_ ?_
  · exact ⟨0, rfl, by simp only [kB, kZ, kD, fillA, partsEv, zeroes, Nat.reduceSub, Int.reduceToNat, Nat.reduceMul, asInt?, asNat?, Int.reduceAdd, Int.reduceLE, Int.reduceLT, Int.reduceNeg, Nat.reduceLeDiff, VOpd.ev, Nat.reduceEqDiff, Nat.reduceAdd, reduceIte, reduceCtorEq, splice, resOf, tupOf, cellsV, AV.toV, AV.cell?, cellVal], fun j hj => absurd hj (by omega)⟩
  · intro m e hL ⟨i, him, h5, hpre⟩
    simp only [kB, kZ, kD, fillA, partsEv, zeroes, Nat.reduceSub, Int.reduceToNat, Nat.reduceMul, asInt?, asNat?, Int.reduceAdd, Int.reduceLE, Int.reduceLT, Int.reduceNeg, Nat.reduceLeDiff, VOpd.ev, Nat.reduceEqDiff, Nat.reduceAdd, reduceIte, reduceCtorEq, splice, resOf, tupOf, cellsV, AV.toV, AV.cell?, cellVal] at hL
    obtain ⟨h1, h2⟩ := hL
    simp only [h1, h2, h5, kB, kZ, kD, fillA, partsEv, zeroes, Nat.reduceSub, Int.reduceToNat, Nat.reduceMul, asInt?, asNat?, Int.reduceAdd, Int.reduceLE, Int.reduceLT, Int.reduceNeg, Nat.reduceLeDiff, VOpd.ev, Nat.reduceEqDiff, Nat.reduceAdd, reduceIte, reduceCtorEq, splice, resOf, tupOf, cellsV, AV.toV, AV.cell?, cellVal]
    refine condO_intro ?_ ?_ <;> intro hc <;> simp only [kB, kZ, kD, fillA, partsEv, zeroes, Nat.reduceSub, Int.reduceToNat, Nat.reduceMul, asInt?, asNat?, Int.reduceAdd, Int.reduceLE, Int.reduceLT, Int.reduceNeg, Nat.reduceLeDiff, VOpd.ev, Nat.reduceEqDiff, Nat.reduceAdd, reduceIte, reduceCtorEq, splice, resOf, tupOf, cellsV, AV.toV, AV.cell?, cellVal]
    · have hi : i < 3 := by have := of_decide_eq_true hc; omega
      simp only [h1, h2, h5, he1, r1, kB, kZ, kD, fillA, partsEv, zeroes, Nat.reduceSub, Int.reduceToNat, Nat.reduceMul, asInt?, asNat?, Int.reduceAdd, Int.reduceLE, Int.reduceLT, Int.reduceNeg, Nat.reduceLeDiff, VOpd.ev, Nat.reduceEqDiff, Nat.reduceAdd, reduceIte, reduceCtorEq, splice, resOf, tupOf, cellsV, AV.toV, AV.cell?, cellVal]
      refine callO_same (j_r17_Next h _ _ _ _ _) ?_
      simp only [h1, kB, kZ, kD, fillA, partsEv, zeroes, Nat.reduceSub, Int.reduceToNat, Nat.reduceMul, asInt?, asNat?, Int.reduceAdd, Int.reduceLE, Int.reduceLT, Int.reduceNeg, Nat.reduceLeDiff, VOpd.ev, Nat.reduceEqDiff, Nat.reduceAdd, reduceIte, reduceCtorEq, splice, resOf, tupOf, cellsV, AV.toV, AV.cell?, cellVal]
      have hw : (wayTo U.blocks[x].e.k i || wayElse U.blocks[x].e.k i) = isWay U.blocks[x].e i := rfl
      have ht : (if wayTo U.blocks[x].e.k i then U.blocks[x].e.t else if wayElse U.blocks[x].e.k i then U.blocks[x].e.e else 0) = toOf U.blocks[x].e i := rfl
      simp only [hw, ht]
      refine anyG m0 (fun e' s' => s' = st ++ ([⟨[s, iA U.params, iA U.regs, iA U.code, iA U.spill, bl], 0, 0⟩] : St) ∧ e' 1 = iA x ∧ e' 2 = .ptr (st.length + 0) 0 ∧ e' 5 = iA i ∧ e' 28 = bA (selfG U.blocks[x].e x i)) ?_ ?_
      · unfold selfG
        refine gO_t ?_ ?_ <;> intro hc2
        · simp only [hc2, h1, h2, h5, kB, kZ, kD, fillA, partsEv, zeroes, Nat.reduceSub, Int.reduceToNat, Nat.reduceMul, asInt?, asNat?, Int.reduceAdd, Int.reduceLE, Int.reduceLT, Int.reduceNeg, Nat.reduceLeDiff, VOpd.ev, Nat.reduceEqDiff, Nat.reduceAdd, reduceIte, reduceCtorEq, splice, resOf, tupOf, cellsV, AV.toV, AV.cell?, cellVal]
        · simp only [hc2, h1, h2, h5, kB, kZ, kD, fillA, partsEv, zeroes, Nat.reduceSub, Int.reduceToNat, Nat.reduceMul, asInt?, asNat?, Int.reduceAdd, Int.reduceLE, Int.reduceLT, Int.reduceNeg, Nat.reduceLeDiff, VOpd.ev, Nat.reduceEqDiff, Nat.reduceAdd, reduceIte, reduceCtorEq, splice, resOf, tupOf, cellsV, AV.toV, AV.cell?, cellVal]
      · rintro e' s' ⟨rfl, q1, q2, q5, q28⟩
        simp only [q28, kB, kZ, kD, fillA, partsEv, zeroes, Nat.reduceSub, Int.reduceToNat, Nat.reduceMul, asInt?, asNat?, Int.reduceAdd, Int.reduceLE, Int.reduceLT, Int.reduceNeg, Nat.reduceLeDiff, VOpd.ev, Nat.reduceEqDiff, Nat.reduceAdd, reduceIte, reduceCtorEq, splice, resOf, tupOf, cellsV, AV.toV, AV.cell?, cellVal]
        refine condO_intro ?_ ?_ <;> intro hc2
        · simp only [q5, kB, kZ, kD, fillA, partsEv, zeroes, Nat.reduceSub, Int.reduceToNat, Nat.reduceMul, asInt?, asNat?, Int.reduceAdd, Int.reduceLE, Int.reduceLT, Int.reduceNeg, Nat.reduceLeDiff, VOpd.ev, Nat.reduceEqDiff, Nat.reduceAdd, reduceIte, reduceCtorEq, splice, resOf, tupOf, cellsV, AV.toV, AV.cell?, cellVal]
          rw [selfN_hit hi hc2 hpre]
          first | exact ⟨_, rfl⟩ | exact ⟨rfl, _, rfl⟩ | exact ⟨trivial, _, rfl⟩ | exact ⟨[], (List.append_nil _).symm⟩
        · simp only [q5, kB, kZ, kD, fillA, partsEv, zeroes, Nat.reduceSub, Int.reduceToNat, Nat.reduceMul, asInt?, asNat?, Int.reduceAdd, Int.reduceLE, Int.reduceLT, Int.reduceNeg, Nat.reduceLeDiff, VOpd.ev, Nat.reduceEqDiff, Nat.reduceAdd, reduceIte, reduceCtorEq, splice, resOf, tupOf, cellsV, AV.toV, AV.cell?, cellVal]
          rw [wrap_small (by omega) (by omega)]
          refine ⟨m - 1, by omega, ⟨q1, q2⟩, i + 1, by omega, by simp, fun j hj => ?_⟩
          by_cases hji : j = i
          · subst hji; exact hc2
          · exact hpre j (by omega)
    · have hi : i = 3 := by have := of_decide_eq_false hc; omega
      subst hi
      rw [selfN_none hpre]
      first | exact ⟨_, rfl⟩ | exact ⟨rfl, _, rfl⟩ | exact ⟨trivial, _, rfl⟩ | exact ⟨[], (List.append_nil _).symm⟩
end
end Go.VX.Seat
end
section
set_option linter.unusedVariables false
set_option linter.unusedSimpArgs false
set_option maxRecDepth 4000
/-! trace.around. -/
namespace Go.VX.Seat
open Go.Proofs
section
variable {X : Cx} {st : St}
end
end Go.VX.Seat
end
section
set_option linter.unusedVariables false
set_option linter.unusedSimpArgs false
set_option maxRecDepth 4000
/-! Lists of numbers: compared, appended to; the loops of a unit. -/
namespace Go.VX.Seat
open Go.Proofs
def selfAt (U : UnitV) (i : Nat) : Bool := match U.blocks[i]? with
  | some B => decide (0 ≤ selfN B.e i)
  | none => false
def loopsTo (U : UnitV) : Nat → List Int
  | 0 => []
  | i + 1 => if selfAt U i then loopsTo U i ++ [(i : Int)] else loopsTo U i
theorem loopsTo_len (U : UnitV) : ∀ n, (loopsTo U n).length ≤ n
  | 0 => by simp [loopsTo]
  | i + 1 => by
    have := loopsTo_len U i
    unfold loopsTo
    split <;> simp <;> omega
theorem selfAt_eq {U : UnitV} {i : Nat} (hi : i < U.blocks.length) : selfAt U i = decide (0 ≤ selfN U.blocks[i].e i) := by
  unfold selfAt
  rw [List.getElem?_eq_getElem hi]
section
variable {X : Cx} {st : St}
theorem opR_push {X : Cx} {K : Env → St → Post3 → Prop} {Q : Post3} {d : Option Nat} {env : Env} {S : St} {lo : Nat} {x y : VOpd} {l : List Int} {vx : AV} {T : St} {b : Nat} (n : Int) (hT : T = S ++ [⟨[iA n], 0, 0⟩]) (hb0 : b = S.length) (ex : x.ev env = vx) (ey : y.ev env = .sl b 0 1 1 true)
    (hx : OwnS S lo vx 1 (l.map fun n => [iA n])) (hlo : lo ≤ S.length) (hsz : l.length ≤ 1000000)
    (h : ∀ w s', Agree (fun b => boxOf vx = some b) S s' → OwnS s' lo w 1 ((l ++ [n]).map fun n => [iA n]) → K (env.put d w) s' Q) :
    opR X K d [] env T Q (vop X.P (.append 1 8 x y) env T) := by
  subst hT; subst hb0
  have hag := Agree.app (fun _ => False) S [⟨[iA n], 0, 0⟩]
  have hb : (S ++ [⟨[iA n], 0, 0⟩] : St)[S.length]? = some ⟨([n].map fun n => [iA n]).flatten, 0, 0⟩ := by simp
  refine opR_append (vx := vx) (vy := .sl S.length 0 1 1 true) (lo := lo) (lo' := S.length) (hi' := S.length + 1) (rows := l.map fun n => [iA n]) (rows2 := [n].map fun n => [iA n]) ex ey (hx.agree hag (fun _ _ h => h)) ?_ ?_ ?_ (intRow_cells [n]) ?_
  · simp; omega
  · refine ArrAt.ofBox hb (by decide) (fun r hr => ?_) rfl
    simp at hr
    rw [hr]; rfl
  · simp only [List.length_map, List.length_cons, List.length_nil]
    omega
  · intro w s' hag2 hw hor
    rw [← List.map_append] at hw
    exact ⟨keptA_nil _ _ _, h w s' ((hag.trans hag2).mono fun b _ hb => by
      rcases hb with h | h
      · exact h.elim
      · exact h.2) hw⟩
/-- A new list of numbers. -/
def NewInts (st s : St) (w : AV) (l : List Int) : Prop := (∃ m, s = st ++ m) ∧ OwnS s st.length w 1 (l.map fun n => [iA n])
end
end Go.VX.Seat
end
section
set_option linter.unusedVariables false
set_option linter.unusedSimpArgs false
set_option maxRecDepth 4000
/-! trace.Unroll. -/
namespace Go.VX.Seat
open Go.Proofs
def extAt (U : UnitV) (x : Nat) (way : Int) (C : BlkV) : UnitV := match U.blocks[x]? with
  | some B => extBy U x B way C
  | none => U
theorem extAt_eq {U : UnitV} {x : Nat} (hx : x < U.blocks.length) (way : Int) (C : BlkV) : extAt U x way C = extBy U x U.blocks[x] way C := by
  unfold extAt
  rw [List.getElem?_eq_getElem hx]
/-- A block extended again and again. -/
def unrollK (U : UnitV) (x : Nat) (way : Int) (C : BlkV) : Nat → UnitV
  | 0 => U
  | k + 1 => extAt (unrollK U x way C k) x way C
structure Unr (U : UnitV) (C : BlkV) (k : Nat) (V : UnitV) : Prop where
  len : V.blocks.length = U.blocks.length
  regs : U.regs ≤ V.regs ∧ V.regs ≤ U.regs + 2 * k
  ops : ∀ b ∈ V.blocks, b.ops.length ≤ 400 + k * (3 + C.ops.length)
  sizes : V.sizes = U.sizes
theorem extOps_len (U : UnitV) (B : BlkV) (way : Int) : (extOps U B way).length ≤ 3 := by
  unfold extOps
  split
  · simp
  · split <;> simp
theorem unr {U : UnitV} (wf : Wf U) {x : Nat} (hx : x < U.blocks.length) (way : Int) (C : BlkV) : ∀ k, Unr U C k (unrollK U x way C k)
  | 0 => ⟨rfl, by simp [unrollK], fun b hb => by have := (wf.blk b hb).ops; omega, rfl⟩
  | k + 1 => by
    have ih := unr wf hx way C k
    have hx' : x < (unrollK U x way C k).blocks.length := by rw [ih.len]; exact hx
    have hk : (k + 1) * (3 + C.ops.length) = k * (3 + C.ops.length) + (3 + C.ops.length) := Nat.succ_mul _ _
    unfold unrollK
    rw [extAt_eq hx']
    refine ⟨by simp only [extBy, List.length_set]; exact ih.len, ?_, fun b hb => ?_, ih.sizes⟩
    · have := ih.regs
      simp only [extBy, extRegs]
      split <;> omega
    · simp only [extBy] at hb
      rcases List.mem_or_eq_of_mem_set hb with hb | rfl
      · have := ih.ops b hb
        omega
      · have := ih.ops _ (List.getElem_mem hx')
        have h3 := extOps_len (unrollK U x way C k) (unrollK U x way C k).blocks[x] way
        simp only [List.length_append]
        omega
def unrollR (U : UnitV) (x : Nat) (times : Int) : UnitV × Int := match U.blocks[x]? with
  | some B => if decide (selfN B.e x < 0) then (zeroU, 5) else if decide (times < 0) || decide (16 < times) then (zeroU, 2) else
    if decide (chkU (unrollK U x (selfN B.e x) B times.toNat) ≠ 0) then (zeroU, 11) else (unrollK U x (selfN B.e x) B times.toNat, 0)
  | none => (zeroU, 5)
/-- P17.5, with the errors. -/
def unrollU (U : UnitV) (b times : Int) : UnitV × Int := if decide (thereU U true b ≠ 0) then (zeroU, thereU U true b) else unrollR U b.toNat times
section
variable {X : Cx} {st : St}
end
end Go.VX.Seat
end
section
set_option linter.unusedVariables false
set_option linter.unusedSimpArgs false
set_option maxRecDepth 4000
/-! biremeref17.Unroll. -/
namespace Go.VX.Seat
open Go.Proofs
/-- A unit behind a pointer, written anew. -/
theorem UPtr.renew {s S : St} {ub lo lo2 : Nat} {sz bl w : AV} {f : Nat → AV} {U V : UnitV} (h : UPtr s ub lo sz bl f U) (hs : ∃ m, S = s ++ m) (hw : OwnU S s.length w V) (hl : lo ≤ s.length) :
    ∃ sz2 bl2 f2 S2, w = .agg [sz2, iA V.params, iA V.regs, iA V.code, iA V.spill, bl2] ∧ sz2.isCell = true ∧ bl2.isCell = true ∧ S.put ub 0 [sz2, iA V.params, iA V.regs, iA V.code, iA V.spill, bl2] = some S2 ∧ Agree (fun n => n = ub) s S2 ∧ UPtr S2 ub lo sz2 bl2 f2 V := by
  obtain ⟨m, rfl⟩ := hs
  obtain ⟨ver, hb⟩ := h.box
  have hlt := h.lt
  obtain ⟨sz2, bl2, f2, rfl, hz2, hb2⟩ := hw.ex
  have hb' : (s ++ m)[ub]? = some ⟨[sz, iA U.params, iA U.regs, iA U.code, iA U.spill, bl], 0, ver⟩ := by
    rw [List.getElem?_append_left hlt]; exact hb
  have c1 := isCell_len hz2.own.arr.len
  have c2 := isCell_len hb2.own.arr.len
  have hput := put_box (o := 0) (vs := [sz2, iA V.params, iA V.regs, iA V.code, iA V.spill, bl2]) hb' (by simp) (by simp only [c1, c2, kB, kZ, kD, fillA, partsEv, zeroes, Nat.reduceSub, Int.reduceToNat, Nat.reduceMul, asInt?, asNat?, Int.reduceAdd, Int.reduceLE, Int.reduceLT, Int.reduceNeg, Nat.reduceLeDiff, VOpd.ev, Nat.reduceEqDiff, Nat.reduceAdd, reduceIte, reduceCtorEq, splice, resOf, tupOf, cellsV, AV.toV, AV.cell?, cellVal])
  have hag := Agree.set (s ++ m) ub ⟨splice [sz, iA U.params, iA U.regs, iA U.code, iA U.spill, bl] 0 [sz2, iA V.params, iA V.regs, iA V.code, iA V.spill, bl2], 0, ver + 1⟩
  refine ⟨sz2, bl2, f2, _, rfl, c1, c2, hput, ((Agree.app (fun _ => False) s m).trans hag).mono (fun n _ hn => by
    rcases hn with hn | hn
    · exact hn.elim
    · exact hn), OwnU.ptr (ver := ver + 1) ((hz2.agree hag (fun b hb _ e => by omega)).low hl) ((hb2.agree hag (fun b hb _ e => by omega)).low hl) ?_ (fun hx => ?_)⟩
  · rw [List.getElem?_set_self (by simp; omega)]
    rfl
  · have := (ubox_lt hz2 hb2 hx).1
    omega
section
variable {X : Cx} {st : St}
end
end Go.VX.Seat
end
section
set_option linter.unusedVariables false
set_option linter.unusedSimpArgs false
set_option maxRecDepth 4000
/-! The law TraceUnrolls. -/
namespace Go.VX.Seat
open Go.Proofs
theorem unrollR_cases (U : UnitV) (x : Nat) (times : Int) : ((unrollR U x times).2 = 0 ∧ Fits (unrollR U x times).1) ∨ ((unrollR U x times).2 ≠ 0 ∧ (unrollR U x times).1 = zeroU) := by
  unfold unrollR
  split
  · split
    · exact .inr ⟨by decide, rfl⟩
    · split
      · exact .inr ⟨by decide, rfl⟩
      · split
        · exact .inr ⟨by decide, rfl⟩
        · rename_i hn
          exact .inl ⟨rfl, fits_wf (chk_wf (by simpa using hn))⟩
  · exact .inr ⟨by decide, rfl⟩
theorem unrollU_cases (U : UnitV) (b times : Int) : ((unrollU U b times).2 = 0 ∧ Fits (unrollU U b times).1) ∨ ((unrollU U b times).2 ≠ 0 ∧ (unrollU U b times).1 = zeroU) := by
  unfold unrollU
  split
  · rename_i h
    exact .inr ⟨of_decide_eq_true h, rfl⟩
  · exact unrollR_cases _ _ _
abbrev unitC (sz bl : AV) (U : UnitV) : List AV := [sz, iA U.params, iA U.regs, iA U.code, iA U.spill, bl]
/-- A unit that lies somewhere; a list of numbers. -/
def UAt (S : St) (v : AV) (U : UnitV) : Prop := ∃ lo hi, UnitAt S lo hi v U
def IAt (S : St) (v : AV) (l : List Int) : Prop := ∃ lo hi, IntsAt S lo hi v l
theorem OwnU.uat {S : St} {lo : Nat} {v : AV} {U : UnitV} (h : OwnU S lo v U) : UAt S v U := ⟨_, _, h.unit⟩
theorem OwnS.iat {S : St} {lo : Nat} {v : AV} {l : List Int} (h : OwnS S lo v 1 (l.map fun n => [iA n])) : IAt S v l := ⟨_, _, h.arr⟩
/-- Behind the second unit of the law. -/
structure CutF (st S : St) (e : Env) (P9 P13 : Nat) (U F : UnitV) (err chk : Int) (sz1 bl1 sz2 bl2 sz3 bl3 w5 : AV) (l : List Int) : Prop where
  ext : ∃ m, S = st ++ m
  e7 : e 7 = .ptr (st.length + 1) 0
  e8 : e 8 = .ptr (st.length + 2) 0
  e9 : e 9 = .ptr P9 0
  e13 : e 13 = .ptr P13 0
  e10 : e 10 = iA err
  e14 : e 14 = iA err
  e11 : e 11 = w5
  e12 : e 12 = iA chk
  d7 : S.atN (st.length + 1) 0 6 = some (unitC sz1 bl1 U)
  d8 : S.atN (st.length + 2) 0 6 = some (unitC sz2 bl2 U)
  d9 : S.atN P9 0 6 = some (unitC sz3 bl3 F)
  u7 : UAt S (.agg (unitC sz1 bl1 U)) U
  u8 : UAt S (.agg (unitC sz2 bl2 U)) U
  u9 : UAt S (.agg (unitC sz3 bl3 F)) F
  u13 : ∃ sz4 bl4, S.atN P13 0 6 = some (unitC sz4 bl4 F) ∧ UAt S (.agg (unitC sz4 bl4 F)) F
  u11 : IAt S w5 l
theorem nilInts (S : St) : IntsAt S 0 0 (.sc (.slice none 0 0)) [] := emptyArr S 0 0 1
section
variable {X : Cx} {st : St}
end
end Go.VX.Seat
end
section
set_option maxRecDepth 1000000
/-! The law's own example: a closed call, worked out by the kernel. -/
namespace Go.VX.Seat
def st0 : St := [formBox]
def okTrue : Option (CRes × St) → Bool
  | some (.ret (.sc (.bool true)), _) => true
  | _ => false
theorem alive_run : okTrue (runClosed 300 17 st0) = true := by kernel_rfl
end Go.VX.Seat
end
section
set_option linter.unusedVariables false
set_option linter.unusedSimpArgs false
set_option maxRecDepth 1000000
/-! What is told of in all. -/
namespace Go.VX
open Go.RowKit (Below)
theorem WRel.keep {n0 : Nat} {wi : World} {gl : List Nat} {K : KM} {st : St} {w w' : World} (h : WRel n0 wi gl K st w) (hn : n0 ≤ w.heap.size) (hb : Below w.heap.size w w') : WRel n0 wi gl K st w' := by
  have hc : ∀ a : Addr, a.block < w.heap.size → w'.cell? a = w.cell? a := fun a ha => by
    unfold World.cell?
    rw [hb.block _ ha]
  exact {
    below := h.below.trans ⟨hb.os, hb.tape, hb.output, hb.size, fun k hk => hb.block k (by omega)⟩
    dom := h.dom
    lt := fun b x kb h1 h2 h3 => Nat.lt_of_lt_of_le (h.lt b x kb h1 h2 h3) hb.size
    cell := fun b x kb h1 h2 h3 o a h4 => by
      obtain ⟨v, hv, hr⟩ := h.cell b x kb h1 h2 h3 o a h4
      exact ⟨v, by rw [hc _ (h.lt b x kb h1 h2 h3)]; exact hv, hr⟩
    live := fun b x kb h1 h2 h3 => by
      obtain ⟨g1, c, el, g2, g3⟩ := h.live b x kb h1 h2 h3
      exact ⟨g1, c, el, by rw [hb.block _ (h.lt b x kb h1 (by rw [h2]; decide) h3)]; exact g2, g3⟩
    excl := h.excl
    fit := h.fit
    glob := h.glob }
namespace Seat
open Go.Proofs
theorem okTrue_inv : ∀ {r : Option (CRes × St)}, okTrue r = true → ∃ st', r = some (.ret (bA true), st')
  | some (.ret (.sc (.bool true)), st'), _ => ⟨st', rfl⟩
theorem alive_J : ∃ st', J Go.Proofs.Tryd.prog fnOf HFind (.call 17 [] st0 (.ret (bA true)) st') :=
  let ⟨st', he⟩ := okTrue_inv alive_run
  ⟨st', runClosed_ok he⟩
theorem alive_sound {st : St} (hg : st[0]? = some formBox) : SoundCall Go.Proofs.Tryd.prog [0] 17 [] st (.ret (bA true)) st := by
  obtain ⟨st', j⟩ := alive_J
  have S := (sound (P := Go.Proofs.Tryd.prog) (gl := [0]) mixed (fun f fn h => fn_ok f fn h) (fun _ _ _ _ _ h => hfind_sound h) (fun _ _ _ _ _ h => hfind_evo h) j).1
  intro n0 wi K w args' hW hn hargs
  cases hargs
  obtain ⟨kb, hkb, hg1, hg2⟩ := hW.glob 0 0 rfl
  have hin : ∀ {b : Nat} {x : Box}, st0[b]? = some x → b = 0 ∧ x = formBox := fun {b x} h => by
    unfold st0 at h
    match b with
    | 0 => simp at h; exact ⟨rfl, h.symm⟩
    | b + 1 => simp at h
  have hW0 : WRel w.heap.size w [0] (fun b => if b = 0 then K 0 else none) st0 w := {
    below := ⟨rfl, rfl, rfl, Nat.le_refl _, fun _ _ => rfl⟩
    dom := fun b kb h => by
      have h : (if b = 0 then K 0 else none) = some kb := h
      split at h
      · subst_vars; decide
      · cases h
    lt := fun b x kb h1 h2 h3 => by
      obtain ⟨rfl, rfl⟩ := hin h1
      exact hW.lt 0 _ kb hg (by decide) h3
    cell := fun b x kb h1 h2 h3 o a h4 => by
      obtain ⟨rfl, rfl⟩ := hin h1
      obtain ⟨v, hv, hr⟩ := hW.cell 0 _ kb hg (by decide) h3 o a h4
      refine ⟨v, hv, ?_⟩
      have : a.flat = true := by
        have hall : formCells.all AV.flat = true := by decide
        exact List.all_eq_true.1 hall a (List.mem_of_getElem? h4)
      exact hr.flat this
    live := fun b x kb h1 h2 h3 => by
      obtain ⟨rfl, rfl⟩ := hin h1
      exact absurd h2 (by decide)
    excl := fun b x kb b' x' kb' h1 h2 h3 h4 h5 h6 h7 => by
      obtain ⟨rfl, rfl⟩ := hin h1
      exact absurd h2 (by decide)
    fit := fun b x kb h1 h2 h3 => by
      obtain ⟨rfl, rfl⟩ := hin h1
      exact hW.fit 0 _ kb hg (by decide) h3
    glob := fun j g h => by
      match j with
      | 0 => simp at h; subst h; exact ⟨kb, by simpa using hkb, hg1, hg2⟩
      | j + 1 => simp at h }
  refine (S w.heap.size w _ w [] hW0 (Nat.le_refl _) .nil).mono fun e w' hp => ?_
  obtain ⟨K', hW', _, v', rfl, hv⟩ := hp
  exact ⟨K, hW.keep (hW.size hn) hW'.below, Fr.refl K st, v', rfl, hv.flat rfl⟩
theorem callable_alive : Callable Go.Proofs.Tryd.prog 17 := ⟨Go.Proofs.Tryd.f17, by kernel_rfl, by kernel_rfl, by kernel_rfl⟩
/-- All that is told of. -/
def HAll : FuncId → List AV → St → CRes → St → Prop := fun f args st r st' => HFind f args st r st' ∨ (f = 17 ∧ args = [] ∧ r = .ret (bA true) ∧ st' = st ∧ st[0]? = some formBox)
theorem hall_sound {f : FuncId} {args : List AV} {st st' : St} {r : CRes} (h : HAll f args st r st') : SoundCall Go.Proofs.Tryd.prog [0] f args st r st' ∧ Callable Go.Proofs.Tryd.prog f := by
  rcases h with h | ⟨rfl, rfl, rfl, rfl, hg⟩
  · exact hfind_sound h
  · exact ⟨alive_sound hg, callable_alive⟩
theorem hall_evo {f : FuncId} {args : List AV} {st st' : St} {r : CRes} (h : HAll f args st r st') : Evo st st' := by
  rcases h with h | ⟨rfl, rfl, rfl, rfl, hg⟩
  · exact hfind_evo h
  · exact Evo.refl _
/-- The seat's own context. -/
noncomputable def XS : Cx := ⟨Go.Proofs.Tryd.prog, fnOf, HAll⟩
theorem onXS : On XS := ⟨rfl, rfl⟩
/-- A J-run of a call holds of the machine's call. -/
theorem seat_sound {f : FuncId} {args : List AV} {st st' : St} {r : CRes} (h : J XS.P XS.F XS.H (.call f args st r st')) : SoundCall Go.Proofs.Tryd.prog [0] f args st r st' :=
  (sound (P := Go.Proofs.Tryd.prog) (gl := [0]) mixed (fun f fn h => fn_ok f fn h) (fun _ _ _ _ _ h => hall_sound h) (fun _ _ _ _ _ h => hall_evo h) h).1
end Seat
end Go.VX
end
