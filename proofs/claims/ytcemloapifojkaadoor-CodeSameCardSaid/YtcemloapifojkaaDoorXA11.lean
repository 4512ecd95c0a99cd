/- A part of the proofs of the statements of one layer: H3, H4, E2s, E4s, E3s, T1, T2, T3. No condition is added here. -/
import Derived.Shelf.RegionOpenPlain
import Derived.Lib.Walk
import Derived.Lib.Builder
import Derived.Lib.AppendStr
import Derived.Lib.UnsafeStr
import Derived.WalkKit
import Derived.Laws.Externs
import Derived.Test.YtcemloapifojkaaDoorXA10
section
set_option linter.unusedVariables false
set_option linter.unusedSimpArgs false
/-! strings.Builder: what its methods do on the machine (the shelf's proofs, turned to this seat, with what they leave as it was told block by block). -/
namespace Go.Proofs
open Go.RowKit Go.Shelf
namespace VXB
theorem sizeBuilder : (Tryd.prog.info? 58).map (·.size) = some 2 := by kernel_rfl
theorem liesBuilder : liesAt Tryd.prog Tryd.prog.depth 58 (2 / Tryd.prog.cellsOf 58) 0 58 1 = true := by kernel_rfl
set_option maxHeartbeats 1000000 in
set_option maxRecDepth 100000 in
/-- copyCheck at a builder that has been used: nothing turns. -/
theorem copyCheck_used (b : Nat) (w : World) (h0 : w.cell? ⟨b, 0, none⟩ = some (.pointer (some ⟨b, 0, none⟩))) :
    Calls Tryd.prog 37 #[.pointer (some ⟨b, 0, none⟩)] w fun e w' => e = .returned (.tuple #[]) ∧ w' = w := by
  obtain ⟨j, hj, _⟩ := Option.map_eq_some_iff.1 sizeBuilder
  go_enter Tryd.func37, Tryd.ntmps37
  go_wp2
  rw [Lib.run_neq_ptr_same w _ Tryd.underlying55 hj]
  go_wp2
  go_end0
  exact ⟨rfl, rfl⟩
set_option maxHeartbeats 1000000 in
set_option maxRecDepth 100000 in
/-- copyCheck at a fresh builder: it stores its own address. -/
theorem copyCheck_fresh (b : Nat) (w : World) (h0 : w.cell? ⟨b, 0, none⟩ = some (.pointer none)) (hsh : w.shape? b = some (58, 2)) (hfz : w.frozen? ⟨b, 0, none⟩ = false) :
    Calls Tryd.prog 37 #[.pointer (some ⟨b, 0, none⟩)] w fun e w' => e = .returned (.tuple #[]) ∧ w' = w.setCell ⟨b, 0, none⟩ (.pointer (some ⟨b, 0, none⟩)) := by
  obtain ⟨j, hj, hjs⟩ := Option.map_eq_some_iff.1 sizeBuilder
  go_enter Tryd.func37, Tryd.ntmps37
  go_wp2
  rw [Lib.run_to_unsafe w ⟨b, 0, none⟩ Tryd.underlying55 Tryd.underlying108 hj (by rw [hjs]; decide) hsh (Nat.zero_lt_succ 1)]
  simp only [Result.andThen]
  rw [Oper.upon_value]
  go_wp2
  rw [run_callFunc_extern Tryd.func51 (by kernel_rfl) (by kernel_rfl) (by kernel_rfl) (e := Extern.AbiNoEscape.same) (by kernel_rfl)]
  rw [Lib.run_noEscape]
  simp only [Result.andThen]
  rw [Oper.upon_value]
  go_wp2
  rw [Lib.run_from_unsafe w ⟨b, 0, none⟩ Tryd.underlying108 Tryd.underlying55 hj hsh liesBuilder]
  simp only [Result.andThen]
  rw [Oper.upon_value]
  go_wp2
  go_end0
  exact ⟨rfl, rfl⟩
theorem ownsRowF_low {w : World} {base e n : Nat} {v : Value} {xs : List Value} (h : w.ownsRowF base e 1 v n xs) : w.ownsRowF 0 e 1 v n xs :=
  ⟨h.1, h.2.elim .inl fun ⟨g, cap, cur, fz, hv, _, rest⟩ => .inr ⟨g, cap, cur, fz, hv, Nat.zero_le _, rest⟩⟩
/-- Bytes behind a row that is one's own: the row is the old one, or new. -/
theorem run_append3 {P : Program} (w : World) (t u ty e : TypeId) (i : TypeInfo) (ht : P.underlying t = some (.slice e)) (hu : P.underlying u = some .string) (hi : P.info? e = some i) (hz : i.zero = some (.int .u8 0))
    (hsize : i.size = 1) (hby : i.bytes = 1) (v : Value) (n : Nat) (xs : List Value) (hown : w.ownsRowF 0 e 1 v n xs) (s : ByteArray) (h63 : n + s.size ≤ maxLen) (hbytes : n + s.size ≤ 140737488355328) :
    ∃ v' w', (Builtin.append_ #[t, u] ty #[v, .string s]).run P w = .ok v' w' ∧ w'.ownsRowF 0 e 1 v' (n + s.size) (xs ++ Lib.strCells s) ∧ w.grownBy w' v.ownBlock ∧
      (v' = .slice none 0 0 ↔ v = .slice none 0 0 ∧ s.size = 0) ∧ ∀ k, v'.ownBlock = some k → v.ownBlock = some k ∨ w.heap.size ≤ k := by
  rcases hown.2 with ⟨rfl, rfl⟩ | ⟨g, cap, cur, fz, rfl, hbg, hg, hfz, hnc, hcm, hcs, htake⟩
  · obtain ⟨v', w', h1, h2, h3, h4⟩ := Lib.run_append_own_string (P := P) w w.heap.size t u ty e i ht hu hi hz hsize hby (.slice none 0 0) 0 xs ⟨hown.1, .inl ⟨rfl, rfl⟩⟩ s h63 hbytes (Nat.le_refl _)
    exact ⟨v', w', h1, ownsRowF_low (World.ownsRowF_of h2), h3, h4, fun k hk => .inr ((World.ownsRowF_of h2).lt k hk).1⟩
  · have hsmall : n + s.size ≤ 9223372036854775807 := by simp only [maxLen] at h63; omega
    have hxl : xs.length = n := by simpa using hown.1
    have hlen : (xs ++ Lib.strCells s).length = (n + s.size) * 1 := by rw [List.length_append, hxl, Lib.strCells_length, Nat.mul_one]
    by_cases hroom : n + s.size ≤ cap
    · have hcs' : cur.size = cap := by simpa using hcs
      have hr := Lib.run_append_room_stringF (P := P) w t u ty e i ht hu hi hsize g n cap cur fz hg (by simpa using hfz) s hroom (by omega)
      refine ⟨_, _, hr, ⟨hlen, .inr ⟨g, cap, _, fz, rfl, hbg, setRow_heap w g cur _ e _ hg, by omega, hroom, hcm, ?_, ?_⟩⟩, ⟨rfl, rfl, rfl, by simp, fun k _ hk => setRow_other w g k _ (fun e => hk (by simp [Value.ownBlock, e]))⟩, by simp, fun k hk => .inl hk⟩
      · simp only [List.size_toArray, List.length_append, List.length_take, List.length_drop, Array.length_toList, Lib.strCells_length]
        omega
      · have ht' : cur.toList.take n = xs := by simpa using htake
        rw [ht', ← hlen]
        exact List.take_left
    · have holds : ∀ j u, xs[j]? = some u → w.cell? ((⟨g, 0, none⟩ : Addr).add j) = some u := hown.cells (g := g) rfl
      have hr := Lib.run_append_grow_string (P := P) w t u ty e i (.int .u8 0) ht hu hi hz ⟨g, 0, none⟩ n cap xs (by rw [hsize]; simpa using hxl) holds s (by omega) (by omega) (by rw [hby]; exact growslice_fits (by omega) (by omega))
      have hge := grownCap_ge w (n + s.size) cap e
      have hcm2 : grownCap w (n + s.size) cap e ≤ maxLen := grownCap_le_maxLen w (n + s.size) cap e h63
      refine ⟨_, _, hr, ⟨hlen, .inr ⟨w.heap.size, _, _, (0, 0), rfl, Nat.zero_le _, heap_alloc_new w.drew _, Nat.zero_le _, hge, hcm2, ?_, ?_⟩⟩, ⟨rfl, rfl, rfl, by simp, fun k hk _ => heap_alloc_old w.drew _ hk⟩, by simp, fun k hk => .inr ?_⟩
      · have hz1 : (Value.int IntKind.u8 0).cells.size = 1 := rfl
        simp only [Array.size_append, List.size_toArray, size_zeroCells, hz1, hxl, Lib.strCells_length]
        omega
      · simp only [Array.toList_append, List.append_assoc]
        rw [← List.append_assoc, ← hlen]
        exact List.take_left
      · simp [Value.ownBlock] at hk
        omega
theorem wpList_append3 {P : Program} (w : World) {ops : Array Oper} {rest : List Oper} {o : Oper} {a : Act} {Q : Exit → Act → World → Prop} (hgd : o.guard = none) (sl x : Operand) (t u : TypeId)
    (ho : o.op = .call { callee := .builtin .append, args := #[sl, x], argTypes := #[t, u] })
    (e : TypeId) (i : TypeInfo) (ht : P.underlying t = some (.slice e)) (hu : P.underlying u = some .string) (hi : P.info? e = some i) (hz : i.zero = some (.int .u8 0))
    (hsize : i.size = 1) (hby : i.bytes = 1)
    (v : Value) (n : Nat) (xs : List Value) (hs : a.eval sl = v) (hown : w.ownsRowF 0 e 1 v n xs) (s : ByteArray) (hx : a.eval x = .string s)
    (h63 : n + s.size ≤ maxLen) (hbytes : n + s.size ≤ 140737488355328)
    (h : ∀ v' w', w'.ownsRowF 0 e 1 v' (n + s.size) (xs ++ Lib.strCells s) → w.grownBy w' v.ownBlock → (v' = .slice none 0 0 ↔ v = .slice none 0 0 ∧ s.size = 0) → (∀ k, v'.ownBlock = some k → v.ownBlock = some k ∨ w.heap.size ≤ k) → wpList P ops Q rest (a.put o.dst v') w') : wpList P ops Q (o :: rest) a w := by
  refine wpList_plain hgd fun K hK => ?_
  obtain ⟨v', w', hr, h2, h3, h4, h5⟩ := run_append3 (P := P) w t u o.type e i ht hu hi hz hsize hby v n xs hown s h63 hbytes
  unfold Oper.wp execOp
  simp only [ho, resolve, invoke, builtin, Sem.run_bind, Sem.run_pure, Result.andThen_ok, List.map_toArray, List.map_cons, List.map_nil, hs, hx, hr]
  exact hK _ _ (h v' w' h2 h3 h4 h5)
/-- A builder at block b: what it holds, and where. -/
structure BAt (w : World) (b : Nat) (p v : Value) (l : List UInt8) : Prop where
  pt : p = .pointer none ∨ p = .pointer (some ⟨b, 0, none⟩)
  box : w.heap[b]? = some (.cells #[p, v] 58 (0, 0))
  row : w.ownsRowF 0 5 1 v l.length (Lib.byteCells l)
  ne : v.ownBlock ≠ some b
  nil : v = .slice none 0 0 ↔ l = []
theorem infoByte : (Tryd.prog.info? 5).map (fun i => (i.zero, i.size, i.bytes)) = some (some (.int .u8 0), 1, 1) := by kernel_rfl
theorem cellsByte : Tryd.prog.cellsOf 5 = 1 := by kernel_rfl
theorem BAt.lt {w : World} {b : Nat} {p v : Value} {l : List UInt8} (h : BAt w b p v l) : b < w.heap.size := (Array.getElem?_eq_some_iff.1 h.box).1
set_option maxHeartbeats 2000000 in
set_option maxRecDepth 100000 in
theorem write_calls (b : Nat) (p v : Value) (l : List UInt8) (s : ByteArray) (w : World) (h : BAt w b p v l) (hlen : l.length + s.size ≤ 140737488355328) :
    Calls Tryd.prog 20 #[.pointer (some ⟨b, 0, none⟩), .string s] w fun e w' => e = .returned (.tuple #[.int .i64 s.size, .nilIface]) ∧ ∃ v', BAt w' b (.pointer (some ⟨b, 0, none⟩)) v' (l ++ s.data.toList) ∧
      w'.os = w.os ∧ w'.tape = w.tape ∧ w'.output = w.output ∧ w.heap.size ≤ w'.heap.size ∧ (∀ k, k < w.heap.size → k ≠ b → v.ownBlock ≠ some k → w'.heap[k]? = w.heap[k]?) ∧ (∀ k, v'.ownBlock = some k → v.ownBlock = some k ∨ w.heap.size ≤ k) := by
  obtain ⟨i0, hi, hz0, hz1, hz2⟩ := info_parts infoByte
  have hcc : Calls Tryd.prog 37 #[.pointer (some ⟨b, 0, none⟩)] w fun e w' => e = .returned (.tuple #[]) ∧ (w' = w ∨ w' = w.setCell ⟨b, 0, none⟩ (.pointer (some ⟨b, 0, none⟩))) ∧ w'.heap[b]? = some (.cells #[.pointer (some ⟨b, 0, none⟩), v] 58 (0, 0)) := by
    have hbx := h.box
    rcases h.pt with rfl | rfl
    · refine (copyCheck_fresh b w (by simp [World.cell?, hbx]) (by simp [World.shape?, hbx]) (by simp [World.frozen?, hbx])).mono ?_
      rintro e w' ⟨rfl, rfl⟩
      exact ⟨rfl, .inr rfl, by simp [World.setCell, Array.getElem?_modify, hbx]⟩
    · refine (copyCheck_used b w (by simp [World.cell?, hbx])).mono ?_
      rintro e w' ⟨rfl, rfl⟩
      exact ⟨rfl, .inl rfl, hbx⟩
  go_enter Tryd.func20, Tryd.ntmps20
  go_wp2_with (go_at_call 37; refine hcc.mono ?_)
  rintro e w1 ⟨rfl, hw1, hbk⟩
  have hsz : w1.heap.size = w.heap.size := by
    rcases hw1 with rfl | rfl
    · rfl
    · simp [World.setCell]
  have hot : w1.os = w.os ∧ w1.tape = w.tape ∧ w1.output = w.output := by
    rcases hw1 with rfl | rfl <;> exact ⟨rfl, rfl, rfl⟩
  have hoth : ∀ k, k ≠ b → w1.heap[k]? = w.heap[k]? := fun k hk => by
    rcases hw1 with rfl | rfl
    · rfl
    · exact Below.heap_setCell _ _ _ _ hk
  have hown : w1.ownsRowF 0 5 1 v l.length (Lib.byteCells l) := Go.VX.ownsRowF_frame h.row fun i hi => hoth i (fun e => h.ne (by rw [hi, e]))
  have c0 : w1.cell? ⟨b, 0, none⟩ = some (.pointer (some ⟨b, 0, none⟩)) := by rw [Lib.cell_of_heap hbk]; rfl
  have c1 : w1.cell? ⟨b, 1, none⟩ = some v := by rw [Lib.cell_of_heap hbk]; rfl
  go_wp2_with (at_builtin; refine wpList_append3 _ rfl _ _ 56 9 rfl 5 i0 Tryd.underlying56 Tryd.underlying9 hi hz0 hz1 hz2 _ _ _ rfl hown s rfl ?c3 ?c4 ?_)
  case c3 => unfold maxLen; omega
  case c4 => omega
  intro v' w2 hown' hgrow hnil hown2
  have hlt : b < w1.heap.size := by rw [hsz]; exact h.lt
  have hb2 : w2.heap[b]? = some (.cells #[.pointer (some ⟨b, 0, none⟩), v] 58 (0, 0)) := by
    rw [hgrow.block b hlt (fun e => h.ne e.symm)]
    exact hbk
  have d0 : w2.cell? ⟨b, 0, none⟩ = some (.pointer (some ⟨b, 0, none⟩)) := by rw [Lib.cell_of_heap hb2]; rfl
  have d1 : w2.cell? ⟨b, 1, none⟩ = some v := by rw [Lib.cell_of_heap hb2]; rfl
  have f1 : w2.frozen? ⟨b, 1, none⟩ = false := Lib.frozen_of_heap hb2 1
  have hne' : v'.ownBlock ≠ some b := Lib.ownBlock_neF hown' hb2 (by decide)
  obtain ⟨ao, n', cap, rfl⟩ : ∃ ao n' cap, v' = .slice ao n' cap := by
    rcases hown'.2 with ⟨hv, _⟩ | ⟨g, cap, cur, fz, hv, _⟩
    · exact ⟨_, _, _, hv⟩
    · exact ⟨_, _, _, hv⟩
  go_wp2
  go_ret2
  have hlist : Lib.byteCells (l ++ s.data.toList) = Lib.byteCells l ++ Lib.strCells s := by rw [Lib.byteCells_append, Lib.strCells_eq]
  have hsl : (l ++ s.data.toList).length = l.length + s.size := by rw [List.length_append]; rfl
  refine ⟨rfl, _, ⟨.inr rfl, ?_, ?_, hne', ?_⟩, ?_, ?_, ?_, ?_, fun k hk hkb hkv => ?_, fun k hk => ?_⟩
  · simp [World.setCell, Array.getElem?_modify, hb2]
  · rw [hsl, hlist]
    exact Go.VX.ownsRowF_frame hown' fun i hi => Below.heap_setCell _ _ _ _ (fun e => hne' (by rw [hi, e]))
  · rw [hnil, h.nil]
    constructor
    · rintro ⟨rfl, h0⟩
      have h0 : s = ByteArray.empty := h0
      subst h0
      rfl
    · intro he
      have h1 := List.append_eq_nil_iff.1 he
      exact ⟨h1.1, by
        have h2 : s.data = #[] := by simpa using h1.2
        cases s
        cases h2
        rfl⟩
  · exact hgrow.os.trans hot.1
  · exact hgrow.tape.trans hot.2.1
  · exact hgrow.output.trans hot.2.2
  · rw [← hsz]; exact Nat.le_trans hgrow.size (by simp [World.setCell])
  · rw [Below.heap_setCell _ _ _ _ (show k ≠ b from hkb), hgrow.block k (by omega) (fun e => hkv e.symm), hoth k hkb]
  · rcases hown2 k hk with h1 | h1
    · exact .inl h1
    · exact .inr (by omega)
/-- What freezing leaves. -/
theorem freeze_frame (w : World) (g n k : Nat) (hk : k ≠ g) : (w.freeze ⟨g, 0, none⟩ n).heap[k]? = w.heap[k]? := by
  unfold World.freeze
  split
  · rfl
  · simp only [Array.getElem?_modify]
    rw [if_neg (fun e => hk e.symm)]
theorem freeze_rest (w : World) (g n : Nat) : (w.freeze ⟨g, 0, none⟩ n).os = w.os ∧ (w.freeze ⟨g, 0, none⟩ n).tape = w.tape ∧ (w.freeze ⟨g, 0, none⟩ n).output = w.output ∧ (w.freeze ⟨g, 0, none⟩ n).heap.size = w.heap.size := by
  unfold World.freeze
  split
  · exact ⟨rfl, rfl, rfl, rfl⟩
  · exact ⟨rfl, rfl, rfl, by simp⟩
set_option maxHeartbeats 2000000 in
set_option maxRecDepth 100000 in
theorem string_calls (b : Nat) (p v : Value) (l : List UInt8) (w : World) (h : BAt w b p v l) (hlen : l.length ≤ 140737488355328) :
    Calls Tryd.prog 24 #[.pointer (some ⟨b, 0, none⟩)] w fun e w' => e = .returned (.string ⟨l.toArray⟩) ∧ BAt w' b p v l ∧
      w'.os = w.os ∧ w'.tape = w.tape ∧ w'.output = w.output ∧ w.heap.size = w'.heap.size ∧ (∀ k, v.ownBlock ≠ some k → w'.heap[k]? = w.heap[k]?) := by
  have hbx : w.drew.heap[b]? = some (.cells #[p, v] 58 (0, 0)) := h.box
  have c1 : w.drew.cell? ⟨b, 1, none⟩ = some v := by rw [Lib.cell_of_heap hbx]; rfl
  by_cases h0 : l = []
  · have hv := h.nil.2 h0
    subst hv
    subst h0
    have hUS := Lib.run_unsafeString_none (P := Tryd.prog) w.drew 96 3 9 none
    have hSD : (Builtin.unsafeSliceData_ #[56] 96 #[.slice none 0 0]).run Tryd.prog w.drew = .ok (.pointer none) w.drew := rfl
    have mixed : Tryd.prog.follows .mixedOrders = true := by kernel_rfl
    go_enter Tryd.func24, Tryd.ntmps24
    go_wp2
    go_region_o
    all_goals (go_wp2; go_ret; exact ⟨rfl, ⟨h.pt, h.box, h.row, h.ne, h.nil⟩, rfl, rfl, rfl, rfl, fun _ _ => rfl⟩)
  · have hl0 : l.length ≠ 0 := by simpa using h0
    obtain ⟨g, cap, cur, fz, rfl, hbg, hg, hfz, hnc, hcm, hcs, htake⟩ : ∃ g cap cur fz, v = .slice (some ⟨g, 0, none⟩) l.length cap ∧ 0 ≤ g ∧ w.heap[g]? = some (.cells cur 5 fz) ∧ fz.2 ≤ l.length * 1 ∧ l.length ≤ cap ∧ cap ≤ maxLen ∧ cur.size = cap * 1 ∧ cur.toList.take (l.length * 1) = Lib.byteCells l := by
      rcases h.row.2 with ⟨_, hz⟩ | ⟨g, cap, cur, fz, hv, r⟩
      · exact absurd hz hl0
      · exact ⟨g, cap, cur, fz, hv, r⟩
    have hSD : (Builtin.unsafeSliceData_ #[56] 96 #[.slice (some ⟨g, 0, none⟩) l.length cap]).run Tryd.prog w.drew = .ok (.pointer (some ⟨g, 0, none⟩)) w.drew :=
      Lib.run_unsafeSliceData_row _ _ _ _ _ _ (by omega)
    have hUS : (Builtin.unsafeString_ #[96, 3] 9 #[.pointer (some ⟨g, 0, none⟩), .int .i64 l.length]).run Tryd.prog w.drew = .ok (.string ⟨l.toArray⟩) (w.drew.freeze ⟨g, 0, none⟩ l.length) := by
      refine Lib.run_unsafeString_row w.drew 96 3 9 5 Tryd.underlying96 cellsByte g cur.size (by have hg' : w.drew.heap[g]? = some (.cells cur 5 fz) := hg; simp [World.shape?, hg']) l h0 (by omega) (by omega) ?_
      intro j x hx
      have := h.row.cells (g := g) rfl j (.int .u8 x.toNat) (by simp [Lib.byteCells, hx])
      exact this
    have hA : Lib.BuilderAtF 58 5 0 b p (Lib.byteCells l) w.drew := ⟨Nat.zero_le _, _, hbx, by rw [Lib.byteCells_length]; exact h.row, h.ne⟩
    have hF := hA.froze (g := g) (cap := cap) (by rw [Lib.byteCells_length]; exact c1)
    rw [Lib.byteCells_length] at hF
    have hB : BAt (w.drew.freeze ⟨g, 0, none⟩ l.length) b p (.slice (some ⟨g, 0, none⟩) l.length cap) l := by
      obtain ⟨_, v', hb', hr', hn'⟩ := hF
      have hgb : b ≠ g := fun e => h.ne (by simp [Value.ownBlock, e])
      have hb2 := freeze_frame w.drew g l.length b hgb
      rw [hbx] at hb2
      rw [hb2] at hb'
      simp only [Option.some.injEq, Obj.cells.injEq, and_true] at hb'
      have e : Value.slice (some ⟨g, 0, none⟩) l.length cap = v' := by
        have := congrArg (fun a : Array Value => a[1]?) hb'
        simpa using this
      subst e
      exact ⟨h.pt, hb2, by rw [Lib.byteCells_length] at hr'; exact hr', hn', h.nil⟩
    have hrest := freeze_rest w.drew g l.length
    have mixed : Tryd.prog.follows .mixedOrders = true := by kernel_rfl
    go_enter Tryd.func24, Tryd.ntmps24
    go_wp2
    go_region_o
    all_goals (go_wp2; go_ret; exact ⟨rfl, hB, hrest.1, hrest.2.1, hrest.2.2.1, hrest.2.2.2.symm, fun k hk => freeze_frame w.drew g l.length k (fun e => hk (by simp [Value.ownBlock, e]))⟩)
end VXB
end Go.Proofs
end
section
set_option linter.unusedVariables false
set_option linter.unusedSimpArgs false
/-! What is told of strings.Builder's methods, and of what the machine stands in for. -/
namespace Go.VX.Seat
open Go.Proofs
/-- What a builder's box tells. -/
def bldCells (l : List UInt8) : List AV := [iA 1, iA 58, iA 5, .sc (.string ⟨l.toArray⟩)]
def HBld : FuncId → List AV → St → CRes → St → Prop := fun f args st r st' =>
  ∃ (b : Nat) (l : List UInt8) (ver : Nat), st[b]? = some ⟨bldCells l, 3, ver⟩ ∧ l.length ≤ 1000000000 ∧
    ((f = 20 ∧ ∃ s : ByteArray, args = [.ptr b 0, .sc (.string s)] ∧ s.size ≤ 1000000000 ∧ r = .ret (.tup [iA s.size, .sc .nilIface]) ∧ st' = st.set b ⟨bldCells (l ++ s.data.toList), 3, ver + 1⟩) ∨
     (f = 24 ∧ args = [.ptr b 0] ∧ r = .ret (.sc (.string ⟨l.toArray⟩)) ∧ st' = st))
theorem callable_write : Callable Tryd.prog 20 := ⟨Tryd.f20, by kernel_rfl, by kernel_rfl, by kernel_rfl⟩
theorem callable_string : Callable Tryd.prog 24 := ⟨Tryd.f24, by kernel_rfl, by kernel_rfl, by kernel_rfl⟩
theorem bat_of_phi {l : List UInt8} {r : Nat} {S : List Nat} {w : World} (h : Phi (bldCells l) r S w) : ∃ p v, VXB.BAt w r p v l ∧ S = r :: v.ownBlock.toList := by
  obtain ⟨tb, tu, l', p, v, h1, h0, h2, h3, h4, h5, h6, h7⟩ := h
  simp only [bldCells, List.cons.injEq, AV.sc.injEq, Value.int.injEq, Value.string.injEq, ByteArray.mk.injEq, true_and, and_true] at h1
  obtain ⟨e1, e2, e3⟩ := h1
  have e1 : 58 = tb := by omega
  have e2 : 5 = tu := by omega
  have e3 : l = l' := by simpa using e3
  subst e1; subst e2; subst e3
  exact ⟨p, v, ⟨h2, h3, h4, h6, h7⟩, h5⟩
theorem phi_of_bat {l : List UInt8} {r : Nat} {w : World} {p v : Value} (h : VXB.BAt w r p v l) : Phi (bldCells l) r (r :: v.ownBlock.toList) w :=
  ⟨58, 5, l, p, v, rfl, by decide, h.pt, h.box, h.row, rfl, h.ne, h.nil⟩
theorem hbld_sound {f : FuncId} {args : List AV} {st st' : St} {r : CRes} (h : HBld f args st r st') : SoundCall Tryd.prog [1, 0, 2, 3] f args st r st' := by
  obtain ⟨b, l, ver, hx, hl, h⟩ := h
  rcases h with ⟨rfl, s, rfl, hs, rfl, rfl⟩ | ⟨rfl, rfl, rfl, rfl⟩
  · refine SoundC.sound ?_ callable_write
    intro n0 wi K w args' hW hn hargs
    obtain ⟨fp, hfp⟩ := hW.fo
    cases hargs with
    | cons h1 h2 =>
      cases h2 with
      | cons h2 h3 =>
        cases h3
        obtain ⟨kb, hk, rfl⟩ := ptr_inv h1
        have h2 := VRel.sc_eq h2
        subst h2
        obtain ⟨⟨hro, hphi⟩, hf2, hf3, hf4⟩ := hfp b _ kb hx rfl hk
        obtain ⟨p, v, hbat, hS⟩ := bat_of_phi hphi
        rw [hro]
        refine (VXB.write_calls kb.rb p v l s w hbat (by omega)).mono fun e w' he => ?_
        obtain ⟨rfl, v', hb', g1, g2, g3, g4, g5, g6⟩ := he
        refine ⟨K, WRel.setF hW hn hfp hx rfl rfl hk g1 g2 g3 g4 (fun k hk1 hk2 => g5 k hk1 (fun e => hk2 (by rw [hS, e]; simp)) (fun e => hk2 (by rw [hS, e]; simp))) (phi_of_bat hb') (fun k hk1 => ?_), ⟨KM.le_refl K, by simp, fun _ _ => rfl, fun b' hb' hk' => ?_⟩, _, rfl, .tup (.cons (.sc rfl) (.cons (.sc rfl) .nil))⟩
        · have hlt' : ∀ k, v'.ownBlock = some k → k < w'.heap.size := fun k hk => (hb'.row.lt k hk).2
          rw [hS]
          simp at hk1 ⊢
          rcases hk1 with rfl | hk1
          · exact ⟨.inl (.inl rfl), hb'.lt⟩
          · have hk1 : v'.ownBlock = some k := by simpa using hk1
            refine ⟨?_, hlt' k hk1⟩
            rcases g6 k hk1 with h1 | h1
            · exact .inl (.inr h1)
            · exact .inr h1
        · have hne : b' ≠ b := fun e => by rw [e, hk] at hk'; cases hk'
          rw [List.getElem?_set_ne (Ne.symm hne)]
  · refine SoundC.sound ?_ callable_string
    intro n0 wi K w args' hW hn hargs
    obtain ⟨fp, hfp⟩ := hW.fo
    cases hargs with
    | cons h1 h2 =>
      cases h2
      obtain ⟨kb, hk, rfl⟩ := ptr_inv h1
      obtain ⟨⟨hro, hphi⟩, hf2, hf3, hf4⟩ := hfp b _ kb hx rfl hk
      obtain ⟨p, v, hbat, hS⟩ := bat_of_phi hphi
      rw [hro]
      refine (VXB.string_calls kb.rb p v l w hbat (by omega)).mono fun e w' he => ?_
      obtain ⟨rfl, hb', g1, g2, g3, g4, g5⟩ := he
      have hW' := WRel.setF hW hn hfp hx rfl (x' := ⟨bldCells l, 3, ver⟩) rfl hk g1 g2 g3 (by omega) (fun k hk1 hk2 => g5 k (fun e => hk2 (by rw [hS, e]; simp))) (phi_of_bat hb') (fun k hk1 => ⟨.inl (by rw [hS]; exact hk1), by
        have := (hf2 k (by rw [hS]; exact hk1)).2
        omega⟩)
      have hset : st'.set b ⟨bldCells l, 3, ver⟩ = st' := by
        refine List.ext_getElem? fun i => ?_
        by_cases hi : b = i
        · subst hi
          rw [List.getElem?_set_self (List.getElem?_eq_some_iff.1 hx).1, hx]
        · rw [List.getElem?_set_ne hi]
      rw [hset] at hW'
      exact ⟨K, hW', Fr.refl K st', _, rfl, .sc rfl⟩
theorem hbld_evo {f : FuncId} {args : List AV} {st st' : St} {r : CRes} (h : HBld f args st r st') : Evo st st' := by
  obtain ⟨b, l, ver, hx, hl, h⟩ := h
  rcases h with ⟨rfl, s, rfl, hs, rfl, rfl⟩ | ⟨rfl, rfl, rfl, rfl⟩
  · exact Evo.set hx (by simp) (.inl rfl) (fun e => by simp at e)
  · exact Evo.refl _
/-- What the machine stands in for. -/
def natF (f : FuncId) : Option (Array Value → Sem Value) := match f with
  | 100 => some Extern.BytealgIndexByte.indexByte
  | 97 => some Extern.BytealgCount.count
  | _ => none
def HNat : FuncId → List AV → St → CRes → St → Prop := fun f args st r st' =>
  ∃ e vs v, natF f = some e ∧ cellsV args = some vs ∧ closed Tryd.prog (e vs.toArray) = some v ∧ cellVal v = true ∧ r = .ret (.sc v) ∧ st' = st
theorem natF_run {f : FuncId} {e : Array Value → Sem Value} (h : natF f = some e) (args : Array Value) (w : World) : (callFunc f args).run Tryd.prog w = ((e args).run Tryd.prog w).andThen fun v w' => .ok (.value v) w' := by
  unfold natF at h
  split at h
  · cases h
    exact run_callFunc_extern Tryd.func100 (by kernel_rfl) (by kernel_rfl) (by kernel_rfl) (by kernel_rfl) args w
  · cases h
    exact run_callFunc_extern Tryd.func97 (by kernel_rfl) (by kernel_rfl) (by kernel_rfl) (by kernel_rfl) args w
  · cases h
theorem hnat_sound {f : FuncId} {args : List AV} {st st' : St} {r : CRes} (h : HNat f args st r st') : SoundCall Tryd.prog [1, 0, 2, 3] f args st r st' := by
  obtain ⟨e, vs, v, he, hvs, hv, hc, rfl, rfl⟩ := h
  intro n0 wi K w args' hW hn hargs
  have h1 := hargs.cellsV hvs
  subst h1
  refine .inr ⟨v, w, ?_, K, hW, Fr.refl K st', v, rfl, .sc hc⟩
  rw [natF_run he, run_closed _ hv]
  rfl
theorem hnat_evo {f : FuncId} {args : List AV} {st st' : St} {r : CRes} (h : HNat f args st r st') : Evo st st' := by
  obtain ⟨e, vs, v, he, hvs, hv, hc, rfl, rfl⟩ := h
  exact Evo.refl _
end Go.VX.Seat
end
section
set_option linter.unusedVariables false
set_option maxRecDepth 100000
/-! All that is told of, strings.Builder and what the machine stands in for too; closed runs. -/
namespace Go.VX.Seat
open Go.Proofs
def HTold : FuncId → List AV → St → CRes → St → Prop := fun f args st r st' => HFind f args st r st' ∨ HBld f args st r st' ∨ HNat f args st r st'
theorem htold_find {f : FuncId} {args : List AV} {st : St} {r : CRes} {st' : St} (h : HFind f args st r st') : HTold f args st r st' := .inl h
theorem htold_sound {f : FuncId} {args : List AV} {st st' : St} {r : CRes} (h : HTold f args st r st') : SoundCall Go.Proofs.Tryd.prog [1, 0, 2, 3] f args st r st' := by
  rcases h with h | h | h
  · exact hfind_sound h
  · exact hbld_sound h
  · exact hnat_sound h
theorem htold_evo {f : FuncId} {args : List AV} {st st' : St} {r : CRes} (h : HTold f args st r st') : Evo st st' := by
  rcases h with h | h | h
  · exact hfind_evo h
  · exact hbld_evo h
  · exact hnat_evo h
/-- A builder's bytes, out of its box. -/
def bldOfBox : Option Box → Option (List UInt8 × Nat)
  | some ⟨[.sc (.int .i64 a), .sc (.int .i64 b), .sc (.int .i64 c), .sc (.string s)], m, ver⟩ => if a = 1 ∧ b = 58 ∧ c = 5 ∧ m = 3 ∧ s.data.toList.length ≤ 1000000000 then some (s.data.toList, ver) else none
  | _ => none
theorem bldOfBox_ok {x : Option Box} {l : List UInt8} {ver : Nat} (h : bldOfBox x = some (l, ver)) : x = some ⟨bldCells l, 3, ver⟩ ∧ l.length ≤ 1000000000 := by
  unfold bldOfBox at h
  split at h
  · rename_i a b c s m v
    split at h
    · rename_i hc
      obtain ⟨rfl, rfl, rfl, rfl, hl⟩ := hc
      simp only [Option.some.injEq, Prod.mk.injEq] at h
      obtain ⟨rfl, rfl⟩ := h
      refine ⟨?_, hl⟩
      cases s
      simp [bldCells]
    · cases h
  · cases h
noncomputable def evBld (call : EvF) : EvF := fun f args st =>
  match Nat.beq f 20 with
  | true => match args with
    | [.ptr b o, .sc (.string s)] => match Nat.beq o 0, bldOfBox st[b]?, decide (s.size ≤ 1000000000) with
      | true, some (l, ver), true => some (.ret (.tup [iA s.size, .sc .nilIface]), st.set b ⟨bldCells (l ++ s.data.toList), 3, ver + 1⟩)
      | _, _, _ => none
    | _ => none
  | false => match Nat.beq f 24 with
    | true => match args with
      | [.ptr b o] => match Nat.beq o 0, bldOfBox st[b]? with
        | true, some (l, ver) => some (.ret (.sc (.string ⟨l.toArray⟩)), st)
        | _, _ => none
      | _ => none
    | false => call f args st
theorem evBld_ok {call : EvF} (hc : CallOk Go.Proofs.Tryd.prog fnOf HTold call) : CallOk Go.Proofs.Tryd.prog fnOf HTold (evBld call) := by
  intro f args st r st' h
  unfold evBld at h
  split at h
  · rename_i hf
    have hf := Nat.eq_of_beq_eq_true hf
    subst hf
    split at h
    · rename_i b o s
      split at h
      · rename_i l ver ho hb hs
        simp only [Option.some.injEq, Prod.mk.injEq] at h
        obtain ⟨rfl, rfl⟩ := h
        have ho := Nat.eq_of_beq_eq_true ho
        subst ho
        obtain ⟨h1, h2⟩ := bldOfBox_ok hb
        exact .hook (.inr (.inl ⟨b, l, ver, h1, h2, .inl ⟨rfl, s, rfl, of_decide_eq_true hs, rfl, rfl⟩⟩))
      · cases h
    · cases h
  · split at h
    · rename_i hf
      have hf := Nat.eq_of_beq_eq_true hf
      subst hf
      split at h
      · rename_i b o
        split at h
        · rename_i l ver ho hb
          simp only [Option.some.injEq, Prod.mk.injEq] at h
          obtain ⟨rfl, rfl⟩ := h
          have ho := Nat.eq_of_beq_eq_true ho
          subst ho
          obtain ⟨h1, h2⟩ := bldOfBox_ok hb
          exact .hook (.inr (.inl ⟨b, l, ver, h1, h2, .inr ⟨rfl, rfl, rfl, rfl⟩⟩))
        · cases h
      · cases h
    · exact hc _ _ _ _ _ h
noncomputable def evNat (call : EvF) : EvF := fun f args st =>
  match natF f with
  | some e => match cellsV args with
    | some vs => match closed Go.Proofs.Tryd.prog (e vs.toArray) with
      | some v => match cellVal v with
        | true => some (.ret (.sc v), st)
        | false => none
      | none => none
    | none => none
  | none => call f args st
theorem evNat_ok {call : EvF} (hc : CallOk Go.Proofs.Tryd.prog fnOf HTold call) : CallOk Go.Proofs.Tryd.prog fnOf HTold (evNat call) := by
  intro f args st r st' h
  unfold evNat at h
  split at h
  · rename_i e he
    split at h
    · rename_i vs hvs
      split at h
      · rename_i v hv
        split at h
        · rename_i hcv
          simp only [Option.some.injEq, Prod.mk.injEq] at h
          obtain ⟨rfl, rfl⟩ := h
          exact .hook (.inr (.inr ⟨e, vs, v, he, hvs, hv, hcv, rfl, rfl⟩))
        · cases h
      · cases h
    · cases h
  · exact hc _ _ _ _ _ h
/-- A closed call, worked out. -/
noncomputable def runClosed (n : Nat) (f : FuncId) (st : St) : Option (CRes × St) := evF fnOf (evC Go.Proofs.Tryd.prog fnOf (fun call => evNat (evBld (evFind n call))) n) f [] st
theorem runClosed_ok {n : Nat} {f : FuncId} {st st' : St} {r : CRes} (h : runClosed n f st = some (r, st')) : J Go.Proofs.Tryd.prog fnOf HTold (.call f [] st r st') :=
  evF_ok (fun _ _ _ _ _ h => htold_evo h) (evC_ok (fun _ _ _ _ _ h => htold_evo h) (fun _ h => evNat_ok (evBld_ok (evFind_ok (fun _ _ _ _ _ h => .inl h) n h))) n) _ _ _ _ _ h
end Go.VX.Seat
end
section
set_option maxRecDepth 1000000
/-! The law's own example: a closed call, worked out by the kernel. -/
namespace Go.VX.Seat
def okTrue : Option (CRes × St) → Bool
  | some (.ret (.sc (.bool true)), _) => true
  | _ => false
theorem alive_run : okTrue (runClosed 1000 11 glS) = true := by kernel_rfl
end Go.VX.Seat
end
section
set_option linter.unusedVariables false
set_option linter.unusedSimpArgs false
set_option maxRecDepth 1000000
/-! What is told of in all: the law's own example too. -/
namespace Go.VX
open Go.RowKit (Below)
theorem WRel.keep {n0 : Nat} {wi : World} {gl : List Nat} {K : KM} {st : St} {w w' : World} (h : WRel n0 wi gl K st w) (hn : n0 ≤ w.heap.size) (hb : Below w.heap.size w w') : WRel n0 wi gl K st w' := by
  have hc : ∀ a : Addr, a.block < w.heap.size → w'.cell? a = w.cell? a := fun a ha => by
    unfold World.cell?
    rw [hb.block _ ha]
  exact {
    below := h.below.trans ⟨hb.os, hb.tape, hb.output, hb.size, fun k hk => hb.block k (by omega)⟩
    dom := h.dom
    lt := fun b x kb h1 h2 h3 => Nat.lt_of_lt_of_le (h.lt b x kb h1 h2 h3) hb.size
    cell := fun b x kb h1 h2 h3 o a h4 => by
      obtain ⟨v, hv, hr⟩ := h.cell b x kb h1 h2 h3 o a h4
      exact ⟨v, by rw [hc _ (h.lt b x kb h1 (fun e => h2 (by rw [e]; exact Nat.le_refl _)) h3)]; exact hv, hr⟩
    live := fun b x kb h1 h2 h3 => by
      obtain ⟨g1, c, el, g2, g3⟩ := h.live b x kb h1 h2 h3
      exact ⟨g1, c, el, by rw [hb.block _ (h.lt b x kb h1 (by rw [h2]; decide) h3)]; exact g2, g3⟩
    excl := h.excl
    fit := h.fit
    glob := h.glob
    fo := h.fo.step (fun _ _ _ h1 _ h3 => ⟨h1, h3⟩) (fun b x kb h1 h2 h3 h4 => .inl ⟨b, x, kb, h1, h2, h3, h4, rfl⟩) hb.size (fun i hi => .inl (hb.block i hi)) }
namespace Seat
open Go.Proofs
theorem okTrue_inv : ∀ {r : Option (CRes × St)}, okTrue r = true → ∃ st', r = some (.ret (bA true), st')
  | some (.ret (.sc (.bool true)), st'), _ => ⟨st', rfl⟩
/-- The variables lie where they must. -/
def GB (st : St) : Prop := ∀ (j : Nat) (x : Box), glS[j]? = some x → st[j]? = some x
theorem GB.app {st : St} (h : GB st) (L : St) : GB (st ++ L) := fun j x hx => by
  have := h j x hx
  rw [List.getElem?_append_left (List.getElem?_eq_some_iff.1 this).1]; exact this
theorem GB.glob {st : St} (h : GB st) : GlobAt st := BoxAt.of (m := 1) (v := 0) (h 0 formBox rfl) (by decide)
theorem glS_flat : (glS.all fun x => Nat.beq x.mode 1 && x.cells.all AV.flat) = true := by decide +kernel
theorem glS_len : ([1, 0, 2, 3] : List Nat).length = glS.length := rfl
theorem glS_in {j : Nat} {x : Box} (h : glS[j]? = some x) : x.mode = 1 ∧ ∀ a ∈ x.cells, a.flat = true := by
  have := List.all_eq_true.1 glS_flat x (List.mem_of_getElem? h)
  simp only [Bool.and_eq_true] at this
  exact ⟨Nat.eq_of_beq_eq_true this.1, fun a ha => List.all_eq_true.1 this.2 a ha⟩
theorem alive_J : ∃ st', J Go.Proofs.Tryd.prog fnOf HTold (.call 11 [] glS (.ret (bA true)) st') :=
  let ⟨st', he⟩ := okTrue_inv alive_run
  ⟨st', runClosed_ok he⟩
theorem callable_alive : Callable Go.Proofs.Tryd.prog 11 := ⟨Go.Proofs.Tryd.f11, by kernel_rfl, by kernel_rfl, by kernel_rfl⟩
theorem alive_sound {st : St} (hg : GB st) : SoundCall Go.Proofs.Tryd.prog [1, 0, 2, 3] 11 [] st (.ret (bA true)) st := by
  obtain ⟨st', j⟩ := alive_J
  have S := (sound (P := Go.Proofs.Tryd.prog) (gl := [1, 0, 2, 3]) mixed (fun f fn h => fn_ok f fn h) (fun _ _ _ _ _ h => htold_sound h) (fun _ _ _ _ _ h => htold_evo h) j).c callable_alive
  refine SoundC.sound ?_ callable_alive
  intro n0 wi K w args' hW hn hargs
  cases hargs
  have hlt : ∀ {b : Nat} {x : Box}, glS[b]? = some x → b < glS.length := fun h => (List.getElem?_eq_some_iff.1 h).1
  have hkk : ∀ {b : Nat} {kb : KB}, (if b < glS.length then K b else none) = some kb → b < glS.length ∧ K b = some kb := fun {b kb} h => by
    split at h
    · exact ⟨by assumption, h⟩
    · cases h
  have hW0 : WRel w.heap.size w [1, 0, 2, 3] (fun b => if b < glS.length then K b else none) glS w := {
    below := ⟨rfl, rfl, rfl, Nat.le_refl _, fun _ _ => rfl⟩
    dom := fun b kb h => (hkk h).1
    lt := fun b x kb h1 h2 h3 => hW.lt b x kb (hg b x h1) h2 (hkk h3).2
    cell := fun b x kb h1 h2 h3 o a h4 => by
      obtain ⟨v, hv, hr⟩ := hW.cell b x kb (hg b x h1) h2 (hkk h3).2 o a h4
      exact ⟨v, hv, hr.flat ((glS_in h1).2 a (List.mem_of_getElem? h4))⟩
    live := fun b x kb h1 h2 h3 => by rw [(glS_in h1).1] at h2; cases h2
    excl := fun b x kb b' x' kb' h1 h2 h3 h4 h5 h6 h7 => by rw [(glS_in h1).1] at h2; cases h2
    fit := fun b x kb h1 h2 h3 => hW.fit b x kb (hg b x h1) h2 (hkk h3).2
    glob := fun j g h => by
      obtain ⟨kb, h1, h2⟩ := hW.glob j g h
      have hj : j < glS.length := by rw [← glS_len]; exact (List.getElem?_eq_some_iff.1 h).1
      exact ⟨kb, by simp only [if_pos hj]; exact h1, h2⟩
    fo := Fo.none fun b x h => by rw [(glS_in h).1]; decide }
  refine (S w.heap.size w _ w [] hW0 (Nat.le_refl _) .nil).mono fun e w' hp => ?_
  obtain ⟨K', hW', _, v', rfl, hv⟩ := hp
  exact ⟨K, hW.keep (hW.size hn) hW'.below, Fr.refl K st, v', rfl, hv.flat rfl⟩
/-- All that is told of. -/
def HAll : FuncId → List AV → St → CRes → St → Prop := fun f args st r st' => HTold f args st r st' ∨ (f = 11 ∧ args = [] ∧ r = .ret (bA true) ∧ st' = st ∧ GB st)
theorem hall_sound {f : FuncId} {args : List AV} {st st' : St} {r : CRes} (h : HAll f args st r st') : SoundCall Go.Proofs.Tryd.prog [1, 0, 2, 3] f args st r st' := by
  rcases h with h | ⟨rfl, rfl, rfl, rfl, hg⟩
  · exact htold_sound h
  · exact alive_sound hg
theorem hall_evo {f : FuncId} {args : List AV} {st st' : St} {r : CRes} (h : HAll f args st r st') : Evo st st' := by
  rcases h with h | ⟨rfl, rfl, rfl, rfl, hg⟩
  · exact htold_evo h
  · exact Evo.refl _
/-- The seat's own context. -/
noncomputable def XS : Cx := ⟨Go.Proofs.Tryd.prog, fnOf, HAll⟩
theorem onXS : On XS := ⟨rfl, rfl⟩
/-- A J-run of a call holds of the machine's call. -/
theorem seat_sound {f : FuncId} {args : List AV} {st st' : St} {r : CRes} (h : J XS.P XS.F XS.H (.call f args st r st')) : SoundCall Go.Proofs.Tryd.prog [1, 0, 2, 3] f args st r st' :=
  sound (P := Go.Proofs.Tryd.prog) (gl := [1, 0, 2, 3]) mixed (fun f fn h => fn_ok f fn h) (fun _ _ _ _ _ h => hall_sound h) (fun _ _ _ _ _ h => hall_evo h) h
/-- The functions of the seat, and what is told of. -/
structure OnH (X : Cx) : Prop extends On X where
  told : ∀ f args st r st', HTold f args st r st' → X.H f args st r st'
  alive : ∀ st : St, GB st → X.H 11 [] st (.ret (bA true)) st
theorem onH : OnH XS := { onXS with told := fun _ _ _ _ _ h => .inl h, alive := fun st h => .inr ⟨rfl, rfl, rfl, rfl, h⟩ }
end Seat
end Go.VX
end
section
set_option linter.unusedVariables false
set_option linter.unusedSimpArgs false
set_option maxRecDepth 4000
/-! slices.Equal; the program's Same. -/
namespace Go.VX.Seat
open Go.Proofs
theorem c_eql_end (ox oy : Operand) (k a t e k' a' t' e' : Int) :
    closed Tryd.prog (do eqGuard .eql 41 ox oy (.agg #[.int .i64 k, .int .i64 a, .int .i64 t, .int .i64 e]) (.agg #[.int .i64 k', .int .i64 a', .int .i64 t', .int .i64 e']); binOp .eql 41 (.agg #[.int .i64 k, .int .i64 a, .int .i64 t, .int .i64 e]) (.agg #[.int .i64 k', .int .i64 a', .int .i64 t', .int .i64 e'])) = some (.bool (endEq k a t e k' a' t' e')) := by
  rw [closed_bind]
  have h1 : closed Tryd.prog (eqGuard .eql 41 ox oy (.agg #[.int .i64 k, .int .i64 a, .int .i64 t, .int .i64 e]) (.agg #[.int .i64 k', .int .i64 a', .int .i64 t', .int .i64 e'])) = some () := by kernel_rfl
  rw [h1]
  simp only [Option.bind_some]
  have h2 : binOp .eql 41 (.agg #[.int .i64 k, .int .i64 a, .int .i64 t, .int .i64 e]) (.agg #[.int .i64 k', .int .i64 a', .int .i64 t', .int .i64 e']) = (do pure (Value.bool (← Op.equal 41 (.agg #[.int .i64 k, .int .i64 a, .int .i64 t, .int .i64 e]) (.agg #[.int .i64 k', .int .i64 a', .int .i64 t', .int .i64 e'])))) := rfl
  rw [h2, closed_bind, end_equal]
  rfl
theorem OpV.eq_iff (x y : OpV) : x = y ↔ opEq x.k x.d x.a x.b x.c x.n x.g y.k y.d y.a y.b y.c y.n y.g = true := by
  rw [opEq_iff]
  cases x; cases y
  simp
section
variable {X : Cx} {st : St}
theorem j_slices_Equal_int (h : On X) {lo hi lo' hi' : Nat} {v w : AV} {xs ys : List Int} (hv : IntsAt st lo hi v xs) (hw : IntsAt st lo' hi' w ys) (hlen : (xs.length : Int) < 4611686018427387904) :
    J X.P X.F X.H (.call 28 [v, w] st (.ret (bA (decide (xs = ys)))) st) := by
  refine pure_intro (by rw [h.F]; rfl) rfl ?_
  have l1 := hv.len
  have l2 := hw.len
  simp only [List.length_map] at l1 l2
  simp only [v_slices_Equal_int, l1, l2, kB, kC, cellsOf, fillA, partsEv, zeroes, Nat.reduceSub, Int.reduceToNat, Nat.reduceMul, asInt?, asNat?, Int.reduceAdd, Int.reduceLE, Int.reduceLT, Int.reduceNeg, Nat.reduceLeDiff, VOpd.ev, Nat.reduceEqDiff, Nat.reduceAdd, reduceIte, reduceCtorEq, splice, resOf, tupOf, cellsV, AV.toV, AV.cell?, cellVal]
  by_cases hne : xs.length = ys.length
  case neg =>
    have : xs ≠ ys := fun e => hne (by rw [e])
    have h3 : ((xs.length : Int) ≠ (ys.length : Int)) := by omega
    simp only [h3, this, ne_eq, not_false_eq_true, kB, kC, cellsOf, fillA, partsEv, zeroes, Nat.reduceSub, Int.reduceToNat, Nat.reduceMul, asInt?, asNat?, Int.reduceAdd, Int.reduceLE, Int.reduceLT, Int.reduceNeg, Nat.reduceLeDiff, VOpd.ev, Nat.reduceEqDiff, Nat.reduceAdd, reduceIte, reduceCtorEq, splice, resOf, tupOf, cellsV, AV.toV, AV.cell?, cellVal]
    first | exact ⟨_, rfl⟩ | exact ⟨rfl, _, rfl⟩ | exact ⟨trivial, _, rfl⟩ | exact ⟨[], (List.append_nil _).symm⟩
  have h3 : ¬ ((xs.length : Int) ≠ (ys.length : Int)) := by omega
  simp only [h3, l1, l2, kB, kC, cellsOf, fillA, partsEv, zeroes, Nat.reduceSub, Int.reduceToNat, Nat.reduceMul, asInt?, asNat?, Int.reduceAdd, Int.reduceLE, Int.reduceLT, Int.reduceNeg, Nat.reduceLeDiff, VOpd.ev, Nat.reduceEqDiff, Nat.reduceAdd, reduceIte, reduceCtorEq, splice, resOf, tupOf, cellsV, AV.toV, AV.cell?, cellVal]
  refine loop_live [0, 1, 12] (fun m e => ∃ i : Nat, i + m = xs.length ∧ e 13 = iA i ∧ ∀ j (h1 : j < xs.length) (h2 : j < ys.length), j < i → xs[j] = ys[j]) xs.length ?_ ?_
  · exact ⟨0, by omega, by simp only [kB, kC, cellsOf, fillA, partsEv, zeroes, Nat.reduceSub, Int.reduceToNat, Nat.reduceMul, asInt?, asNat?, Int.reduceAdd, Int.reduceLE, Int.reduceLT, Int.reduceNeg, Nat.reduceLeDiff, VOpd.ev, Nat.reduceEqDiff, Nat.reduceAdd, reduceIte, reduceCtorEq, splice, resOf, tupOf, cellsV, AV.toV, AV.cell?, cellVal], fun j _ _ hj => absurd hj (by omega)⟩
  · intro m e hL ⟨i, him, h5, hpre⟩
    simp only [kB, kC, cellsOf, fillA, partsEv, zeroes, Nat.reduceSub, Int.reduceToNat, Nat.reduceMul, asInt?, asNat?, Int.reduceAdd, Int.reduceLE, Int.reduceLT, Int.reduceNeg, Nat.reduceLeDiff, VOpd.ev, Nat.reduceEqDiff, Nat.reduceAdd, reduceIte, reduceCtorEq, splice, resOf, tupOf, cellsV, AV.toV, AV.cell?, cellVal] at hL
    obtain ⟨h0, h1, h12⟩ := hL
    simp only [*, kB, kC, cellsOf, fillA, partsEv, zeroes, Nat.reduceSub, Int.reduceToNat, Nat.reduceMul, asInt?, asNat?, Int.reduceAdd, Int.reduceLE, Int.reduceLT, Int.reduceNeg, Nat.reduceLeDiff, VOpd.ev, Nat.reduceEqDiff, Nat.reduceAdd, reduceIte, reduceCtorEq, splice, resOf, tupOf, cellsV, AV.toV, AV.cell?, cellVal]
    refine condO_intro ?_ ?_ <;> intro hc <;> simp only [kB, kC, cellsOf, fillA, partsEv, zeroes, Nat.reduceSub, Int.reduceToNat, Nat.reduceMul, asInt?, asNat?, Int.reduceAdd, Int.reduceLE, Int.reduceLT, Int.reduceNeg, Nat.reduceLeDiff, VOpd.ev, Nat.reduceEqDiff, Nat.reduceAdd, reduceIte, reduceCtorEq, splice, resOf, tupOf, cellsV, AV.toV, AV.cell?, cellVal]
    · have hi : i < xs.length := by have := of_decide_eq_true hc; omega
      obtain ⟨b1, o1, he1, hn1, ha1, _⟩ := hv.get i (by simpa using hi)
      obtain ⟨b2, o2, he2, hn2, ha2, _⟩ := hw.get i (by simpa using (by omega : i < ys.length))
      have p1 := fun L => ha1 L 0 (by omega)
      have p2 := fun L => ha2 L 0 (by omega)
      simp only [List.getElem_map, Nat.add_zero, kB, kC, cellsOf, fillA, partsEv, zeroes, Nat.reduceSub, Int.reduceToNat, Nat.reduceMul, asInt?, asNat?, Int.reduceAdd, Int.reduceLE, Int.reduceLT, Int.reduceNeg, Nat.reduceLeDiff, VOpd.ev, Nat.reduceEqDiff, Nat.reduceAdd, reduceIte, reduceCtorEq, splice, resOf, tupOf, cellsV, AV.toV, AV.cell?, cellVal] at p1 p2
      simp only [*, kB, kC, cellsOf, fillA, partsEv, zeroes, Nat.reduceSub, Int.reduceToNat, Nat.reduceMul, asInt?, asNat?, Int.reduceAdd, Int.reduceLE, Int.reduceLT, Int.reduceNeg, Nat.reduceLeDiff, VOpd.ev, Nat.reduceEqDiff, Nat.reduceAdd, reduceIte, reduceCtorEq, splice, resOf, tupOf, cellsV, AV.toV, AV.cell?, cellVal]
      refine condO_intro ?_ ?_ <;> intro hq <;> simp only [*, kB, kC, cellsOf, fillA, partsEv, zeroes, Nat.reduceSub, Int.reduceToNat, Nat.reduceMul, asInt?, asNat?, Int.reduceAdd, Int.reduceLE, Int.reduceLT, Int.reduceNeg, Nat.reduceLeDiff, VOpd.ev, Nat.reduceEqDiff, Nat.reduceAdd, reduceIte, reduceCtorEq, splice, resOf, tupOf, cellsV, AV.toV, AV.cell?, cellVal]
      · have : xs ≠ ys := by
          rintro rfl
          have := of_decide_eq_true hq
          simp at this
        simp only [this, kB, kC, cellsOf, fillA, partsEv, zeroes, Nat.reduceSub, Int.reduceToNat, Nat.reduceMul, asInt?, asNat?, Int.reduceAdd, Int.reduceLE, Int.reduceLT, Int.reduceNeg, Nat.reduceLeDiff, VOpd.ev, Nat.reduceEqDiff, Nat.reduceAdd, reduceIte, reduceCtorEq, splice, resOf, tupOf, cellsV, AV.toV, AV.cell?, cellVal]
        first | exact ⟨_, rfl⟩ | exact ⟨rfl, _, rfl⟩ | exact ⟨trivial, _, rfl⟩ | exact ⟨[], (List.append_nil _).symm⟩
      · have he : xs[i] = ys[i] := by
          have := of_decide_eq_false hq
          omega
        rw [wrap_small (by omega) (by omega)]
        refine ⟨m - 1, by omega, i + 1, by omega, by simp, fun j h1 h2 hj => ?_⟩
        by_cases hji : j = i
        · subst hji; exact he
        · exact hpre j (by omega) h2 (by omega)
    · have hi : i = xs.length := by have := of_decide_eq_false hc; omega
      have : xs = ys := List.ext_getElem hne fun j h1 h2 => hpre j h1 h2 (by omega)
      simp only [this, kB, kC, cellsOf, fillA, partsEv, zeroes, Nat.reduceSub, Int.reduceToNat, Nat.reduceMul, asInt?, asNat?, Int.reduceAdd, Int.reduceLE, Int.reduceLT, Int.reduceNeg, Nat.reduceLeDiff, VOpd.ev, Nat.reduceEqDiff, Nat.reduceAdd, reduceIte, reduceCtorEq, splice, resOf, tupOf, cellsV, AV.toV, AV.cell?, cellVal]
      first | exact ⟨_, rfl⟩ | exact ⟨rfl, _, rfl⟩ | exact ⟨trivial, _, rfl⟩ | exact ⟨[], (List.append_nil _).symm⟩
theorem j_slices_Equal_Op (h : On X) {lo hi lo' hi' : Nat} {v w : AV} {xs ys : List OpV} (hv : OpsAt st lo hi v xs) (hw : OpsAt st lo' hi' w ys) (hlen : (xs.length : Int) < 4611686018427387904) :
    J X.P X.F X.H (.call 31 [v, w] st (.ret (bA (decide (xs = ys)))) st) := by
  refine pure_intro (by rw [h.F]; rfl) rfl ?_
  have l1 := hv.len
  have l2 := hw.len
  simp only [List.length_map] at l1 l2
  simp only [v_slices_Equal_Op, l1, l2, kB, kC, cellsOf, fillA, partsEv, zeroes, Nat.reduceSub, Int.reduceToNat, Nat.reduceMul, asInt?, asNat?, Int.reduceAdd, Int.reduceLE, Int.reduceLT, Int.reduceNeg, Nat.reduceLeDiff, VOpd.ev, Nat.reduceEqDiff, Nat.reduceAdd, reduceIte, reduceCtorEq, splice, resOf, tupOf, cellsV, AV.toV, AV.cell?, cellVal]
  by_cases hne : xs.length = ys.length
  case neg =>
    have : xs ≠ ys := fun e => hne (by rw [e])
    have h3 : ((xs.length : Int) ≠ (ys.length : Int)) := by omega
    simp only [h3, this, ne_eq, not_false_eq_true, kB, kC, cellsOf, fillA, partsEv, zeroes, Nat.reduceSub, Int.reduceToNat, Nat.reduceMul, asInt?, asNat?, Int.reduceAdd, Int.reduceLE, Int.reduceLT, Int.reduceNeg, Nat.reduceLeDiff, VOpd.ev, Nat.reduceEqDiff, Nat.reduceAdd, reduceIte, reduceCtorEq, splice, resOf, tupOf, cellsV, AV.toV, AV.cell?, cellVal]
    first | exact ⟨_, rfl⟩ | exact ⟨rfl, _, rfl⟩ | exact ⟨trivial, _, rfl⟩ | exact ⟨[], (List.append_nil _).symm⟩
  have h3 : ¬ ((xs.length : Int) ≠ (ys.length : Int)) := by omega
  simp only [h3, l1, l2, kB, kC, cellsOf, fillA, partsEv, zeroes, Nat.reduceSub, Int.reduceToNat, Nat.reduceMul, asInt?, asNat?, Int.reduceAdd, Int.reduceLE, Int.reduceLT, Int.reduceNeg, Nat.reduceLeDiff, VOpd.ev, Nat.reduceEqDiff, Nat.reduceAdd, reduceIte, reduceCtorEq, splice, resOf, tupOf, cellsV, AV.toV, AV.cell?, cellVal]
  refine loop_live [0, 1, 12] (fun m e => ∃ i : Nat, i + m = xs.length ∧ e 13 = iA i ∧ ∀ j (h1 : j < xs.length) (h2 : j < ys.length), j < i → xs[j] = ys[j]) xs.length ?_ ?_
  · exact ⟨0, by omega, by simp only [kB, kC, cellsOf, fillA, partsEv, zeroes, Nat.reduceSub, Int.reduceToNat, Nat.reduceMul, asInt?, asNat?, Int.reduceAdd, Int.reduceLE, Int.reduceLT, Int.reduceNeg, Nat.reduceLeDiff, VOpd.ev, Nat.reduceEqDiff, Nat.reduceAdd, reduceIte, reduceCtorEq, splice, resOf, tupOf, cellsV, AV.toV, AV.cell?, cellVal], fun j _ _ hj => absurd hj (by omega)⟩
  · intro m e hL ⟨i, him, h5, hpre⟩
    simp only [kB, kC, cellsOf, fillA, partsEv, zeroes, Nat.reduceSub, Int.reduceToNat, Nat.reduceMul, asInt?, asNat?, Int.reduceAdd, Int.reduceLE, Int.reduceLT, Int.reduceNeg, Nat.reduceLeDiff, VOpd.ev, Nat.reduceEqDiff, Nat.reduceAdd, reduceIte, reduceCtorEq, splice, resOf, tupOf, cellsV, AV.toV, AV.cell?, cellVal] at hL
    obtain ⟨h0, h1, h12⟩ := hL
    simp only [*, kB, kC, cellsOf, fillA, partsEv, zeroes, Nat.reduceSub, Int.reduceToNat, Nat.reduceMul, asInt?, asNat?, Int.reduceAdd, Int.reduceLE, Int.reduceLT, Int.reduceNeg, Nat.reduceLeDiff, VOpd.ev, Nat.reduceEqDiff, Nat.reduceAdd, reduceIte, reduceCtorEq, splice, resOf, tupOf, cellsV, AV.toV, AV.cell?, cellVal]
    refine condO_intro ?_ ?_ <;> intro hc <;> simp only [kB, kC, cellsOf, fillA, partsEv, zeroes, Nat.reduceSub, Int.reduceToNat, Nat.reduceMul, asInt?, asNat?, Int.reduceAdd, Int.reduceLE, Int.reduceLT, Int.reduceNeg, Nat.reduceLeDiff, VOpd.ev, Nat.reduceEqDiff, Nat.reduceAdd, reduceIte, reduceCtorEq, splice, resOf, tupOf, cellsV, AV.toV, AV.cell?, cellVal]
    · have hi : i < xs.length := by have := of_decide_eq_true hc; omega
      obtain ⟨b1, o1, he1, hn1, _, _⟩ := hv.get i (by simpa using hi)
      obtain ⟨b2, o2, he2, hn2, _, _⟩ := hw.get i (by simpa using (by omega : i < ys.length))
      simp only [List.getElem_map, OpV.row] at hn1 hn2
      simp only [*, h.P, c_neq_op, kB, kC, cellsOf, fillA, partsEv, zeroes, Nat.reduceSub, Int.reduceToNat, Nat.reduceMul, asInt?, asNat?, Int.reduceAdd, Int.reduceLE, Int.reduceLT, Int.reduceNeg, Nat.reduceLeDiff, VOpd.ev, Nat.reduceEqDiff, Nat.reduceAdd, reduceIte, reduceCtorEq, splice, resOf, tupOf, cellsV, AV.toV, AV.cell?, cellVal]
      refine condO_intro ?_ ?_ <;> intro hq <;> simp only [*, kB, kC, cellsOf, fillA, partsEv, zeroes, Nat.reduceSub, Int.reduceToNat, Nat.reduceMul, asInt?, asNat?, Int.reduceAdd, Int.reduceLE, Int.reduceLT, Int.reduceNeg, Nat.reduceLeDiff, VOpd.ev, Nat.reduceEqDiff, Nat.reduceAdd, reduceIte, reduceCtorEq, splice, resOf, tupOf, cellsV, AV.toV, AV.cell?, cellVal]
      · have : xs ≠ ys := by
          rintro rfl
          rw [(OpV.eq_iff _ _).1 rfl] at hq
          cases hq
        simp only [this, kB, kC, cellsOf, fillA, partsEv, zeroes, Nat.reduceSub, Int.reduceToNat, Nat.reduceMul, asInt?, asNat?, Int.reduceAdd, Int.reduceLE, Int.reduceLT, Int.reduceNeg, Nat.reduceLeDiff, VOpd.ev, Nat.reduceEqDiff, Nat.reduceAdd, reduceIte, reduceCtorEq, splice, resOf, tupOf, cellsV, AV.toV, AV.cell?, cellVal]
        first | exact ⟨_, rfl⟩ | exact ⟨rfl, _, rfl⟩ | exact ⟨trivial, _, rfl⟩ | exact ⟨[], (List.append_nil _).symm⟩
      · have he : xs[i] = ys[i] := (OpV.eq_iff _ _).2 (by simpa using hq)
        rw [wrap_small (by omega) (by omega)]
        refine ⟨m - 1, by omega, i + 1, by omega, by simp, fun j h1 h2 hj => ?_⟩
        by_cases hji : j = i
        · subst hji; exact he
        · exact hpre j (by omega) h2 (by omega)
    · have hi : i = xs.length := by have := of_decide_eq_false hc; omega
      have : xs = ys := List.ext_getElem hne fun j h1 h2 => hpre j h1 h2 (by omega)
      simp only [this, kB, kC, cellsOf, fillA, partsEv, zeroes, Nat.reduceSub, Int.reduceToNat, Nat.reduceMul, asInt?, asNat?, Int.reduceAdd, Int.reduceLE, Int.reduceLT, Int.reduceNeg, Nat.reduceLeDiff, VOpd.ev, Nat.reduceEqDiff, Nat.reduceAdd, reduceIte, reduceCtorEq, splice, resOf, tupOf, cellsV, AV.toV, AV.cell?, cellVal]
      first | exact ⟨_, rfl⟩ | exact ⟨rfl, _, rfl⟩ | exact ⟨trivial, _, rfl⟩ | exact ⟨[], (List.append_nil _).symm⟩
theorem BlkV.eq_iff (x y : BlkV) : x = y ↔ (x.ops = y.ops ∧ endEq x.e.k x.e.a x.e.t x.e.e y.e.k y.e.a y.e.t y.e.e = true ∧ x.catch_ = y.catch_) := by
  rw [endEq_iff]
  cases x; cases y
  simp only [BlkV.mk.injEq]
  rename_i o1 e1 c1 o2 e2 c2
  cases e1; cases e2
  simp
theorem j_code_Same_c1 (h : On X) {lo hi lo' hi' : Nat} {a b : AV} {x y : BlkV} (ha : OpsAt st lo hi a x.ops) (hb : OpsAt st lo' hi' b y.ops) (hlen : (x.ops.length : Int) < 4611686018427387904) :
    J X.P X.F X.H (.call 30 [.agg (x.row a), .agg (y.row b)] st (.ret (bA (decide (x = y)))) st) := by
  refine pure_intro (by rw [h.F]; rfl) rfl ?_
  have hxy := BlkV.eq_iff x y
  simp only [v_code_Same_c1, BlkV.row, kB, kZ, kD, fillA, partsEv, zeroes, Nat.reduceSub, Int.reduceToNat, Nat.reduceMul, asInt?, asNat?, Int.reduceAdd, Int.reduceLE, Int.reduceLT, Int.reduceNeg, Nat.reduceLeDiff, VOpd.ev, Nat.reduceEqDiff, Nat.reduceAdd, reduceIte, reduceCtorEq, splice, resOf, tupOf, cellsV, AV.toV, AV.cell?, cellVal]
  refine callO_same (j_slices_Equal_Op h (ArrAt.mono ha _) (ArrAt.mono hb _) hlen) ?_
  simp only [h.P, c_eql_end, kB, kZ, kD, fillA, partsEv, zeroes, Nat.reduceSub, Int.reduceToNat, Nat.reduceMul, asInt?, asNat?, Int.reduceAdd, Int.reduceLE, Int.reduceLT, Int.reduceNeg, Nat.reduceLeDiff, VOpd.ev, Nat.reduceEqDiff, Nat.reduceAdd, reduceIte, reduceCtorEq, splice, resOf, tupOf, cellsV, AV.toV, AV.cell?, cellVal]
  have hd : decide (x = y) = (decide (x.ops = y.ops) && (endEq x.e.k x.e.a x.e.t x.e.e y.e.k y.e.a y.e.t y.e.e && decide (x.catch_ = y.catch_))) := by
    rw [Bool.eq_iff_iff]
    simp only [decide_eq_true_eq, Bool.and_eq_true]
    exact hxy
  rw [hd]
  generalize decide (x.ops = y.ops) = q1
  cases q1 <;> simp only [h.P, c_eql_end, kB, kZ, kD, fillA, partsEv, zeroes, Nat.reduceSub, Int.reduceToNat, Nat.reduceMul, asInt?, asNat?, Int.reduceAdd, Int.reduceLE, Int.reduceLT, Int.reduceNeg, Nat.reduceLeDiff, VOpd.ev, Nat.reduceEqDiff, Nat.reduceAdd, reduceIte, reduceCtorEq, splice, resOf, tupOf, cellsV, AV.toV, AV.cell?, cellVal]
  · first | exact ⟨_, rfl⟩ | exact ⟨rfl, _, rfl⟩ | exact ⟨trivial, _, rfl⟩ | exact ⟨[], (List.append_nil _).symm⟩
  · generalize endEq x.e.k x.e.a x.e.t x.e.e y.e.k y.e.a y.e.t y.e.e = q2
    cases q2 <;> simp only [h.P, c_eql_end, kB, kZ, kD, fillA, partsEv, zeroes, Nat.reduceSub, Int.reduceToNat, Nat.reduceMul, asInt?, asNat?, Int.reduceAdd, Int.reduceLE, Int.reduceLT, Int.reduceNeg, Nat.reduceLeDiff, VOpd.ev, Nat.reduceEqDiff, Nat.reduceAdd, reduceIte, reduceCtorEq, splice, resOf, tupOf, cellsV, AV.toV, AV.cell?, cellVal]
    all_goals first | exact ⟨_, rfl⟩ | exact ⟨rfl, _, rfl⟩ | exact ⟨trivial, _, rfl⟩ | exact ⟨[], (List.append_nil _).symm⟩
theorem j_EqualFunc_Block (h : On X) {lo hi lo' hi' : Nat} {v w : AV} {xs ys : List BlkV} (hv : BlksAt st lo hi v xs) (hw : BlksAt st lo' hi' w ys) (hlen : (xs.length : Int) < 4611686018427387904) (hops : ∀ b ∈ xs, (b.ops.length : Int) < 4611686018427387904) :
    J X.P X.F X.H (.call 29 [v, w, .fn 30 [] []] st (.ret (bA (decide (xs = ys)))) st) := by
  refine pure_intro (by rw [h.F]; rfl) rfl ?_
  obtain ⟨fv, hv, hvo⟩ := hv
  obtain ⟨fw, hw, hwo⟩ := hw
  have l1 := hv.len
  have l2 := hw.len
  simp only [List.length_mapIdx] at l1 l2
  simp only [v_slices_EqualFunc_Block, l1, l2, kB, kC, cellsOf, fillA, partsEv, zeroes, Nat.reduceSub, Int.reduceToNat, Nat.reduceMul, asInt?, asNat?, Int.reduceAdd, Int.reduceLE, Int.reduceLT, Int.reduceNeg, Nat.reduceLeDiff, VOpd.ev, Nat.reduceEqDiff, Nat.reduceAdd, reduceIte, reduceCtorEq, splice, resOf, tupOf, cellsV, AV.toV, AV.cell?, cellVal]
  by_cases hne : xs.length = ys.length
  case neg =>
    have : xs ≠ ys := fun e => hne (by rw [e])
    have h3 : ((xs.length : Int) ≠ (ys.length : Int)) := by omega
    simp only [h3, this, ne_eq, not_false_eq_true, kB, kC, cellsOf, fillA, partsEv, zeroes, Nat.reduceSub, Int.reduceToNat, Nat.reduceMul, asInt?, asNat?, Int.reduceAdd, Int.reduceLE, Int.reduceLT, Int.reduceNeg, Nat.reduceLeDiff, VOpd.ev, Nat.reduceEqDiff, Nat.reduceAdd, reduceIte, reduceCtorEq, splice, resOf, tupOf, cellsV, AV.toV, AV.cell?, cellVal]
    first | exact ⟨_, rfl⟩ | exact ⟨rfl, _, rfl⟩ | exact ⟨trivial, _, rfl⟩ | exact ⟨[], (List.append_nil _).symm⟩
  have h3 : ¬ ((xs.length : Int) ≠ (ys.length : Int)) := by omega
  simp only [h3, l1, l2, kB, kC, cellsOf, fillA, partsEv, zeroes, Nat.reduceSub, Int.reduceToNat, Nat.reduceMul, asInt?, asNat?, Int.reduceAdd, Int.reduceLE, Int.reduceLT, Int.reduceNeg, Nat.reduceLeDiff, VOpd.ev, Nat.reduceEqDiff, Nat.reduceAdd, reduceIte, reduceCtorEq, splice, resOf, tupOf, cellsV, AV.toV, AV.cell?, cellVal]
  refine loop_grow [0, 1, 2, 15, 16] (fun m e => ∃ i : Nat, i + m = xs.length ∧ e 17 = iA i ∧ ∀ j (h1 : j < xs.length) (h2 : j < ys.length), j < i → xs[j] = ys[j]) xs.length ?_ ?_
  · exact ⟨0, by omega, by simp only [kB, kC, cellsOf, fillA, partsEv, zeroes, Nat.reduceSub, Int.reduceToNat, Nat.reduceMul, asInt?, asNat?, Int.reduceAdd, Int.reduceLE, Int.reduceLT, Int.reduceNeg, Nat.reduceLeDiff, VOpd.ev, Nat.reduceEqDiff, Nat.reduceAdd, reduceIte, reduceCtorEq, splice, resOf, tupOf, cellsV, AV.toV, AV.cell?, cellVal], fun j _ _ hj => absurd hj (by omega)⟩
  · intro m e s1 hE hL ⟨i, him, h5, hpre⟩
    simp only [kB, kC, cellsOf, fillA, partsEv, zeroes, Nat.reduceSub, Int.reduceToNat, Nat.reduceMul, asInt?, asNat?, Int.reduceAdd, Int.reduceLE, Int.reduceLT, Int.reduceNeg, Nat.reduceLeDiff, VOpd.ev, Nat.reduceEqDiff, Nat.reduceAdd, reduceIte, reduceCtorEq, splice, resOf, tupOf, cellsV, AV.toV, AV.cell?, cellVal] at hL
    obtain ⟨h0, h1, h2, h15, h16⟩ := hL
    obtain ⟨M, rfl⟩ := hE
    simp only [h0, h1, h2, h15, h16, h5, kB, kC, cellsOf, fillA, partsEv, zeroes, Nat.reduceSub, Int.reduceToNat, Nat.reduceMul, asInt?, asNat?, Int.reduceAdd, Int.reduceLE, Int.reduceLT, Int.reduceNeg, Nat.reduceLeDiff, VOpd.ev, Nat.reduceEqDiff, Nat.reduceAdd, reduceIte, reduceCtorEq, splice, resOf, tupOf, cellsV, AV.toV, AV.cell?, cellVal]
    refine condO_intro ?_ ?_ <;> intro hc <;> simp only [kB, kC, cellsOf, fillA, partsEv, zeroes, Nat.reduceSub, Int.reduceToNat, Nat.reduceMul, asInt?, asNat?, Int.reduceAdd, Int.reduceLE, Int.reduceLT, Int.reduceNeg, Nat.reduceLeDiff, VOpd.ev, Nat.reduceEqDiff, Nat.reduceAdd, reduceIte, reduceCtorEq, splice, resOf, tupOf, cellsV, AV.toV, AV.cell?, cellVal]
    · have hi : i < xs.length := by have := of_decide_eq_true hc; omega
      have hi2 : i < ys.length := by omega
      obtain ⟨b1, o1, he1, hn1, _, _⟩ := hv.get i (by simpa using hi)
      obtain ⟨b2, o2, he2, hn2, _, _⟩ := hw.get i (by simpa using hi2)
      simp only [List.getElem_mapIdx, BlkV.row] at hn1 hn2
      have hc1 := isCell_len (hvo i hi).len
      have hc2 := isCell_len (hwo i hi2).len
      simp only [h0, h1, h2, h15, h16, h5, he1, he2, hn1, hn2, hc1, hc2, kB, kZ, kD, fillA, partsEv, zeroes, Nat.reduceSub, Int.reduceToNat, Nat.reduceMul, asInt?, asNat?, Int.reduceAdd, Int.reduceLE, Int.reduceLT, Int.reduceNeg, Nat.reduceLeDiff, VOpd.ev, Nat.reduceEqDiff, Nat.reduceAdd, reduceIte, reduceCtorEq, splice, resOf, tupOf, cellsV, AV.toV, AV.cell?, cellVal]
      refine callO_same (j_code_Same_c1 h (x := xs[i]) (y := ys[i]) (ArrAt.mono (hvo i hi) _) (ArrAt.mono (hwo i hi2) _) (hops _ (List.getElem_mem hi))) ?_
      simp only [kB, kZ, kD, fillA, partsEv, zeroes, Nat.reduceSub, Int.reduceToNat, Nat.reduceMul, asInt?, asNat?, Int.reduceAdd, Int.reduceLE, Int.reduceLT, Int.reduceNeg, Nat.reduceLeDiff, VOpd.ev, Nat.reduceEqDiff, Nat.reduceAdd, reduceIte, reduceCtorEq, splice, resOf, tupOf, cellsV, AV.toV, AV.cell?, cellVal]
      refine condO_intro ?_ ?_ <;> intro hq <;> simp only [h0, h1, h2, h15, h16, h5, kB, kZ, kD, fillA, partsEv, zeroes, Nat.reduceSub, Int.reduceToNat, Nat.reduceMul, asInt?, asNat?, Int.reduceAdd, Int.reduceLE, Int.reduceLT, Int.reduceNeg, Nat.reduceLeDiff, VOpd.ev, Nat.reduceEqDiff, Nat.reduceAdd, reduceIte, reduceCtorEq, splice, resOf, tupOf, cellsV, AV.toV, AV.cell?, cellVal]
      · have : xs ≠ ys := by
          rintro rfl
          simp at hq
        simp only [this, kB, kZ, kD, fillA, partsEv, zeroes, Nat.reduceSub, Int.reduceToNat, Nat.reduceMul, asInt?, asNat?, Int.reduceAdd, Int.reduceLE, Int.reduceLT, Int.reduceNeg, Nat.reduceLeDiff, VOpd.ev, Nat.reduceEqDiff, Nat.reduceAdd, reduceIte, reduceCtorEq, splice, resOf, tupOf, cellsV, AV.toV, AV.cell?, cellVal]
        first | exact ⟨_, rfl⟩ | exact ⟨rfl, _, rfl⟩ | exact ⟨trivial, _, rfl⟩ | exact ⟨[], (List.append_nil _).symm⟩
      · have he : xs[i] = ys[i] := by simpa using hq
        rw [wrap_small (by omega) (by omega)]
        refine ⟨m - 1, by omega, ⟨_, by simp only [List.append_assoc, List.nil_append]; rfl⟩, i + 1, by omega, by simp, fun j h1 h2 hj => ?_⟩
        by_cases hji : j = i
        · subst hji; exact he
        · exact hpre j (by omega) h2 (by omega)
    · have hi : i = xs.length := by have := of_decide_eq_false hc; omega
      have : xs = ys := List.ext_getElem hne fun j h1 h2 => hpre j h1 h2 (by omega)
      simp only [this, kB, kC, cellsOf, fillA, partsEv, zeroes, Nat.reduceSub, Int.reduceToNat, Nat.reduceMul, asInt?, asNat?, Int.reduceAdd, Int.reduceLE, Int.reduceLT, Int.reduceNeg, Nat.reduceLeDiff, VOpd.ev, Nat.reduceEqDiff, Nat.reduceAdd, reduceIte, reduceCtorEq, splice, resOf, tupOf, cellsV, AV.toV, AV.cell?, cellVal]
      first | exact ⟨_, rfl⟩ | exact ⟨rfl, _, rfl⟩ | exact ⟨trivial, _, rfl⟩ | exact ⟨[], (List.append_nil _).symm⟩
theorem j_code_Same (h : On X) {lo hi lo' hi' : Nat} {v w : AV} {U V : UnitV} (hv : UnitAt st lo hi v U) (hw : UnitAt st lo' hi' w V) (hf : Fits U) :
    J X.P X.F X.H (.call 14 [v, w] st (.ret (bA (decide (U = V)))) st) := by
  refine pure_intro (by rw [h.F]; rfl) rfl ?_
  obtain ⟨s, bl, rfl, hs, hb⟩ := hv
  obtain ⟨s', bl', rfl, hs', hb'⟩ := hw
  simp only [v_code_Same, kB, kZ, kD, fillA, partsEv, zeroes, Nat.reduceSub, Int.reduceToNat, Nat.reduceMul, asInt?, asNat?, Int.reduceAdd, Int.reduceLE, Int.reduceLT, Int.reduceNeg, Nat.reduceLeDiff, VOpd.ev, Nat.reduceEqDiff, Nat.reduceAdd, reduceIte, reduceCtorEq, splice, resOf, tupOf, cellsV, AV.toV, AV.cell?, cellVal]
  refine callO_same (j_slices_Equal_int h (hs.mono _) (hs'.mono _) hf.1) ?_
  simp only [kB, kZ, kD, fillA, partsEv, zeroes, Nat.reduceSub, Int.reduceToNat, Nat.reduceMul, asInt?, asNat?, Int.reduceAdd, Int.reduceLE, Int.reduceLT, Int.reduceNeg, Nat.reduceLeDiff, VOpd.ev, Nat.reduceEqDiff, Nat.reduceAdd, reduceIte, reduceCtorEq, splice, resOf, tupOf, cellsV, AV.toV, AV.cell?, cellVal]
  have hd : decide (U = V) = (decide (U.sizes = V.sizes) && (decide (U.params = V.params) && (decide (U.regs = V.regs) && (decide (U.code = V.code) && (decide (U.spill = V.spill) && decide (U.blocks = V.blocks)))))) := by
    rw [Bool.eq_iff_iff]
    simp only [decide_eq_true_eq, Bool.and_eq_true]
    constructor
    · rintro rfl; exact ⟨rfl, rfl, rfl, rfl, rfl, rfl⟩
    · rintro ⟨a1, a2, a3, a4, a5, a6⟩
      exact unit_ext a1 a2 a3 a4 a5 a6
  rw [hd]
  clear hd
  generalize decide (U.sizes = V.sizes) = q1
  cases q1 <;> simp only [kB, kZ, kD, fillA, partsEv, zeroes, Nat.reduceSub, Int.reduceToNat, Nat.reduceMul, asInt?, asNat?, Int.reduceAdd, Int.reduceLE, Int.reduceLT, Int.reduceNeg, Nat.reduceLeDiff, VOpd.ev, Nat.reduceEqDiff, Nat.reduceAdd, reduceIte, reduceCtorEq, splice, resOf, tupOf, cellsV, AV.toV, AV.cell?, cellVal]
  · first | exact ⟨_, rfl⟩ | exact ⟨rfl, _, rfl⟩ | exact ⟨trivial, _, rfl⟩ | exact ⟨[], (List.append_nil _).symm⟩
  generalize decide (U.params = V.params) = q2
  cases q2 <;> simp only [kB, kZ, kD, fillA, partsEv, zeroes, Nat.reduceSub, Int.reduceToNat, Nat.reduceMul, asInt?, asNat?, Int.reduceAdd, Int.reduceLE, Int.reduceLT, Int.reduceNeg, Nat.reduceLeDiff, VOpd.ev, Nat.reduceEqDiff, Nat.reduceAdd, reduceIte, reduceCtorEq, splice, resOf, tupOf, cellsV, AV.toV, AV.cell?, cellVal]
  · first | exact ⟨_, rfl⟩ | exact ⟨rfl, _, rfl⟩ | exact ⟨trivial, _, rfl⟩ | exact ⟨[], (List.append_nil _).symm⟩
  generalize decide (U.regs = V.regs) = q3
  cases q3 <;> simp only [kB, kZ, kD, fillA, partsEv, zeroes, Nat.reduceSub, Int.reduceToNat, Nat.reduceMul, asInt?, asNat?, Int.reduceAdd, Int.reduceLE, Int.reduceLT, Int.reduceNeg, Nat.reduceLeDiff, VOpd.ev, Nat.reduceEqDiff, Nat.reduceAdd, reduceIte, reduceCtorEq, splice, resOf, tupOf, cellsV, AV.toV, AV.cell?, cellVal]
  · first | exact ⟨_, rfl⟩ | exact ⟨rfl, _, rfl⟩ | exact ⟨trivial, _, rfl⟩ | exact ⟨[], (List.append_nil _).symm⟩
  generalize decide (U.code = V.code) = q4
  cases q4 <;> simp only [kB, kZ, kD, fillA, partsEv, zeroes, Nat.reduceSub, Int.reduceToNat, Nat.reduceMul, asInt?, asNat?, Int.reduceAdd, Int.reduceLE, Int.reduceLT, Int.reduceNeg, Nat.reduceLeDiff, VOpd.ev, Nat.reduceEqDiff, Nat.reduceAdd, reduceIte, reduceCtorEq, splice, resOf, tupOf, cellsV, AV.toV, AV.cell?, cellVal]
  · first | exact ⟨_, rfl⟩ | exact ⟨rfl, _, rfl⟩ | exact ⟨trivial, _, rfl⟩ | exact ⟨[], (List.append_nil _).symm⟩
  generalize decide (U.spill = V.spill) = q5
  cases q5 <;> simp only [kB, kZ, kD, fillA, partsEv, zeroes, Nat.reduceSub, Int.reduceToNat, Nat.reduceMul, asInt?, asNat?, Int.reduceAdd, Int.reduceLE, Int.reduceLT, Int.reduceNeg, Nat.reduceLeDiff, VOpd.ev, Nat.reduceEqDiff, Nat.reduceAdd, reduceIte, reduceCtorEq, splice, resOf, tupOf, cellsV, AV.toV, AV.cell?, cellVal]
  · first | exact ⟨_, rfl⟩ | exact ⟨rfl, _, rfl⟩ | exact ⟨trivial, _, rfl⟩ | exact ⟨[], (List.append_nil _).symm⟩
  refine callO_same (j_EqualFunc_Block h (xs := U.blocks) (ys := V.blocks) (hb.mono _) (hb'.mono _) hf.2.1 hf.2.2) ?_
  simp only [kB, kZ, kD, fillA, partsEv, zeroes, Nat.reduceSub, Int.reduceToNat, Nat.reduceMul, asInt?, asNat?, Int.reduceAdd, Int.reduceLE, Int.reduceLT, Int.reduceNeg, Nat.reduceLeDiff, VOpd.ev, Nat.reduceEqDiff, Nat.reduceAdd, reduceIte, reduceCtorEq, splice, resOf, tupOf, cellsV, AV.toV, AV.cell?, cellVal]
  first | exact ⟨_, rfl⟩ | exact ⟨rfl, _, rfl⟩ | exact ⟨trivial, _, rfl⟩ | exact ⟨[], (List.append_nil _).symm⟩
end
end Go.VX.Seat
end
section
set_option linter.unusedVariables false
set_option linter.unusedSimpArgs false
set_option maxRecDepth 4000
/-! Cuts of layer 7; code.find, code.Check. -/
namespace Go.VX.Seat
open Go.Proofs
theorem _root_.Go.VX.Agree.head (st A A' m M : St) (h : A.length = A'.length) : Agree (fun n => n < st.length + A.length) (st ++ (A ++ m)) (st ++ (A' ++ (m ++ M))) :=
  ⟨by simp; omega, fun b hb hx => by
    simp at hb
    have e1 : (st ++ (A ++ m))[b]? = m[b - st.length - A.length]? := by
      rw [List.getElem?_append_right (by omega), List.getElem?_append_right (by omega)]
    have e2 : (st ++ (A' ++ (m ++ M)))[b]? = m[b - st.length - A'.length]? := by
      rw [List.getElem?_append_right (by omega), List.getElem?_append_right (by omega), List.getElem?_append_left (by omega)]
    rw [e1, e2, h]⟩
theorem cutB_len : ∀ (l : List BlkV) (n : Nat) (k : Int), (cutB l n k).length ≤ n
  | [], _, _ => by simp [cutB]
  | _ :: _, 0, _ => by simp [cutB]
  | b :: r, n + 1, k => by
    simp only [cutB, List.length_cons]
    have := cutB_len r n (k - (b.ops.take k.toNat).length)
    omega
theorem cutB_ops : ∀ (l : List BlkV) (n : Nat) (k : Int), ∀ b ∈ cutB l n k, (b.ops.length : Int) ≤ max k 0
  | [], _, _, b, hb => by simp [cutB] at hb
  | _ :: _, 0, _, b, hb => by simp [cutB] at hb
  | x :: r, n + 1, k, b, hb => by
    simp only [cutB] at hb
    rcases List.mem_cons.1 hb with rfl | hb
    · simp; omega
    · have := cutB_ops r n _ b hb
      omega
theorem cutU_fits (U : UnitV) (n : Nat) (k : Int) (hn : n ≤ 1000000) (hk : k ≤ 2000000) : Fits (cutU U n k) := by
  refine ⟨by simp [cutU]; omega, ?_, fun b hb => ?_⟩
  · have := cutB_len U.blocks n k
    show ((cutB U.blocks n k).length : Int) < _
    omega
  · have := cutB_ops U.blocks n k b hb
    omega
/-- A cut of a cut is the cut. -/
theorem cutB_idem : ∀ (l : List BlkV) (n : Nat) (k : Int), cutB (cutB l n k) n k = cutB l n k
  | [], _, _ => by simp [cutB]
  | _ :: _, 0, _ => by simp [cutB]
  | b :: r, n + 1, k => by
    simp only [cutB]
    have e : (b.ops.take k.toNat).take k.toNat = b.ops.take k.toNat := by rw [List.take_take, Nat.min_self]
    rw [e, cutB_idem]
theorem cutU_idem (U : UnitV) (n : Nat) (k : Int) : cutU (cutU U n k) n k = cutU U n k := by
  unfold cutU
  simp only [List.take_take, Nat.min_self, cutB_idem]
section
variable {X : Cx} {st : St}
theorem w_l07_Cut (h : On X) {lo hi : Nat} {v : AV} {U : UnitV} (hv : UnitAt st lo hi v U) :
    wpF X 8 [v] st fun r s => NewU st s r (cutU U 2001 20001) := by
  refine wpF_go (fn := v_l07_Cut) (by rw [h.F]; rfl) ?_
  have hm := fun L => hv.mono L
  obtain ⟨s, bl, rfl, hs, hb⟩ := hv
  simp only [v_l07_Cut, kB, kZ, kD, fillA, partsEv, zeroes, Nat.reduceSub, Int.reduceToNat, Nat.reduceMul, asInt?, asNat?, Int.reduceAdd, Int.reduceLE, Int.reduceLT, Int.reduceNeg, Nat.reduceLeDiff, VOpd.ev, Nat.reduceEqDiff, Nat.reduceAdd, reduceIte, reduceCtorEq, splice, resOf, tupOf, cellsV, AV.toV, AV.cell?, cellVal]
  refine callO_newU (w_Cut h (hm _) 2001 20001 (by omega) (by omega) (fun b hb => by simp; omega)) ?_
  intro w m hw
  obtain ⟨sz, bl2, f, rfl, hz2, hb2⟩ := hw.ex
  have hszc := isCell_len hz2.own.arr.len
  have hblc := isCell_len hb2.own.arr.len
  simp only [hszc, hblc, kB, kZ, kD, fillA, partsEv, zeroes, Nat.reduceSub, Int.reduceToNat, Nat.reduceMul, asInt?, asNat?, Int.reduceAdd, Int.reduceLE, Int.reduceLT, Int.reduceNeg, Nat.reduceLeDiff, VOpd.ev, Nat.reduceEqDiff, Nat.reduceAdd, reduceIte, reduceCtorEq, splice, resOf, tupOf, cellsV, AV.toV, AV.cell?, cellVal]
  have hag := Agree.swap st [⟨[s, iA U.params, iA U.regs, iA U.code, iA U.spill, bl], 0, 0⟩] ⟨[.sc (.slice none 0 0), iA 0, iA 0, iA 0, iA 0, .sc (.slice none 0 0)], 0, 0⟩ ⟨[sz, iA U.params, iA U.regs, iA U.code, iA U.spill, bl2], 0, 1⟩ m
  have hl : (st ++ ([⟨[s, iA U.params, iA U.regs, iA U.code, iA U.spill, bl], 0, 0⟩, ⟨[.sc (.slice none 0 0), iA 0, iA 0, iA 0, iA 0, .sc (.slice none 0 0)], 0, 0⟩] : St)).length = st.length + 2 := by simp
  rw [hl] at hz2 hb2
  simp only [List.append_assoc, List.cons_append, List.nil_append] at hz2 hb2
  exact ⟨_, rfl, ⟨_, rfl⟩, ⟨sz, bl2, f, rfl, (hz2.agree hag (fun b hb _ h => by simp at h; omega)).low (by omega), (hb2.agree hag (fun b hb _ h => by simp at h; omega)).low (by omega)⟩⟩
end
end Go.VX.Seat
end
section
set_option linter.unusedVariables false
set_option linter.unusedSimpArgs false
set_option maxRecDepth 4000
/-! The law CodeSame. -/
namespace Go.VX.Seat
open Go.Proofs
theorem c_eqb (a b : Bool) (ox oy : Operand) : closed Tryd.prog (do eqGuard .eql 4 ox oy (.bool a) (.bool b); binOp .eql 4 (.bool a) (.bool b)) = some (.bool (a == b)) := by cases a <;> cases b <;> kernel_rfl
section
variable {X : Cx} {st : St}
set_option maxHeartbeats 2000000 in
theorem w_CodeSame (h : OnH X) (hg : GB st) {lo hi lo' hi' : Nat} {v v' : AV} {U0 V0 : UnitV} (hv : UnitAt st lo hi v U0) (hv' : UnitAt st lo' hi' v' V0) :
    wpF X 5 [v, v'] st fun r s => r = .ret (bA true) ∧ ∃ m, s = st ++ m := by
  refine wpF_go (fn := v_l07_CodeSame) (by rw [h.F]; rfl) ?_
  have hm := fun L => hv.mono L
  have hm' := fun L => hv'.mono L
  obtain ⟨s, bl, rfl, hs, hb⟩ := hv
  obtain ⟨s', bl', rfl, hs', hb'⟩ := hv'
  have hfU := cutU_fits U0 2001 20001 (by omega) (by omega)
  have hfV := cutU_fits V0 2001 20001 (by omega) (by omega)
  have hidU := cutU_idem U0 2001 20001
  simp only [v_l07_CodeSame, kB, kZ, kD, fillA, partsEv, zeroes, Nat.reduceSub, Int.reduceToNat, Nat.reduceMul, asInt?, asNat?, Int.reduceAdd, Int.reduceLE, Int.reduceLT, Int.reduceNeg, Nat.reduceLeDiff, VOpd.ev, Nat.reduceEqDiff, Nat.reduceAdd, reduceIte, reduceCtorEq, splice, resOf, tupOf, cellsV, AV.toV, AV.cell?, cellVal]
  refine callO_newU (w_l07_Cut h.toOn (hm _)) ?_
  intro w1 m1 hw1
  simp only [kB, kZ, kD, fillA, partsEv, zeroes, Nat.reduceSub, Int.reduceToNat, Nat.reduceMul, asInt?, asNat?, Int.reduceAdd, Int.reduceLE, Int.reduceLT, Int.reduceNeg, Nat.reduceLeDiff, VOpd.ev, Nat.reduceEqDiff, Nat.reduceAdd, reduceIte, reduceCtorEq, splice, resOf, tupOf, cellsV, AV.toV, AV.cell?, cellVal]
  refine callO_newU (w_l07_Cut h.toOn (hm' _)) ?_
  intro w2 m2 hw2
  generalize cutU U0 2001 20001 = U at *
  generalize cutU V0 2001 20001 = V at *
  have q1 := hw1.low (lo' := st.length + 4) (by simp)
  have q2 := hw2.low (lo' := st.length + 4 + m1.length) (by simp only [List.length_append, List.length_cons, List.length_nil]; omega)
  simp only [List.append_assoc, List.cons_append, List.nil_append] at q1 q2
  obtain ⟨A0, hA0⟩ : ∃ A0 : St, A0 = ([⟨[s, iA U0.params, iA U0.regs, iA U0.code, iA U0.spill, bl], 0, 0⟩, ⟨[s', iA V0.params, iA V0.regs, iA V0.code, iA V0.spill, bl'], 0, 0⟩, ⟨[.sc (.slice none 0 0), iA 0, iA 0, iA 0, iA 0, .sc (.slice none 0 0)], 0, 0⟩, ⟨[.sc (.slice none 0 0), iA 0, iA 0, iA 0, iA 0, .sc (.slice none 0 0)], 0, 0⟩] : St) := ⟨_, rfl⟩
  have hlA : A0.length = 4 := by rw [hA0]; rfl
  have hO1 : ∀ A M : St, A.length = 4 → UnitAt (st ++ (A ++ (m1 ++ M))) (st.length + 4) (st.length + 4 + m1.length) w1 U := fun A M hA => by
    have h1 : OwnU (st ++ (A0 ++ m1)) (st.length + 4) w1 U := by rw [hA0]; exact q1
    have := (h1.agree (Agree.head st A0 A m1 [] (by rw [hA, hlA])) (fun b hb _ hx => by rw [hlA] at hx; omega)).unit
    have := UnitAt.mono this M
    simp only [List.append_assoc, List.append_nil, List.length_append, hA] at this
    have e : st.length + (4 + m1.length) = st.length + 4 + m1.length := by omega
    rw [e] at this
    exact this
  have hO2 : ∀ A M : St, A.length = 4 → UnitAt (st ++ (A ++ (m1 ++ (m2 ++ M)))) (st.length + 4 + m1.length) (st.length + 4 + m1.length + m2.length) w2 V := fun A M hA => by
    have h1 : OwnU (st ++ (A0 ++ (m1 ++ m2))) (st.length + 4 + m1.length) w2 V := by rw [hA0]; exact q2
    have := (h1.agree (Agree.head st A0 A (m1 ++ m2) [] (by rw [hA, hlA])) (fun b hb _ hx => by rw [hlA] at hx; omega)).unit
    have := UnitAt.mono this M
    simp only [List.append_assoc, List.append_nil, List.length_append, hA] at this
    have e : st.length + (4 + (m1.length + m2.length)) = st.length + 4 + m1.length + m2.length := by omega
    rw [e] at this
    exact this
  clear hA0 hlA q1 q2
  obtain ⟨sz1, bl1, f1, rfl, hz1, hb1⟩ := hw1.ex
  obtain ⟨sz2, bl2, f2, rfl, hz2, hb2⟩ := hw2.ex
  have hszc1 := isCell_len hz1.own.arr.len
  have hblc1 := isCell_len hb1.own.arr.len
  have hszc2 := isCell_len hz2.own.arr.len
  have hblc2 := isCell_len hb2.own.arr.len
  clear hz1 hb1 hz2 hb2 hw1 hw2
  simp only [hszc1, hblc1, hszc2, hblc2, kB, kZ, kD, fillA, partsEv, zeroes, Nat.reduceSub, Int.reduceToNat, Nat.reduceMul, asInt?, asNat?, Int.reduceAdd, Int.reduceLE, Int.reduceLT, Int.reduceNeg, Nat.reduceLeDiff, VOpd.ev, Nat.reduceEqDiff, Nat.reduceAdd, reduceIte, reduceCtorEq, splice, resOf, tupOf, cellsV, AV.toV, AV.cell?, cellVal]
  have hO1' := fun M => hO1 [⟨[s, iA U0.params, iA U0.regs, iA U0.code, iA U0.spill, bl], 0, 0⟩, ⟨[s', iA V0.params, iA V0.regs, iA V0.code, iA V0.spill, bl'], 0, 0⟩, ⟨[sz1, iA U.params, iA U.regs, iA U.code, iA U.spill, bl1], 0, 1⟩, ⟨[sz2, iA V.params, iA V.regs, iA V.code, iA V.spill, bl2], 0, 1⟩] M rfl
  have hO2' := fun M => hO2 [⟨[s, iA U0.params, iA U0.regs, iA U0.code, iA U0.spill, bl], 0, 0⟩, ⟨[s', iA V0.params, iA V0.regs, iA V0.code, iA V0.spill, bl'], 0, 0⟩, ⟨[sz1, iA U.params, iA U.regs, iA U.code, iA U.spill, bl1], 0, 1⟩, ⟨[sz2, iA V.params, iA V.regs, iA V.code, iA V.spill, bl2], 0, 1⟩] M rfl
  simp only [List.cons_append, List.nil_append] at hO1' hO2'
  clear hO1 hO2
  have g1 := hO1' m2
  have g2 := hO2' []
  rw [List.append_nil] at g2
  have hsym : decide (V = U) = decide (U = V) := by
    by_cases e : U = V
    · subst e; rfl
    · rw [decide_eq_false e, decide_eq_false (fun e' => e e'.symm)]
  refine callO_same (j_code_Same h.toOn g1 g2 hfU) ?_
  simp only [kB, kZ, kD, fillA, partsEv, zeroes, Nat.reduceSub, Int.reduceToNat, Nat.reduceMul, asInt?, asNat?, Int.reduceAdd, Int.reduceLE, Int.reduceLT, Int.reduceNeg, Nat.reduceLeDiff, VOpd.ev, Nat.reduceEqDiff, Nat.reduceAdd, reduceIte, reduceCtorEq, splice, resOf, tupOf, cellsV, AV.toV, AV.cell?, cellVal]
  refine callO_same (j_r07_Same h.toOn g1 g2 hfU) ?_
  simp only [h.P, c_eqb, beq_self_eq_true, kB, kZ, kD, fillA, partsEv, zeroes, Nat.reduceSub, Int.reduceToNat, Nat.reduceMul, asInt?, asNat?, Int.reduceAdd, Int.reduceLE, Int.reduceLT, Int.reduceNeg, Nat.reduceLeDiff, VOpd.ev, Nat.reduceEqDiff, Nat.reduceAdd, reduceIte, reduceCtorEq, splice, resOf, tupOf, cellsV, AV.toV, AV.cell?, cellVal]
  refine callO_same (j_code_Same h.toOn g2 g1 hfV) ?_
  simp only [hsym, kB, kZ, kD, fillA, partsEv, zeroes, Nat.reduceSub, Int.reduceToNat, Nat.reduceMul, asInt?, asNat?, Int.reduceAdd, Int.reduceLE, Int.reduceLT, Int.reduceNeg, Nat.reduceLeDiff, VOpd.ev, Nat.reduceEqDiff, Nat.reduceAdd, reduceIte, reduceCtorEq, splice, resOf, tupOf, cellsV, AV.toV, AV.cell?, cellVal]
  refine callO_same (j_r07_Same h.toOn g1 g2 hfU) ?_
  simp only [h.P, c_eqb, beq_self_eq_true, kB, kZ, kD, fillA, partsEv, zeroes, Nat.reduceSub, Int.reduceToNat, Nat.reduceMul, asInt?, asNat?, Int.reduceAdd, Int.reduceLE, Int.reduceLT, Int.reduceNeg, Nat.reduceLeDiff, VOpd.ev, Nat.reduceEqDiff, Nat.reduceAdd, reduceIte, reduceCtorEq, splice, resOf, tupOf, cellsV, AV.toV, AV.cell?, cellVal]
  refine callO_newU (w_l07_Cut h.toOn g1) ?_
  intro w3 m3 hw3
  rw [hidU] at hw3
  simp only [kB, kZ, kD, fillA, partsEv, zeroes, Nat.reduceSub, Int.reduceToNat, Nat.reduceMul, asInt?, asNat?, Int.reduceAdd, Int.reduceLE, Int.reduceLT, Int.reduceNeg, Nat.reduceLeDiff, VOpd.ev, Nat.reduceEqDiff, Nat.reduceAdd, reduceIte, reduceCtorEq, splice, resOf, tupOf, cellsV, AV.toV, AV.cell?, cellVal]
  have g3 := hO1' (m2 ++ m3)
  refine callO_same (j_code_Same h.toOn g3 (by simpa using hw3.unit) hfU) ?_
  simp only [decide_true, kB, kZ, kD, fillA, partsEv, zeroes, Nat.reduceSub, Int.reduceToNat, Nat.reduceMul, asInt?, asNat?, Int.reduceAdd, Int.reduceLE, Int.reduceLT, Int.reduceNeg, Nat.reduceLeDiff, VOpd.ev, Nat.reduceEqDiff, Nat.reduceAdd, reduceIte, reduceCtorEq, splice, resOf, tupOf, cellsV, AV.toV, AV.cell?, cellVal]
  refine callO_same (.hook (h.alive _ (hg.app _))) ?_
  simp only [kB, kZ, kD, fillA, partsEv, zeroes, Nat.reduceSub, Int.reduceToNat, Nat.reduceMul, asInt?, asNat?, Int.reduceAdd, Int.reduceLE, Int.reduceLT, Int.reduceNeg, Nat.reduceLeDiff, VOpd.ev, Nat.reduceEqDiff, Nat.reduceAdd, reduceIte, reduceCtorEq, splice, resOf, tupOf, cellsV, AV.toV, AV.cell?, cellVal]
  exact ⟨_, rfl⟩
end
end Go.VX.Seat
end
