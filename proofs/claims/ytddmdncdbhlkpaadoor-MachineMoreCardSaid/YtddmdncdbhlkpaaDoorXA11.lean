/- A part of the proofs of the statements of one layer: H3, H4, H5, E2s, E4s, E3s, T5, T6, M1, M2, M3, M4, M5, M6, M7. No condition is added here. -/
import Derived.Tactics
import Derived.Tactics2
import Derived.Defers
import Derived.Recover
import Derived.Laws.Pointers
import Derived.Shelf.RegionOpenPlain
import Derived.Lib.Walk
import Derived.Lib.Builder
import Derived.Lib.AppendStr
import Derived.Lib.UnsafeStr
import Derived.WalkKit
import Derived.Laws.Externs
import Derived.Test.YtddmdncdbhlkpaaDoorXA10
section
set_option linter.unusedVariables false
set_option linter.unusedSimpArgs false
/-! strings.Builder: what its methods do on the machine (the shelf's proofs, turned to this seat, with what they leave as it was told block by block). -/
namespace Go.Proofs
open Go.RowKit Go.Shelf
namespace VXB
theorem sizeBuilder : (Tryd.prog.info? 99).map (·.size) = some 2 := by kernel_rfl
theorem liesBuilder : liesAt Tryd.prog Tryd.prog.depth 99 (2 / Tryd.prog.cellsOf 99) 0 99 1 = true := by kernel_rfl
set_option maxHeartbeats 1000000 in
set_option maxRecDepth 100000 in
/-- copyCheck at a builder that has been used: nothing turns. -/
theorem copyCheck_used (b : Nat) (w : World) (h0 : w.cell? ⟨b, 0, none⟩ = some (.pointer (some ⟨b, 0, none⟩))) :
    Calls Tryd.prog 73 #[.pointer (some ⟨b, 0, none⟩)] w fun e w' => e = .returned (.tuple #[]) ∧ w' = w := by
  obtain ⟨j, hj, _⟩ := Option.map_eq_some_iff.1 sizeBuilder
  go_enter Tryd.func73, Tryd.ntmps73
  go_wp2
  rw [Lib.run_neq_ptr_same w _ Tryd.underlying97 hj]
  go_wp2
  go_end0
  exact ⟨rfl, rfl⟩
set_option maxHeartbeats 1000000 in
set_option maxRecDepth 100000 in
/-- copyCheck at a fresh builder: it stores its own address. -/
theorem copyCheck_fresh (b : Nat) (w : World) (h0 : w.cell? ⟨b, 0, none⟩ = some (.pointer none)) (hsh : w.shape? b = some (99, 2)) (hfz : w.frozen? ⟨b, 0, none⟩ = false) :
    Calls Tryd.prog 73 #[.pointer (some ⟨b, 0, none⟩)] w fun e w' => e = .returned (.tuple #[]) ∧ w' = w.setCell ⟨b, 0, none⟩ (.pointer (some ⟨b, 0, none⟩)) := by
  obtain ⟨j, hj, hjs⟩ := Option.map_eq_some_iff.1 sizeBuilder
  go_enter Tryd.func73, Tryd.ntmps73
  go_wp2
  rw [Lib.run_to_unsafe w ⟨b, 0, none⟩ Tryd.underlying97 Tryd.underlying130 hj (by rw [hjs]; decide) hsh (Nat.zero_lt_succ 1)]
  simp only [Result.andThen]
  rw [Oper.upon_value]
  go_wp2
  rw [run_callFunc_extern Tryd.func86 (by kernel_rfl) (by kernel_rfl) (by kernel_rfl) (e := Extern.AbiNoEscape.same) (by kernel_rfl)]
  rw [Lib.run_noEscape]
  simp only [Result.andThen]
  rw [Oper.upon_value]
  go_wp2
  rw [Lib.run_from_unsafe w ⟨b, 0, none⟩ Tryd.underlying130 Tryd.underlying97 hj hsh liesBuilder]
  simp only [Result.andThen]
  rw [Oper.upon_value]
  go_wp2
  go_end0
  exact ⟨rfl, rfl⟩
theorem ownsRowF_low {w : World} {base e n : Nat} {v : Value} {xs : List Value} (h : w.ownsRowF base e 1 v n xs) : w.ownsRowF 0 e 1 v n xs :=
  ⟨h.1, h.2.elim .inl fun ⟨g, cap, cur, fz, hv, _, rest⟩ => .inr ⟨g, cap, cur, fz, hv, Nat.zero_le _, rest⟩⟩
/-- Bytes behind a row that is one's own: the row is the old one, or new. -/
theorem run_append3 {P : Program} (w : World) (t u ty e : TypeId) (i : TypeInfo) (ht : P.underlying t = some (.slice e)) (hu : P.underlying u = some .string) (hi : P.info? e = some i) (hz : i.zero = some (.int .u8 0))
    (hsize : i.size = 1) (hby : i.bytes = 1) (v : Value) (n : Nat) (xs : List Value) (hown : w.ownsRowF 0 e 1 v n xs) (s : ByteArray) (h63 : n + s.size ≤ maxLen) (hbytes : n + s.size ≤ 140737488355328) :
    ∃ v' w', (Builtin.append_ #[t, u] ty #[v, .string s]).run P w = .ok v' w' ∧ w'.ownsRowF 0 e 1 v' (n + s.size) (xs ++ Lib.strCells s) ∧ w.grownBy w' v.ownBlock ∧
      (v' = .slice none 0 0 ↔ v = .slice none 0 0 ∧ s.size = 0) ∧ ∀ k, v'.ownBlock = some k → v.ownBlock = some k ∨ w.heap.size ≤ k := by
  rcases hown.2 with ⟨rfl, rfl⟩ | ⟨g, cap, cur, fz, rfl, hbg, hg, hfz, hnc, hcm, hcs, htake⟩
  · obtain ⟨v', w', h1, h2, h3, h4⟩ := Lib.run_append_own_string (P := P) w w.heap.size t u ty e i ht hu hi hz hsize hby (.slice none 0 0) 0 xs ⟨hown.1, .inl ⟨rfl, rfl⟩⟩ s h63 hbytes (Nat.le_refl _)
    exact ⟨v', w', h1, ownsRowF_low (World.ownsRowF_of h2), h3, h4, fun k hk => .inr ((World.ownsRowF_of h2).lt k hk).1⟩
  · have hsmall : n + s.size ≤ 9223372036854775807 := by simp only [maxLen] at h63; omega
    have hxl : xs.length = n := by simpa using hown.1
    have hlen : (xs ++ Lib.strCells s).length = (n + s.size) * 1 := by rw [List.length_append, hxl, Lib.strCells_length, Nat.mul_one]
    by_cases hroom : n + s.size ≤ cap
    · have hcs' : cur.size = cap := by simpa using hcs
      have hr := Lib.run_append_room_stringF (P := P) w t u ty e i ht hu hi hsize g n cap cur fz hg (by simpa using hfz) s hroom (by omega)
      refine ⟨_, _, hr, ⟨hlen, .inr ⟨g, cap, _, fz, rfl, hbg, setRow_heap w g cur _ e _ hg, by omega, hroom, hcm, ?_, ?_⟩⟩, ⟨rfl, rfl, rfl, by simp, fun k _ hk => setRow_other w g k _ (fun e => hk (by simp [Value.ownBlock, e]))⟩, by simp, fun k hk => .inl hk⟩
      · simp only [List.size_toArray, List.length_append, List.length_take, List.length_drop, Array.length_toList, Lib.strCells_length]
        omega
      · have ht' : cur.toList.take n = xs := by simpa using htake
        rw [ht', ← hlen]
        exact List.take_left
    · have holds : ∀ j u, xs[j]? = some u → w.cell? ((⟨g, 0, none⟩ : Addr).add j) = some u := hown.cells (g := g) rfl
      have hr := Lib.run_append_grow_string (P := P) w t u ty e i (.int .u8 0) ht hu hi hz ⟨g, 0, none⟩ n cap xs (by rw [hsize]; simpa using hxl) holds s (by omega) (by omega) (by rw [hby]; exact growslice_fits (by omega) (by omega))
      have hge := grownCap_ge w (n + s.size) cap e
      have hcm2 : grownCap w (n + s.size) cap e ≤ maxLen := grownCap_le_maxLen w (n + s.size) cap e h63
      refine ⟨_, _, hr, ⟨hlen, .inr ⟨w.heap.size, _, _, (0, 0), rfl, Nat.zero_le _, heap_alloc_new w.drew _, Nat.zero_le _, hge, hcm2, ?_, ?_⟩⟩, ⟨rfl, rfl, rfl, by simp, fun k hk _ => heap_alloc_old w.drew _ hk⟩, by simp, fun k hk => .inr ?_⟩
      · have hz1 : (Value.int IntKind.u8 0).cells.size = 1 := rfl
        simp only [Array.size_append, List.size_toArray, size_zeroCells, hz1, hxl, Lib.strCells_length]
        omega
      · simp only [Array.toList_append, List.append_assoc]
        rw [← List.append_assoc, ← hlen]
        exact List.take_left
      · simp [Value.ownBlock] at hk
        omega
theorem wpList_append3 {P : Program} (w : World) {ops : Array Oper} {rest : List Oper} {o : Oper} {a : Act} {Q : Exit → Act → World → Prop} (hgd : o.guard = none) (sl x : Operand) (t u : TypeId)
    (ho : o.op = .call { callee := .builtin .append, args := #[sl, x], argTypes := #[t, u] })
    (e : TypeId) (i : TypeInfo) (ht : P.underlying t = some (.slice e)) (hu : P.underlying u = some .string) (hi : P.info? e = some i) (hz : i.zero = some (.int .u8 0))
    (hsize : i.size = 1) (hby : i.bytes = 1)
    (v : Value) (n : Nat) (xs : List Value) (hs : a.eval sl = v) (hown : w.ownsRowF 0 e 1 v n xs) (s : ByteArray) (hx : a.eval x = .string s)
    (h63 : n + s.size ≤ maxLen) (hbytes : n + s.size ≤ 140737488355328)
    (h : ∀ v' w', w'.ownsRowF 0 e 1 v' (n + s.size) (xs ++ Lib.strCells s) → w.grownBy w' v.ownBlock → (v' = .slice none 0 0 ↔ v = .slice none 0 0 ∧ s.size = 0) → (∀ k, v'.ownBlock = some k → v.ownBlock = some k ∨ w.heap.size ≤ k) → wpList P ops Q rest (a.put o.dst v') w') : wpList P ops Q (o :: rest) a w := by
  refine wpList_plain hgd fun K hK => ?_
  obtain ⟨v', w', hr, h2, h3, h4, h5⟩ := run_append3 (P := P) w t u o.type e i ht hu hi hz hsize hby v n xs hown s h63 hbytes
  unfold Oper.wp execOp
  simp only [ho, resolve, invoke, builtin, Sem.run_bind, Sem.run_pure, Result.andThen_ok, List.map_toArray, List.map_cons, List.map_nil, hs, hx, hr]
  exact hK _ _ (h v' w' h2 h3 h4 h5)
/-- A builder at block b: what it holds, and where. -/
structure BAt (w : World) (b : Nat) (p v : Value) (l : List UInt8) : Prop where
  pt : p = .pointer none ∨ p = .pointer (some ⟨b, 0, none⟩)
  box : w.heap[b]? = some (.cells #[p, v] 99 (0, 0))
  row : w.ownsRowF 0 5 1 v l.length (Lib.byteCells l)
  ne : v.ownBlock ≠ some b
  nil : v = .slice none 0 0 ↔ l = []
theorem infoByte : (Tryd.prog.info? 5).map (fun i => (i.zero, i.size, i.bytes)) = some (some (.int .u8 0), 1, 1) := by kernel_rfl
theorem cellsByte : Tryd.prog.cellsOf 5 = 1 := by kernel_rfl
theorem BAt.lt {w : World} {b : Nat} {p v : Value} {l : List UInt8} (h : BAt w b p v l) : b < w.heap.size := (Array.getElem?_eq_some_iff.1 h.box).1
set_option maxHeartbeats 2000000 in
set_option maxRecDepth 100000 in
theorem write_calls (b : Nat) (p v : Value) (l : List UInt8) (s : ByteArray) (w : World) (h : BAt w b p v l) (hlen : l.length + s.size ≤ 140737488355328) :
    Calls Tryd.prog 61 #[.pointer (some ⟨b, 0, none⟩), .string s] w fun e w' => e = .returned (.tuple #[.int .i64 s.size, .nilIface]) ∧ ∃ v', BAt w' b (.pointer (some ⟨b, 0, none⟩)) v' (l ++ s.data.toList) ∧
      w'.os = w.os ∧ w'.tape = w.tape ∧ w'.output = w.output ∧ w.heap.size ≤ w'.heap.size ∧ (∀ k, k < w.heap.size → k ≠ b → v.ownBlock ≠ some k → w'.heap[k]? = w.heap[k]?) ∧ (∀ k, v'.ownBlock = some k → v.ownBlock = some k ∨ w.heap.size ≤ k) := by
  obtain ⟨i0, hi, hz0, hz1, hz2⟩ := info_parts infoByte
  have hcc : Calls Tryd.prog 73 #[.pointer (some ⟨b, 0, none⟩)] w fun e w' => e = .returned (.tuple #[]) ∧ (w' = w ∨ w' = w.setCell ⟨b, 0, none⟩ (.pointer (some ⟨b, 0, none⟩))) ∧ w'.heap[b]? = some (.cells #[.pointer (some ⟨b, 0, none⟩), v] 99 (0, 0)) := by
    have hbx := h.box
    rcases h.pt with rfl | rfl
    · refine (copyCheck_fresh b w (by simp [World.cell?, hbx]) (by simp [World.shape?, hbx]) (by simp [World.frozen?, hbx])).mono ?_
      rintro e w' ⟨rfl, rfl⟩
      exact ⟨rfl, .inr rfl, by simp [World.setCell, Array.getElem?_modify, hbx]⟩
    · refine (copyCheck_used b w (by simp [World.cell?, hbx])).mono ?_
      rintro e w' ⟨rfl, rfl⟩
      exact ⟨rfl, .inl rfl, hbx⟩
  go_enter Tryd.func61, Tryd.ntmps61
  go_wp2_with (go_at_call 73; refine hcc.mono ?_)
  rintro e w1 ⟨rfl, hw1, hbk⟩
  have hsz : w1.heap.size = w.heap.size := by
    rcases hw1 with rfl | rfl
    · rfl
    · simp [World.setCell]
  have hot : w1.os = w.os ∧ w1.tape = w.tape ∧ w1.output = w.output := by
    rcases hw1 with rfl | rfl <;> exact ⟨rfl, rfl, rfl⟩
  have hoth : ∀ k, k ≠ b → w1.heap[k]? = w.heap[k]? := fun k hk => by
    rcases hw1 with rfl | rfl
    · rfl
    · exact Below.heap_setCell _ _ _ _ hk
  have hown : w1.ownsRowF 0 5 1 v l.length (Lib.byteCells l) := Go.VX.ownsRowF_frame h.row fun i hi => hoth i (fun e => h.ne (by rw [hi, e]))
  have c0 : w1.cell? ⟨b, 0, none⟩ = some (.pointer (some ⟨b, 0, none⟩)) := by rw [Lib.cell_of_heap hbk]; rfl
  have c1 : w1.cell? ⟨b, 1, none⟩ = some v := by rw [Lib.cell_of_heap hbk]; rfl
  go_wp2_with (at_builtin; refine wpList_append3 _ rfl _ _ 45 9 rfl 5 i0 Tryd.underlying45 Tryd.underlying9 hi hz0 hz1 hz2 _ _ _ rfl hown s rfl ?c3 ?c4 ?_)
  case c3 => unfold maxLen; omega
  case c4 => omega
  intro v' w2 hown' hgrow hnil hown2
  have hlt : b < w1.heap.size := by rw [hsz]; exact h.lt
  have hb2 : w2.heap[b]? = some (.cells #[.pointer (some ⟨b, 0, none⟩), v] 99 (0, 0)) := by
    rw [hgrow.block b hlt (fun e => h.ne e.symm)]
    exact hbk
  have d0 : w2.cell? ⟨b, 0, none⟩ = some (.pointer (some ⟨b, 0, none⟩)) := by rw [Lib.cell_of_heap hb2]; rfl
  have d1 : w2.cell? ⟨b, 1, none⟩ = some v := by rw [Lib.cell_of_heap hb2]; rfl
  have f1 : w2.frozen? ⟨b, 1, none⟩ = false := Lib.frozen_of_heap hb2 1
  have hne' : v'.ownBlock ≠ some b := Lib.ownBlock_neF hown' hb2 (by decide)
  obtain ⟨ao, n', cap, rfl⟩ : ∃ ao n' cap, v' = .slice ao n' cap := by
    rcases hown'.2 with ⟨hv, _⟩ | ⟨g, cap, cur, fz, hv, _⟩
    · exact ⟨_, _, _, hv⟩
    · exact ⟨_, _, _, hv⟩
  go_wp2
  go_ret2
  have hlist : Lib.byteCells (l ++ s.data.toList) = Lib.byteCells l ++ Lib.strCells s := by rw [Lib.byteCells_append, Lib.strCells_eq]
  have hsl : (l ++ s.data.toList).length = l.length + s.size := by rw [List.length_append]; rfl
  refine ⟨rfl, _, ⟨.inr rfl, ?_, ?_, hne', ?_⟩, ?_, ?_, ?_, ?_, fun k hk hkb hkv => ?_, fun k hk => ?_⟩
  · simp [World.setCell, Array.getElem?_modify, hb2]
  · rw [hsl, hlist]
    exact Go.VX.ownsRowF_frame hown' fun i hi => Below.heap_setCell _ _ _ _ (fun e => hne' (by rw [hi, e]))
  · rw [hnil, h.nil]
    constructor
    · rintro ⟨rfl, h0⟩
      have h0 : s = ByteArray.empty := h0
      subst h0
      rfl
    · intro he
      have h1 := List.append_eq_nil_iff.1 he
      exact ⟨h1.1, by
        have h2 : s.data = #[] := by simpa using h1.2
        cases s
        cases h2
        rfl⟩
  · exact hgrow.os.trans hot.1
  · exact hgrow.tape.trans hot.2.1
  · exact hgrow.output.trans hot.2.2
  · rw [← hsz]; exact Nat.le_trans hgrow.size (by simp [World.setCell])
  · rw [Below.heap_setCell _ _ _ _ (show k ≠ b from hkb), hgrow.block k (by omega) (fun e => hkv e.symm), hoth k hkb]
  · rcases hown2 k hk with h1 | h1
    · exact .inl h1
    · exact .inr (by omega)
/-- What freezing leaves. -/
theorem freeze_frame (w : World) (g n k : Nat) (hk : k ≠ g) : (w.freeze ⟨g, 0, none⟩ n).heap[k]? = w.heap[k]? := by
  unfold World.freeze
  split
  · rfl
  · simp only [Array.getElem?_modify]
    rw [if_neg (fun e => hk e.symm)]
theorem freeze_rest (w : World) (g n : Nat) : (w.freeze ⟨g, 0, none⟩ n).os = w.os ∧ (w.freeze ⟨g, 0, none⟩ n).tape = w.tape ∧ (w.freeze ⟨g, 0, none⟩ n).output = w.output ∧ (w.freeze ⟨g, 0, none⟩ n).heap.size = w.heap.size := by
  unfold World.freeze
  split
  · exact ⟨rfl, rfl, rfl, rfl⟩
  · exact ⟨rfl, rfl, rfl, by simp⟩
set_option maxHeartbeats 2000000 in
set_option maxRecDepth 100000 in
theorem string_calls (b : Nat) (p v : Value) (l : List UInt8) (w : World) (h : BAt w b p v l) (hlen : l.length ≤ 140737488355328) :
    Calls Tryd.prog 62 #[.pointer (some ⟨b, 0, none⟩)] w fun e w' => e = .returned (.string ⟨l.toArray⟩) ∧ BAt w' b p v l ∧
      w'.os = w.os ∧ w'.tape = w.tape ∧ w'.output = w.output ∧ w.heap.size = w'.heap.size ∧ (∀ k, v.ownBlock ≠ some k → w'.heap[k]? = w.heap[k]?) := by
  have hbx : w.drew.heap[b]? = some (.cells #[p, v] 99 (0, 0)) := h.box
  have c1 : w.drew.cell? ⟨b, 1, none⟩ = some v := by rw [Lib.cell_of_heap hbx]; rfl
  by_cases h0 : l = []
  · have hv := h.nil.2 h0
    subst hv
    subst h0
    have hUS := Lib.run_unsafeString_none (P := Tryd.prog) w.drew 113 3 9 none
    have hSD : (Builtin.unsafeSliceData_ #[45] 113 #[.slice none 0 0]).run Tryd.prog w.drew = .ok (.pointer none) w.drew := rfl
    have mixed : Tryd.prog.follows .mixedOrders = true := by kernel_rfl
    go_enter Tryd.func62, Tryd.ntmps62
    go_wp2
    go_region_o
    all_goals (go_wp2; go_ret; exact ⟨rfl, ⟨h.pt, h.box, h.row, h.ne, h.nil⟩, rfl, rfl, rfl, rfl, fun _ _ => rfl⟩)
  · have hl0 : l.length ≠ 0 := by simpa using h0
    obtain ⟨g, cap, cur, fz, rfl, hbg, hg, hfz, hnc, hcm, hcs, htake⟩ : ∃ g cap cur fz, v = .slice (some ⟨g, 0, none⟩) l.length cap ∧ 0 ≤ g ∧ w.heap[g]? = some (.cells cur 5 fz) ∧ fz.2 ≤ l.length * 1 ∧ l.length ≤ cap ∧ cap ≤ maxLen ∧ cur.size = cap * 1 ∧ cur.toList.take (l.length * 1) = Lib.byteCells l := by
      rcases h.row.2 with ⟨_, hz⟩ | ⟨g, cap, cur, fz, hv, r⟩
      · exact absurd hz hl0
      · exact ⟨g, cap, cur, fz, hv, r⟩
    have hSD : (Builtin.unsafeSliceData_ #[45] 113 #[.slice (some ⟨g, 0, none⟩) l.length cap]).run Tryd.prog w.drew = .ok (.pointer (some ⟨g, 0, none⟩)) w.drew :=
      Lib.run_unsafeSliceData_row _ _ _ _ _ _ (by omega)
    have hUS : (Builtin.unsafeString_ #[113, 3] 9 #[.pointer (some ⟨g, 0, none⟩), .int .i64 l.length]).run Tryd.prog w.drew = .ok (.string ⟨l.toArray⟩) (w.drew.freeze ⟨g, 0, none⟩ l.length) := by
      refine Lib.run_unsafeString_row w.drew 113 3 9 5 Tryd.underlying113 cellsByte g cur.size (by have hg' : w.drew.heap[g]? = some (.cells cur 5 fz) := hg; simp [World.shape?, hg']) l h0 (by omega) (by omega) ?_
      intro j x hx
      have := h.row.cells (g := g) rfl j (.int .u8 x.toNat) (by simp [Lib.byteCells, hx])
      exact this
    have hA : Lib.BuilderAtF 99 5 0 b p (Lib.byteCells l) w.drew := ⟨Nat.zero_le _, _, hbx, by rw [Lib.byteCells_length]; exact h.row, h.ne⟩
    have hF := hA.froze (g := g) (cap := cap) (by rw [Lib.byteCells_length]; exact c1)
    rw [Lib.byteCells_length] at hF
    have hB : BAt (w.drew.freeze ⟨g, 0, none⟩ l.length) b p (.slice (some ⟨g, 0, none⟩) l.length cap) l := by
      obtain ⟨_, v', hb', hr', hn'⟩ := hF
      have hgb : b ≠ g := fun e => h.ne (by simp [Value.ownBlock, e])
      have hb2 := freeze_frame w.drew g l.length b hgb
      rw [hbx] at hb2
      rw [hb2] at hb'
      simp only [Option.some.injEq, Obj.cells.injEq, and_true] at hb'
      have e : Value.slice (some ⟨g, 0, none⟩) l.length cap = v' := by
        have := congrArg (fun a : Array Value => a[1]?) hb'
        simpa using this
      subst e
      exact ⟨h.pt, hb2, by rw [Lib.byteCells_length] at hr'; exact hr', hn', h.nil⟩
    have hrest := freeze_rest w.drew g l.length
    have mixed : Tryd.prog.follows .mixedOrders = true := by kernel_rfl
    go_enter Tryd.func62, Tryd.ntmps62
    go_wp2
    go_region_o
    all_goals (go_wp2; go_ret; exact ⟨rfl, hB, hrest.1, hrest.2.1, hrest.2.2.1, hrest.2.2.2.symm, fun k hk => freeze_frame w.drew g l.length k (fun e => hk (by simp [Value.ownBlock, e]))⟩)
end VXB
end Go.Proofs
end
section
set_option linter.unusedVariables false
set_option linter.unusedSimpArgs false
/-! What is told of strings.Builder's methods, and of what the machine stands in for. -/
namespace Go.VX.Seat
open Go.Proofs
/-- What a builder's box tells. -/
def bldCells (l : List UInt8) : List AV := [iA 1, iA 99, iA 5, .sc (.string ⟨l.toArray⟩)]
def HBld : FuncId → List AV → St → CRes → St → Prop := fun f args st r st' =>
  ∃ (b : Nat) (l : List UInt8) (ver : Nat), st[b]? = some ⟨bldCells l, 3, ver⟩ ∧ l.length ≤ 1000000000 ∧
    ((f = 61 ∧ ∃ s : ByteArray, args = [.ptr b 0, .sc (.string s)] ∧ s.size ≤ 1000000000 ∧ r = .ret (.tup [iA s.size, .sc .nilIface]) ∧ st' = st.set b ⟨bldCells (l ++ s.data.toList), 3, ver + 1⟩) ∨
     (f = 62 ∧ args = [.ptr b 0] ∧ r = .ret (.sc (.string ⟨l.toArray⟩)) ∧ st' = st))
theorem callable_write : Callable Tryd.prog 61 := ⟨Tryd.f61, by kernel_rfl, by kernel_rfl, by kernel_rfl⟩
theorem callable_string : Callable Tryd.prog 62 := ⟨Tryd.f62, by kernel_rfl, by kernel_rfl, by kernel_rfl⟩
theorem bat_of_phi {l : List UInt8} {r : Nat} {S : List Nat} {w : World} (h : Phi (bldCells l) r S w) : ∃ p v, VXB.BAt w r p v l ∧ S = r :: v.ownBlock.toList := by
  obtain ⟨tb, tu, l', p, v, h1, h0, h2, h3, h4, h5, h6, h7⟩ := h
  simp only [bldCells, List.cons.injEq, AV.sc.injEq, Value.int.injEq, Value.string.injEq, ByteArray.mk.injEq, true_and, and_true] at h1
  obtain ⟨e1, e2, e3⟩ := h1
  have e1 : 99 = tb := by omega
  have e2 : 5 = tu := by omega
  have e3 : l = l' := by simpa using e3
  subst e1; subst e2; subst e3
  exact ⟨p, v, ⟨h2, h3, h4, h6, h7⟩, h5⟩
theorem phi_of_bat {l : List UInt8} {r : Nat} {w : World} {p v : Value} (h : VXB.BAt w r p v l) : Phi (bldCells l) r (r :: v.ownBlock.toList) w :=
  ⟨99, 5, l, p, v, rfl, by decide, h.pt, h.box, h.row, rfl, h.ne, h.nil⟩
theorem hbld_sound {f : FuncId} {args : List AV} {st st' : St} {r : CRes} (h : HBld f args st r st') : SoundCall Tryd.prog [0, 3, 4] f args st r st' := by
  obtain ⟨b, l, ver, hx, hl, h⟩ := h
  rcases h with ⟨rfl, s, rfl, hs, rfl, rfl⟩ | ⟨rfl, rfl, rfl, rfl⟩
  · refine SoundC.sound ?_ callable_write
    intro n0 wi K w args' hW hn hargs
    obtain ⟨fp, hfp⟩ := hW.fo
    cases hargs with
    | cons h1 h2 =>
      cases h2 with
      | cons h2 h3 =>
        cases h3
        obtain ⟨kb, hk, rfl⟩ := ptr_inv h1
        have h2 := VRel.sc_eq h2
        subst h2
        obtain ⟨⟨hro, hphi⟩, hf2, hf3, hf4⟩ := hfp b _ kb hx rfl hk
        obtain ⟨p, v, hbat, hS⟩ := bat_of_phi hphi
        rw [hro]
        refine (VXB.write_calls kb.rb p v l s w hbat (by omega)).mono fun e w' he => ?_
        obtain ⟨rfl, v', hb', g1, g2, g3, g4, g5, g6⟩ := he
        refine ⟨K, WRel.setF hW hn hfp hx rfl rfl hk g1 g2 g3 g4 (fun k hk1 hk2 => g5 k hk1 (fun e => hk2 (by rw [hS, e]; simp)) (fun e => hk2 (by rw [hS, e]; simp))) (phi_of_bat hb') (fun k hk1 => ?_), ⟨KM.le_refl K, by simp, fun _ _ => rfl, fun b' hb' hk' => ?_⟩, _, rfl, .tup (.cons (.sc rfl) (.cons (.sc rfl) .nil))⟩
        · have hlt' : ∀ k, v'.ownBlock = some k → k < w'.heap.size := fun k hk => (hb'.row.lt k hk).2
          rw [hS]
          simp at hk1 ⊢
          rcases hk1 with rfl | hk1
          · exact ⟨.inl (.inl rfl), hb'.lt⟩
          · have hk1 : v'.ownBlock = some k := by simpa using hk1
            refine ⟨?_, hlt' k hk1⟩
            rcases g6 k hk1 with h1 | h1
            · exact .inl (.inr h1)
            · exact .inr h1
        · have hne : b' ≠ b := fun e => by rw [e, hk] at hk'; cases hk'
          rw [List.getElem?_set_ne (Ne.symm hne)]
  · refine SoundC.sound ?_ callable_string
    intro n0 wi K w args' hW hn hargs
    obtain ⟨fp, hfp⟩ := hW.fo
    cases hargs with
    | cons h1 h2 =>
      cases h2
      obtain ⟨kb, hk, rfl⟩ := ptr_inv h1
      obtain ⟨⟨hro, hphi⟩, hf2, hf3, hf4⟩ := hfp b _ kb hx rfl hk
      obtain ⟨p, v, hbat, hS⟩ := bat_of_phi hphi
      rw [hro]
      refine (VXB.string_calls kb.rb p v l w hbat (by omega)).mono fun e w' he => ?_
      obtain ⟨rfl, hb', g1, g2, g3, g4, g5⟩ := he
      have hW' := WRel.setF hW hn hfp hx rfl (x' := ⟨bldCells l, 3, ver⟩) rfl hk g1 g2 g3 (by omega) (fun k hk1 hk2 => g5 k (fun e => hk2 (by rw [hS, e]; simp))) (phi_of_bat hb') (fun k hk1 => ⟨.inl (by rw [hS]; exact hk1), by
        have := (hf2 k (by rw [hS]; exact hk1)).2
        omega⟩)
      have hset : st'.set b ⟨bldCells l, 3, ver⟩ = st' := by
        refine List.ext_getElem? fun i => ?_
        by_cases hi : b = i
        · subst hi
          rw [List.getElem?_set_self (List.getElem?_eq_some_iff.1 hx).1, hx]
        · rw [List.getElem?_set_ne hi]
      rw [hset] at hW'
      exact ⟨K, hW', Fr.refl K st', _, rfl, .sc rfl⟩
theorem hbld_evo {f : FuncId} {args : List AV} {st st' : St} {r : CRes} (h : HBld f args st r st') : Evo st st' := by
  obtain ⟨b, l, ver, hx, hl, h⟩ := h
  rcases h with ⟨rfl, s, rfl, hs, rfl, rfl⟩ | ⟨rfl, rfl, rfl, rfl⟩
  · exact Evo.set hx (by simp) (.inl rfl) (fun e => by simp at e)
  · exact Evo.refl _
/-- What the machine stands in for. -/
def natF (f : FuncId) : Option (Array Value → Sem Value) := match f with
  | 102 => some Extern.BytealgIndexByte.indexByte
  | 81 => some Extern.BytealgCount.count
  | _ => none
def HNat : FuncId → List AV → St → CRes → St → Prop := fun f args st r st' =>
  ∃ e vs v, natF f = some e ∧ cellsV args = some vs ∧ closed Tryd.prog (e vs.toArray) = some v ∧ cellVal v = true ∧ r = .ret (.sc v) ∧ st' = st
theorem natF_run {f : FuncId} {e : Array Value → Sem Value} (h : natF f = some e) (args : Array Value) (w : World) : (callFunc f args).run Tryd.prog w = ((e args).run Tryd.prog w).andThen fun v w' => .ok (.value v) w' := by
  unfold natF at h
  split at h
  · cases h
    exact run_callFunc_extern Tryd.func102 (by kernel_rfl) (by kernel_rfl) (by kernel_rfl) (by kernel_rfl) args w
  · cases h
    exact run_callFunc_extern Tryd.func81 (by kernel_rfl) (by kernel_rfl) (by kernel_rfl) (by kernel_rfl) args w
  · cases h
theorem hnat_sound {f : FuncId} {args : List AV} {st st' : St} {r : CRes} (h : HNat f args st r st') : SoundCall Tryd.prog [0, 3, 4] f args st r st' := by
  obtain ⟨e, vs, v, he, hvs, hv, hc, rfl, rfl⟩ := h
  intro n0 wi K w args' hW hn hargs
  have h1 := hargs.cellsV hvs
  subst h1
  refine .inr ⟨v, w, ?_, K, hW, Fr.refl K st', v, rfl, .sc hc⟩
  rw [natF_run he, run_closed _ hv]
  rfl
theorem hnat_evo {f : FuncId} {args : List AV} {st st' : St} {r : CRes} (h : HNat f args st r st') : Evo st st' := by
  obtain ⟨e, vs, v, he, hvs, hv, hc, rfl, rfl⟩ := h
  exact Evo.refl _
end Go.VX.Seat
end
section
set_option linter.unusedVariables false
set_option linter.unusedSimpArgs false
/-! What the shelf tells of the library: strings.Join. -/
namespace Go.VX.Seat
open Go.Proofs
open Go.RowKit (Below)
/-- The strings of a list. -/
def strsOf (st : St) (v : AV) : Option (List ByteArray) := match v with
  | .sc (.slice none 0 0) => some []
  | .sl b o n esz _ => if Nat.beq esz 1 then (match St.atN st b o n with
    | some cs => cs.mapM fun a => match a with | .sc (.string s) => some s | _ => none
    | none => none) else none
  | _ => none
def joinOf (xs : List ByteArray) (sep : ByteArray) : ByteArray := ⟨(Lib.join (xs.map (·.data.toList)) sep.data.toList).toArray⟩
def HLib : FuncId → List AV → St → CRes → St → Prop := fun f args st r st' =>
  f = 50 ∧ st' = st ∧ ∃ v sep xs, args = [v, .sc (.string sep)] ∧ strsOf st v = some xs ∧ xs.length ≤ 1000000 ∧ (Lib.join (xs.map (·.data.toList)) sep.data.toList).length ≤ 1000000000 ∧ r = .ret (.sc (.string (joinOf xs sep)))
theorem callable_join : Callable Tryd.prog 50 := ⟨Tryd.f50, by kernel_rfl, by kernel_rfl, by kernel_rfl⟩
theorem mapM_str : ∀ {cs : List AV} {xs : List ByteArray}, (cs.mapM fun a => match a with | .sc (.string s) => some s | _ => none) = some xs → cs = xs.map fun s => .sc (.string s)
  | [], xs, h => by simp at h; subst h; rfl
  | c :: cs, xs, h => by
    rw [List.mapM_cons] at h
    simp only [Option.bind_eq_bind, Option.bind_eq_some_iff, Option.pure_def, Option.some.injEq] at h
    obtain ⟨s, h1, ys, h2, rfl⟩ := h
    split at h1
    · simp only [Option.some.injEq] at h1
      subst h1
      rw [mapM_str h2]
      rfl
    · cases h1
theorem hlib_sound {f : FuncId} {args : List AV} {st st' : St} {r : CRes} (h : HLib f args st r st') : SoundCall Tryd.prog [0, 3, 4] f args st r st' := by
  obtain ⟨rfl, rfl, v, sep, xs, rfl, hv, hlen, hjl, rfl⟩ := h
  refine SoundC.sound ?_ callable_join
  intro n0 wi K w args' hW hn hargs
  cases hargs with
  | cons h1 h2 =>
    cases h2 with
    | cons h2 h3 =>
      cases h3
      have h2 := VRel.sc_eq h2
      subst h2
      unfold strsOf at hv
      split at hv
      · simp only [Option.some.injEq] at hv
        subst hv
        have h1 := VRel.sc_eq h1
        subst h1
        refine (Tryd.strings_Join_none none 0 sep w).mono fun e w' ⟨he, hw⟩ => ?_
        subst he; subst hw
        exact ⟨K, hW, Fr.refl K _, _, rfl, .sc rfl⟩
      · rename_i b o n esz full
        split at hv
        · rename_i hesz
          have hesz := Nat.eq_of_beq_eq_true hesz
          subst hesz
          split at hv
          · rename_i cs hcs
            have hcs2 := mapM_str hv
            subst hcs2
            cases h1 with
            | @sl _ _ _ _ _ kb a cap hk hok =>
              obtain ⟨hl1, hl2, hl3⟩ := hok
              unfold St.atN at hcs
              split at hcs
              · rename_i x hx
                split at hcs
                · cases hcs
                · rename_i hm
                  split at hcs
                  · rename_i hon
                    simp only [Option.some.injEq] at hcs
                    have hn : xs.length = n := by
                      have := congrArg List.length hcs
                      simp at this
                      omega
                    subst hn
                    have hcell : ∀ (j : Nat) (y : ByteArray), xs[j]? = some y → w.cell? ⟨kb.rb, kb.ro + o + j, none⟩ = some (.string y) := fun j y hy => by
                      have hj := (List.getElem?_eq_some_iff.1 hy).1
                      have : x.cells[o + j]? = some (.sc (.string y)) := by
                        have := congrArg (fun l => l[j]?) hcs
                        simp only [List.getElem?_map, hy, Option.map_some, List.getElem?_take, hj, if_true, List.getElem?_drop] at this
                        exact this
                      obtain ⟨v, hv1, hv2⟩ := hW.cell b x kb hx hm hk _ _ this
                      have := VRel.sc_eq hv2
                      subst this
                      rw [← Nat.add_assoc] at hv1
                      exact hv1
                    rcases hl3 with ⟨rfl, _⟩ | ⟨h0, hc0⟩
                    · refine (Tryd.strings_Join kb.rb (kb.ro + o) cap xs sep w hcell (hW.lt b x kb hx (fun e => hm (by rw [e]; exact Nat.le_refl _)) hk) (by omega) hl1 (by omega)).mono fun e w' ⟨he, hw⟩ => ?_
                      subst he
                      exact ⟨K, hW.keep (hW.size hn) hw, Fr.refl K _, _, rfl, .sc rfl⟩
                    · have hx0 : xs = [] := List.length_eq_zero_iff.1 h0
                      subst hx0
                      refine (Tryd.strings_Join_none (some a) cap sep w).mono fun e w' ⟨he, hw⟩ => ?_
                      subst he; subst hw
                      exact ⟨K, hW, Fr.refl K _, _, rfl, .sc rfl⟩
                  · cases hcs
              · cases hcs
          · cases hv
        · cases hv
      · cases hv
theorem hlib_evo {f : FuncId} {args : List AV} {st st' : St} {r : CRes} (h : HLib f args st r st') : Evo st st' := by
  obtain ⟨_, rfl, _⟩ := h
  exact Evo.refl _
noncomputable def evLib (call : EvF) : EvF := fun f args st =>
  match Nat.beq f 50 with
  | true => match args with
    | [v, .sc (.string sep)] => match strsOf st v with
      | some xs => match decide (xs.length ≤ 1000000), decide ((Lib.join (xs.map (·.data.toList)) sep.data.toList).length ≤ 1000000000) with
        | true, true => some (.ret (.sc (.string (joinOf xs sep))), st)
        | _, _ => none
      | none => none
    | _ => none
  | false => call f args st
theorem evLib_ok {H : FuncId → List AV → St → CRes → St → Prop} (hH : ∀ f args st r st', HLib f args st r st' → H f args st r st') {call : EvF} (hc : CallOk Go.Proofs.Tryd.prog fnOf H call) : CallOk Go.Proofs.Tryd.prog fnOf H (evLib call) := by
  intro f args st r st' h
  unfold evLib at h
  split at h
  · rename_i hf
    have hf := Nat.eq_of_beq_eq_true hf
    subst hf
    split at h
    · rename_i v sep
      split at h
      · rename_i xs hxs
        split at h
        · rename_i h1 h2
          simp only [Option.some.injEq, Prod.mk.injEq] at h
          obtain ⟨rfl, rfl⟩ := h
          exact .hook (hH _ _ _ _ _ ⟨rfl, rfl, v, sep, xs, rfl, hxs, of_decide_eq_true h1, of_decide_eq_true h2, rfl⟩)
        · cases h
      · cases h
    · cases h
  · exact hc _ _ _ _ _ h
end Go.VX.Seat
end
section
set_option linter.unusedVariables false
set_option maxRecDepth 100000
/-! All that is told of, strings.Builder and what the machine stands in for too; closed runs. -/
namespace Go.VX.Seat
open Go.Proofs
def HTold : FuncId → List AV → St → CRes → St → Prop := fun f args st r st' => HFind f args st r st' ∨ HBld f args st r st' ∨ HNat f args st r st' ∨ HLib f args st r st'
theorem htold_find {f : FuncId} {args : List AV} {st : St} {r : CRes} {st' : St} (h : HFind f args st r st') : HTold f args st r st' := .inl h
theorem htold_sound {f : FuncId} {args : List AV} {st st' : St} {r : CRes} (h : HTold f args st r st') : SoundCall Go.Proofs.Tryd.prog [0, 3, 4] f args st r st' := by
  rcases h with h | h | h | h
  · exact hfind_sound h
  · exact hbld_sound h
  · exact hnat_sound h
  · exact hlib_sound h
theorem htold_evo {f : FuncId} {args : List AV} {st st' : St} {r : CRes} (h : HTold f args st r st') : Evo st st' := by
  rcases h with h | h | h | h
  · exact hfind_evo h
  · exact hbld_evo h
  · exact hnat_evo h
  · exact hlib_evo h
/-- A builder's bytes, out of its box. -/
def bldOfBox : Option Box → Option (List UInt8 × Nat)
  | some ⟨[.sc (.int .i64 a), .sc (.int .i64 b), .sc (.int .i64 c), .sc (.string s)], m, ver⟩ => if a = 1 ∧ b = 99 ∧ c = 5 ∧ m = 3 ∧ s.data.toList.length ≤ 1000000000 then some (s.data.toList, ver) else none
  | _ => none
theorem bldOfBox_ok {x : Option Box} {l : List UInt8} {ver : Nat} (h : bldOfBox x = some (l, ver)) : x = some ⟨bldCells l, 3, ver⟩ ∧ l.length ≤ 1000000000 := by
  unfold bldOfBox at h
  split at h
  · rename_i a b c s m v
    split at h
    · rename_i hc
      obtain ⟨rfl, rfl, rfl, rfl, hl⟩ := hc
      simp only [Option.some.injEq, Prod.mk.injEq] at h
      obtain ⟨rfl, rfl⟩ := h
      refine ⟨?_, hl⟩
      cases s
      simp [bldCells]
    · cases h
  · cases h
noncomputable def evBld (call : EvF) : EvF := fun f args st =>
  match Nat.beq f 61 with
  | true => match args with
    | [.ptr b o, .sc (.string s)] => match Nat.beq o 0, bldOfBox st[b]?, decide (s.size ≤ 1000000000) with
      | true, some (l, ver), true => some (.ret (.tup [iA s.size, .sc .nilIface]), st.set b ⟨bldCells (l ++ s.data.toList), 3, ver + 1⟩)
      | _, _, _ => none
    | _ => none
  | false => match Nat.beq f 62 with
    | true => match args with
      | [.ptr b o] => match Nat.beq o 0, bldOfBox st[b]? with
        | true, some (l, ver) => some (.ret (.sc (.string ⟨l.toArray⟩)), st)
        | _, _ => none
      | _ => none
    | false => call f args st
theorem evBld_ok {call : EvF} (hc : CallOk Go.Proofs.Tryd.prog fnOf HTold call) : CallOk Go.Proofs.Tryd.prog fnOf HTold (evBld call) := by
  intro f args st r st' h
  unfold evBld at h
  split at h
  · rename_i hf
    have hf := Nat.eq_of_beq_eq_true hf
    subst hf
    split at h
    · rename_i b o s
      split at h
      · rename_i l ver ho hb hs
        simp only [Option.some.injEq, Prod.mk.injEq] at h
        obtain ⟨rfl, rfl⟩ := h
        have ho := Nat.eq_of_beq_eq_true ho
        subst ho
        obtain ⟨h1, h2⟩ := bldOfBox_ok hb
        exact .hook (.inr (.inl ⟨b, l, ver, h1, h2, .inl ⟨rfl, s, rfl, of_decide_eq_true hs, rfl, rfl⟩⟩))
      · cases h
    · cases h
  · split at h
    · rename_i hf
      have hf := Nat.eq_of_beq_eq_true hf
      subst hf
      split at h
      · rename_i b o
        split at h
        · rename_i l ver ho hb
          simp only [Option.some.injEq, Prod.mk.injEq] at h
          obtain ⟨rfl, rfl⟩ := h
          have ho := Nat.eq_of_beq_eq_true ho
          subst ho
          obtain ⟨h1, h2⟩ := bldOfBox_ok hb
          exact .hook (.inr (.inl ⟨b, l, ver, h1, h2, .inr ⟨rfl, rfl, rfl, rfl⟩⟩))
        · cases h
      · cases h
    · exact hc _ _ _ _ _ h
noncomputable def evNat (call : EvF) : EvF := fun f args st =>
  match natF f with
  | some e => match cellsV args with
    | some vs => match closed Go.Proofs.Tryd.prog (e vs.toArray) with
      | some v => match cellVal v with
        | true => some (.ret (.sc v), st)
        | false => none
      | none => none
    | none => none
  | none => call f args st
theorem evNat_ok {call : EvF} (hc : CallOk Go.Proofs.Tryd.prog fnOf HTold call) : CallOk Go.Proofs.Tryd.prog fnOf HTold (evNat call) := by
  intro f args st r st' h
  unfold evNat at h
  split at h
  · rename_i e he
    split at h
    · rename_i vs hvs
      split at h
      · rename_i v hv
        split at h
        · rename_i hcv
          simp only [Option.some.injEq, Prod.mk.injEq] at h
          obtain ⟨rfl, rfl⟩ := h
          exact .hook (.inr (.inr (.inl ⟨e, vs, v, he, hvs, hv, hcv, rfl, rfl⟩)))
        · cases h
      · cases h
    · cases h
  · exact hc _ _ _ _ _ h
/-- A closed call, worked out. -/
noncomputable def runClosed (n : Nat) (f : FuncId) (st : St) : Option (CRes × St) := evF fnOf (evC Go.Proofs.Tryd.prog fnOf (fun call => evLib (evNat (evBld (evFind n call)))) n) f [] st
theorem runClosed_ok {n : Nat} {f : FuncId} {st st' : St} {r : CRes} (h : runClosed n f st = some (r, st')) : J Go.Proofs.Tryd.prog fnOf HTold (.call f [] st r st') :=
  evF_ok (fun _ _ _ _ _ h => htold_evo h) (evC_ok (fun _ _ _ _ _ h => htold_evo h) (fun _ h => evLib_ok (fun _ _ _ _ _ h => .inr (.inr (.inr h))) (evNat_ok (evBld_ok (evFind_ok (fun _ _ _ _ _ h => .inl h) n h)))) n) _ _ _ _ _ h
end Go.VX.Seat
end
section
set_option maxRecDepth 1000000
/-! The law's own example: a closed call, worked out by the kernel. -/
namespace Go.VX.Seat
def okTrue : Option (CRes × St) → Bool
  | some (.ret (.sc (.bool true)), _) => true
  | _ => false
theorem alive_run : okTrue (runClosed 1000 14 glS) = true := by kernel_rfl
end Go.VX.Seat
end
section
set_option linter.unusedVariables false
set_option linter.unusedSimpArgs false
set_option maxRecDepth 1000000
/-! What is told of in all: the law's own example too. -/
namespace Go.VX
open Go.RowKit (Below)
namespace Seat
open Go.Proofs
theorem okTrue_inv : ∀ {r : Option (CRes × St)}, okTrue r = true → ∃ st', r = some (.ret (bA true), st')
  | some (.ret (.sc (.bool true)), st'), _ => ⟨st', rfl⟩
/-- The variables lie where they must. -/
def GB (st : St) : Prop := ∀ (j : Nat) (x : Box), glS[j]? = some x → st[j]? = some x
theorem GB.app {st : St} (h : GB st) (L : St) : GB (st ++ L) := fun j x hx => by
  have := h j x hx
  rw [List.getElem?_append_left (List.getElem?_eq_some_iff.1 this).1]; exact this
theorem GB.glob {st : St} (h : GB st) : GlobAt st := BoxAt.of (m := 1) (v := 0) (h 0 formBox rfl) (by decide)
theorem glS_flat : (glS.all fun x => Nat.beq x.mode 1 && x.cells.all AV.flat) = true := by decide +kernel
theorem glS_len : ([0, 3, 4] : List Nat).length = glS.length := rfl
theorem glS_in {j : Nat} {x : Box} (h : glS[j]? = some x) : x.mode = 1 ∧ ∀ a ∈ x.cells, a.flat = true := by
  have := List.all_eq_true.1 glS_flat x (List.mem_of_getElem? h)
  simp only [Bool.and_eq_true] at this
  exact ⟨Nat.eq_of_beq_eq_true this.1, fun a ha => List.all_eq_true.1 this.2 a ha⟩
theorem alive_J : ∃ st', J Go.Proofs.Tryd.prog fnOf HTold (.call 14 [] glS (.ret (bA true)) st') :=
  let ⟨st', he⟩ := okTrue_inv alive_run
  ⟨st', runClosed_ok he⟩
theorem callable_alive : Callable Go.Proofs.Tryd.prog 14 := ⟨Go.Proofs.Tryd.f14, by kernel_rfl, by kernel_rfl, by kernel_rfl⟩
theorem alive_sound {st : St} (hg : GB st) : SoundCall Go.Proofs.Tryd.prog [0, 3, 4] 14 [] st (.ret (bA true)) st := by
  obtain ⟨st', j⟩ := alive_J
  have S := (sound (P := Go.Proofs.Tryd.prog) (gl := [0, 3, 4]) mixed (fun f fn h => fn_ok f fn h) (fun _ _ _ _ _ h => htold_sound h) (fun _ _ _ _ _ h => htold_evo h) j).c callable_alive
  refine SoundC.sound ?_ callable_alive
  intro n0 wi K w args' hW hn hargs
  cases hargs
  have hlt : ∀ {b : Nat} {x : Box}, glS[b]? = some x → b < glS.length := fun h => (List.getElem?_eq_some_iff.1 h).1
  have hkk : ∀ {b : Nat} {kb : KB}, (if b < glS.length then K b else none) = some kb → b < glS.length ∧ K b = some kb := fun {b kb} h => by
    split at h
    · exact ⟨by assumption, h⟩
    · cases h
  have hW0 : WRel w.heap.size w [0, 3, 4] (fun b => if b < glS.length then K b else none) glS w := {
    below := ⟨rfl, rfl, rfl, Nat.le_refl _, fun _ _ => rfl⟩
    dom := fun b kb h => (hkk h).1
    lt := fun b x kb h1 h2 h3 => hW.lt b x kb (hg b x h1) h2 (hkk h3).2
    cell := fun b x kb h1 h2 h3 o a h4 => by
      obtain ⟨v, hv, hr⟩ := hW.cell b x kb (hg b x h1) h2 (hkk h3).2 o a h4
      exact ⟨v, hv, hr.flat ((glS_in h1).2 a (List.mem_of_getElem? h4))⟩
    live := fun b x kb h1 h2 h3 => by rw [(glS_in h1).1] at h2; cases h2
    excl := fun b x kb b' x' kb' h1 h2 h3 h4 h5 h6 h7 => by rw [(glS_in h1).1] at h2; cases h2
    fit := fun b x kb h1 h2 h3 => hW.fit b x kb (hg b x h1) h2 (hkk h3).2
    glob := fun j g h => by
      obtain ⟨kb, h1, h2⟩ := hW.glob j g h
      have hj : j < glS.length := by rw [← glS_len]; exact (List.getElem?_eq_some_iff.1 h).1
      exact ⟨kb, by simp only [if_pos hj]; exact h1, h2⟩
    fo := Fo.none fun b x h => by rw [(glS_in h).1]; decide }
  refine (S w.heap.size w _ w [] hW0 (Nat.le_refl _) .nil).mono fun e w' hp => ?_
  obtain ⟨K', hW', _, v', rfl, hv⟩ := hp
  exact ⟨K, hW.keep (hW.size hn) hW'.below, Fr.refl K st, v', rfl, hv.flat rfl⟩
/-- All that is told of. -/
def HAll : FuncId → List AV → St → CRes → St → Prop := fun f args st r st' => HTold f args st r st' ∨ (f = 14 ∧ args = [] ∧ r = .ret (bA true) ∧ st' = st ∧ GB st)
theorem hall_sound {f : FuncId} {args : List AV} {st st' : St} {r : CRes} (h : HAll f args st r st') : SoundCall Go.Proofs.Tryd.prog [0, 3, 4] f args st r st' := by
  rcases h with h | ⟨rfl, rfl, rfl, rfl, hg⟩
  · exact htold_sound h
  · exact alive_sound hg
theorem hall_evo {f : FuncId} {args : List AV} {st st' : St} {r : CRes} (h : HAll f args st r st') : Evo st st' := by
  rcases h with h | ⟨rfl, rfl, rfl, rfl, hg⟩
  · exact htold_evo h
  · exact Evo.refl _
/-- The seat's own context. -/
noncomputable def XS : Cx := ⟨Go.Proofs.Tryd.prog, fnOf, HAll⟩
theorem onXS : On XS := ⟨rfl, rfl⟩
/-- A J-run of a call holds of the machine's call. -/
theorem seat_sound {f : FuncId} {args : List AV} {st st' : St} {r : CRes} (h : J XS.P XS.F XS.H (.call f args st r st')) : SoundCall Go.Proofs.Tryd.prog [0, 3, 4] f args st r st' :=
  sound (P := Go.Proofs.Tryd.prog) (gl := [0, 3, 4]) mixed (fun f fn h => fn_ok f fn h) (fun _ _ _ _ _ h => hall_sound h) (fun _ _ _ _ _ h => hall_evo h) h
/-- The functions of the seat, and what is told of. -/
structure OnH (X : Cx) : Prop extends On X where
  told : ∀ f args st r st', HTold f args st r st' → X.H f args st r st'
  alive : ∀ st : St, GB st → X.H 14 [] st (.ret (bA true)) st
theorem onH : OnH XS := { onXS with told := fun _ _ _ _ _ h => .inl h, alive := fun st h => .inr ⟨rfl, rfl, rfl, rfl, h⟩ }
end Seat
end Go.VX
end
section
set_option linter.unusedVariables false
set_option linter.unusedSimpArgs false
set_option maxRecDepth 4000
/-! What an operation reads, writes; its class and its name. -/
namespace Go.VX.Seat
open Go.Proofs
theorem c_eqb (a b : Bool) (ox oy : Operand) : closed Tryd.prog (do eqGuard .eql 4 ox oy (.bool a) (.bool b); binOp .eql 4 (.bool a) (.bool b)) = some (.bool (a == b)) := by cases a <;> cases b <;> kernel_rfl
theorem c_eqs (P : Program) (t : TypeId) (a b : ByteArray) (ox oy : Operand) : closed P (do eqGuard .eql t ox oy (.string a) (.string b); binOp .eql t (.string a) (.string b)) = some (.bool (a.toList == b.toList)) := rfl
abbrev rowsI (l : List Int) : List (List AV) := l.map fun n => [iA n]
/-- What an operation reads but its Guard; with it. -/
def operL (o : OpV) : List Int := (if hasA o.k then [o.a] else []) ++ (if hasB o.k then [o.b] else []) ++ (if hasC o.k then [o.c] else [])
def readL (o : OpV) : List Int := (if decide (o.g ≠ -1) then [o.g] else []) ++ operL o
theorem operL_len (o : OpV) : (operL o).length ≤ 3 := by
  unfold operL
  cases hasA o.k <;> cases hasB o.k <;> cases hasC o.k <;> simp
section
variable {X : Cx} {st : St}
theorem own_frame {s : St} {lo esz : Nat} {w : AV} {rows : List (List AV)} (h : OwnS s lo w esz rows) (L : St) : OwnS (s ++ L) lo w esz rows := h.agree (Agree.app (fun _ => False) s L) fun _ _ h => h
/-- One number more at the end of an own list, behind some boxes. -/
theorem opR_app1 {K : Env → St → Post3 → Prop} {Q : Post3} {d : Option Nat} {k : List VOpd} {env : Env} (M : St) {L : St} {w : AV} {xs : List Int} {n : Int} {N : Nat} {x y : VOpd} (ex : x.ev env = w) (ey : y.ev env = .sl N 0 1 1 true) (hN : N = st.length + (M.length + L.length))
    (own : OwnS (st ++ (M ++ L)) (st.length + M.length) w 1 (rowsI xs)) (hl : xs.length ≤ 1000000)
    (h : ∀ (w' : AV) (L' : St), OwnS (st ++ (M ++ L')) (st.length + M.length) w' 1 (rowsI (xs ++ [n])) → keptA env (st ++ (M ++ (L ++ [⟨[iA n], 0, 0⟩]))) (st ++ (M ++ L')) k = true ∧ K (env.put d w') (st ++ (M ++ L')) Q) :
    opR X K d k env (st ++ (M ++ (L ++ [⟨[iA n], 0, 0⟩]))) Q (vop X.P (.append 1 8 x y) env (st ++ (M ++ (L ++ [⟨[iA n], 0, 0⟩])))) := by
  subst hN
  have own' : OwnS (st ++ (M ++ (L ++ [⟨[iA n], 0, 0⟩]))) (st.length + M.length) w 1 (rowsI xs) := by simpa using own_frame own [⟨[iA n], 0, 0⟩]
  refine opR_append (vx := w) (lo := st.length + M.length) (lo' := st.length + (M.length + L.length)) (hi' := st.length + (M.length + L.length) + 1) (rows := rowsI xs) (rows2 := [[iA n]]) ex ey own' (by simp) (ArrAt.ofBox (mode := 0) (ver := 0) ?_ (by decide) (by simp) rfl) (by simp; omega) (by rfl) ?_
  · have e : st ++ (M ++ (L ++ [⟨[iA n], 0, 0⟩])) = (st ++ (M ++ L)) ++ [⟨[iA n], 0, 0⟩] := by simp
    rw [e, List.getElem?_append_right (by simp)]
    simp
  intro w' s' hag hown _
  obtain ⟨L', rfl⟩ := Agree.shape (st := st) (M := M) (N := L ++ [⟨[iA n], 0, 0⟩]) (hag.mono (Y := fun b => boxOf w = some b) fun _ _ h => h.2) (fun b hb => by have := (own.bnd b hb).1; omega)
  exact h w' L' (by simpa using hown)
theorem c_shl0 (P : Program) (t : TypeId) (ox oy : Operand) : closed P (do eqGuard .shl t ox oy (.int .i64 2) (.int .i64 0); binOp .shl t (.int .i64 2) (.int .i64 0)) = some (.int .i64 2) := rfl
theorem c_shl1 (P : Program) (t : TypeId) (ox oy : Operand) : closed P (do eqGuard .shl t ox oy (.int .i64 2) (.int .i64 1); binOp .shl t (.int .i64 2) (.int .i64 1)) = some (.int .i64 4) := rfl
theorem c_shl2 (P : Program) (t : TypeId) (ox oy : Operand) : closed P (do eqGuard .shl t ox oy (.int .i64 2) (.int .i64 2); binOp .shl t (.int .i64 2) (.int .i64 2)) = some (.int .i64 8) := rfl
theorem w_code_Read (h : On X) (hg : GlobAt st) (o : OpV) (ho : oneK o.k = true) :
    wpF X 56 [.agg o.row] st fun r s => ∃ w m, r = .ret w ∧ s = st ++ m ∧ OwnS s st.length w 1 (rowsI (operL o)) := by
  refine wpF_go (fn := v_code_Read) (by rw [h.F]; rfl) ?_
  obtain ⟨_, t2, t3, t4, _, _, _, _⟩ := bits ho
  have w1 : IntKind.wrap .i64 (0 + 1) = 1 := rfl
  have w2 : IntKind.wrap .i64 (1 + 1) = 2 := rfl
  have w3 : IntKind.wrap .i64 (2 + 1) = 3 := rfl
  simp only [v_code_Read, OpV.row, kB, kZ, kD, fillA, partsEv, zeroes, Nat.reduceSub, Int.reduceToNat, Nat.reduceMul, asInt?, asNat?, Int.reduceAdd, Int.reduceLE, Int.reduceLT, Int.reduceNeg, Nat.reduceLeDiff, VOpd.ev, Nat.reduceEqDiff, Nat.reduceAdd, reduceIte, reduceCtorEq, splice, resOf, tupOf, cellsV, AV.toV, AV.cell?, cellVal]
  refine callO_same (j_code_of h (hg.ext (Ext.of _ _)) o.k) ?_
  simp only [kB, kZ, kD, fillA, partsEv, zeroes, Nat.reduceSub, Int.reduceToNat, Nat.reduceMul, asInt?, asNat?, Int.reduceAdd, Int.reduceLE, Int.reduceLT, Int.reduceNeg, Nat.reduceLeDiff, VOpd.ev, Nat.reduceEqDiff, Nat.reduceAdd, reduceIte, reduceCtorEq, splice, resOf, tupOf, cellsV, AV.toV, AV.cell?, cellVal]
  refine loop_unroll ?_
  simp only [c_shl0, c_and, t2, kB, kZ, kD, fillA, partsEv, zeroes, Nat.reduceSub, Int.reduceToNat, Nat.reduceMul, asInt?, asNat?, Int.reduceAdd, Int.reduceLE, Int.reduceLT, Int.reduceNeg, Nat.reduceLeDiff, VOpd.ev, Nat.reduceEqDiff, Nat.reduceAdd, reduceIte, reduceCtorEq, splice, resOf, tupOf, cellsV, AV.toV, AV.cell?, cellVal]
  refine anyCond (mB m0) (fun e s => ∃ (L : St) (w : AV), s = st ++ (⟨[iA o.k, iA o.d, iA o.a, iA o.b, iA o.c, iA o.n, iA o.g], 0, 0⟩ :: ⟨[iA (usesK o.k), iA (classK o.k), .sc (.string (nameK o.k))], 0, 1⟩ :: L) ∧ e 3 = .ptr (st.length + 1) 0 ∧ e 5 = w ∧ e 20 = .agg [iA o.a, iA o.b, iA o.c] ∧ e 21 = iA 0 ∧ OwnS s (st.length + 2) w 1 (rowsI (if hasA o.k then [o.a] else []))) ?_ ?_
  · refine condO_intro ?_ ?_ <;> intro hc
    · simp only [kB, kZ, kD, fillA, partsEv, zeroes, Nat.reduceSub, Int.reduceToNat, Nat.reduceMul, asInt?, asNat?, Int.reduceAdd, Int.reduceLE, Int.reduceLT, Int.reduceNeg, Nat.reduceLeDiff, VOpd.ev, Nat.reduceEqDiff, Nat.reduceAdd, reduceIte, reduceCtorEq, splice, resOf, tupOf, cellsV, AV.toV, AV.cell?, cellVal]
      refine opR_app1 [⟨[iA o.k, iA o.d, iA o.a, iA o.b, iA o.c, iA o.n, iA o.g], 0, 0⟩, ⟨[iA (usesK o.k), iA (classK o.k), .sc (.string (nameK o.k))], 0, 1⟩] (L := ([] : St)) (w := (.sc (.slice none 0 0))) (xs := []) (by simp only [kB, kZ, kD, fillA, partsEv, zeroes, Nat.reduceSub, Int.reduceToNat, Nat.reduceMul, asInt?, asNat?, Int.reduceAdd, Int.reduceLE, Int.reduceLT, Int.reduceNeg, Nat.reduceLeDiff, VOpd.ev, Nat.reduceEqDiff, Nat.reduceAdd, reduceIte, reduceCtorEq, splice, resOf, tupOf, cellsV, AV.toV, AV.cell?, cellVal]) (by simp only [kB, kZ, kD, fillA, partsEv, zeroes, Nat.reduceSub, Int.reduceToNat, Nat.reduceMul, asInt?, asNat?, Int.reduceAdd, Int.reduceLE, Int.reduceLT, Int.reduceNeg, Nat.reduceLeDiff, VOpd.ev, Nat.reduceEqDiff, Nat.reduceAdd, reduceIte, reduceCtorEq, splice, resOf, tupOf, cellsV, AV.toV, AV.cell?, cellVal]; rfl) (by simp) (own_nil _ _ _) (by simp) ?_
      intro w' L' hown'
      simp only [kB, kZ, kD, fillA, partsEv, zeroes, Nat.reduceSub, Int.reduceToNat, Nat.reduceMul, asInt?, asNat?, Int.reduceAdd, Int.reduceLE, Int.reduceLT, Int.reduceNeg, Nat.reduceLeDiff, VOpd.ev, Nat.reduceEqDiff, Nat.reduceAdd, reduceIte, reduceCtorEq, splice, resOf, tupOf, cellsV, AV.toV, AV.cell?, cellVal]
      first | exact ⟨L', w', rfl, rfl, by simpa [hc] using hown'⟩ | exact ⟨L', w', rfl, rfl, rfl, by simpa [hc] using hown'⟩ | exact ⟨L', w', rfl, rfl, rfl, rfl, by simpa [hc] using hown'⟩
    · simp only [hc, kB, kZ, kD, fillA, partsEv, zeroes, Nat.reduceSub, Int.reduceToNat, Nat.reduceMul, asInt?, asNat?, Int.reduceAdd, Int.reduceLE, Int.reduceLT, Int.reduceNeg, Nat.reduceLeDiff, VOpd.ev, Nat.reduceEqDiff, Nat.reduceAdd, reduceIte, reduceCtorEq, splice, resOf, tupOf, cellsV, AV.toV, AV.cell?, cellVal]
      exact ⟨([] : St), _, rfl, rfl, own_nil _ _ _⟩
  rintro e s ⟨L, w, rfl, k3, k5, k20, k21, hown⟩
  have hlen : (if hasA o.k then [o.a] else []).length ≤ 1000000 := by cases hasA o.k <;> simp
  simp only [k3, k5, k20, k21, w1, kB, kZ, kD, fillA, partsEv, zeroes, Nat.reduceSub, Int.reduceToNat, Nat.reduceMul, asInt?, asNat?, Int.reduceAdd, Int.reduceLE, Int.reduceLT, Int.reduceNeg, Nat.reduceLeDiff, VOpd.ev, Nat.reduceEqDiff, Nat.reduceAdd, reduceIte, reduceCtorEq, splice, resOf, tupOf, cellsV, AV.toV, AV.cell?, cellVal]
  refine loop_unroll ?_
  simp only [k3, k5, k20, k21, c_shl1, c_and, t3, kB, kZ, kD, fillA, partsEv, zeroes, Nat.reduceSub, Int.reduceToNat, Nat.reduceMul, asInt?, asNat?, Int.reduceAdd, Int.reduceLE, Int.reduceLT, Int.reduceNeg, Nat.reduceLeDiff, VOpd.ev, Nat.reduceEqDiff, Nat.reduceAdd, reduceIte, reduceCtorEq, splice, resOf, tupOf, cellsV, AV.toV, AV.cell?, cellVal]
  refine anyCond (mB m0) (fun e s => ∃ (L : St) (w : AV), s = st ++ (⟨[iA o.k, iA o.d, iA o.a, iA o.b, iA o.c, iA o.n, iA o.g], 0, 0⟩ :: ⟨[iA (usesK o.k), iA (classK o.k), .sc (.string (nameK o.k))], 0, 1⟩ :: L) ∧ e 3 = .ptr (st.length + 1) 0 ∧ e 5 = w ∧ e 20 = .agg [iA o.a, iA o.b, iA o.c] ∧ e 21 = iA 1 ∧ OwnS s (st.length + 2) w 1 (rowsI ((if hasA o.k then [o.a] else []) ++ (if hasB o.k then [o.b] else [])))) ?_ ?_
  · refine condO_intro ?_ ?_ <;> intro hc
    · simp only [k3, k5, k20, k21, kB, kZ, kD, fillA, partsEv, zeroes, Nat.reduceSub, Int.reduceToNat, Nat.reduceMul, asInt?, asNat?, Int.reduceAdd, Int.reduceLE, Int.reduceLT, Int.reduceNeg, Nat.reduceLeDiff, VOpd.ev, Nat.reduceEqDiff, Nat.reduceAdd, reduceIte, reduceCtorEq, splice, resOf, tupOf, cellsV, AV.toV, AV.cell?, cellVal]
      refine opR_app1 [⟨[iA o.k, iA o.d, iA o.a, iA o.b, iA o.c, iA o.n, iA o.g], 0, 0⟩, ⟨[iA (usesK o.k), iA (classK o.k), .sc (.string (nameK o.k))], 0, 1⟩] (L := L) (w := w) (xs := (if hasA o.k then [o.a] else [])) (by simp only [k3, k5, k20, k21, kB, kZ, kD, fillA, partsEv, zeroes, Nat.reduceSub, Int.reduceToNat, Nat.reduceMul, asInt?, asNat?, Int.reduceAdd, Int.reduceLE, Int.reduceLT, Int.reduceNeg, Nat.reduceLeDiff, VOpd.ev, Nat.reduceEqDiff, Nat.reduceAdd, reduceIte, reduceCtorEq, splice, resOf, tupOf, cellsV, AV.toV, AV.cell?, cellVal]) (by simp only [kB, kZ, kD, fillA, partsEv, zeroes, Nat.reduceSub, Int.reduceToNat, Nat.reduceMul, asInt?, asNat?, Int.reduceAdd, Int.reduceLE, Int.reduceLT, Int.reduceNeg, Nat.reduceLeDiff, VOpd.ev, Nat.reduceEqDiff, Nat.reduceAdd, reduceIte, reduceCtorEq, splice, resOf, tupOf, cellsV, AV.toV, AV.cell?, cellVal]; rfl) (by simp; omega) (hown) (hlen) ?_
      intro w' L' hown'
      simp only [k3, k5, k20, k21, kB, kZ, kD, fillA, partsEv, zeroes, Nat.reduceSub, Int.reduceToNat, Nat.reduceMul, asInt?, asNat?, Int.reduceAdd, Int.reduceLE, Int.reduceLT, Int.reduceNeg, Nat.reduceLeDiff, VOpd.ev, Nat.reduceEqDiff, Nat.reduceAdd, reduceIte, reduceCtorEq, splice, resOf, tupOf, cellsV, AV.toV, AV.cell?, cellVal]
      first | exact ⟨L', w', rfl, rfl, by simpa [hc] using hown'⟩ | exact ⟨L', w', rfl, rfl, rfl, by simpa [hc] using hown'⟩ | exact ⟨L', w', rfl, rfl, rfl, rfl, by simpa [hc] using hown'⟩
    · simp only [k3, k5, k20, k21, hc, kB, kZ, kD, fillA, partsEv, zeroes, Nat.reduceSub, Int.reduceToNat, Nat.reduceMul, asInt?, asNat?, Int.reduceAdd, Int.reduceLE, Int.reduceLT, Int.reduceNeg, Nat.reduceLeDiff, VOpd.ev, Nat.reduceEqDiff, Nat.reduceAdd, reduceIte, reduceCtorEq, splice, resOf, tupOf, cellsV, AV.toV, AV.cell?, cellVal]
      first | exact ⟨L, w, by simp, rfl, by simpa [hc] using hown⟩ | exact ⟨L, w, by simp, rfl, rfl, by simpa [hc] using hown⟩ | exact ⟨L, w, by simp, rfl, rfl, rfl, by simpa [hc] using hown⟩ | exact ⟨L, w, by simp, rfl, rfl, rfl, rfl, by simpa [hc] using hown⟩
  rintro e s ⟨L, w, rfl, k3, k5, k20, k21, hown⟩
  have hlen : ((if hasA o.k then [o.a] else []) ++ (if hasB o.k then [o.b] else [])).length ≤ 1000000 := by cases hasA o.k <;> cases hasB o.k <;> simp
  simp only [k3, k5, k20, k21, w2, kB, kZ, kD, fillA, partsEv, zeroes, Nat.reduceSub, Int.reduceToNat, Nat.reduceMul, asInt?, asNat?, Int.reduceAdd, Int.reduceLE, Int.reduceLT, Int.reduceNeg, Nat.reduceLeDiff, VOpd.ev, Nat.reduceEqDiff, Nat.reduceAdd, reduceIte, reduceCtorEq, splice, resOf, tupOf, cellsV, AV.toV, AV.cell?, cellVal]
  refine loop_unroll ?_
  simp only [k3, k5, k20, k21, c_shl2, c_and, t4, kB, kZ, kD, fillA, partsEv, zeroes, Nat.reduceSub, Int.reduceToNat, Nat.reduceMul, asInt?, asNat?, Int.reduceAdd, Int.reduceLE, Int.reduceLT, Int.reduceNeg, Nat.reduceLeDiff, VOpd.ev, Nat.reduceEqDiff, Nat.reduceAdd, reduceIte, reduceCtorEq, splice, resOf, tupOf, cellsV, AV.toV, AV.cell?, cellVal]
  refine anyCond (mB m0) (fun e s => ∃ (L : St) (w : AV), s = st ++ (⟨[iA o.k, iA o.d, iA o.a, iA o.b, iA o.c, iA o.n, iA o.g], 0, 0⟩ :: ⟨[iA (usesK o.k), iA (classK o.k), .sc (.string (nameK o.k))], 0, 1⟩ :: L) ∧ e 3 = .ptr (st.length + 1) 0 ∧ e 5 = w ∧ e 20 = .agg [iA o.a, iA o.b, iA o.c] ∧ e 21 = iA 2 ∧ OwnS s (st.length + 2) w 1 (rowsI ((if hasA o.k then [o.a] else []) ++ (if hasB o.k then [o.b] else []) ++ (if hasC o.k then [o.c] else [])))) ?_ ?_
  · refine condO_intro ?_ ?_ <;> intro hc
    · simp only [k3, k5, k20, k21, kB, kZ, kD, fillA, partsEv, zeroes, Nat.reduceSub, Int.reduceToNat, Nat.reduceMul, asInt?, asNat?, Int.reduceAdd, Int.reduceLE, Int.reduceLT, Int.reduceNeg, Nat.reduceLeDiff, VOpd.ev, Nat.reduceEqDiff, Nat.reduceAdd, reduceIte, reduceCtorEq, splice, resOf, tupOf, cellsV, AV.toV, AV.cell?, cellVal]
      refine opR_app1 [⟨[iA o.k, iA o.d, iA o.a, iA o.b, iA o.c, iA o.n, iA o.g], 0, 0⟩, ⟨[iA (usesK o.k), iA (classK o.k), .sc (.string (nameK o.k))], 0, 1⟩] (L := L) (w := w) (xs := ((if hasA o.k then [o.a] else []) ++ (if hasB o.k then [o.b] else []))) (by simp only [k3, k5, k20, k21, kB, kZ, kD, fillA, partsEv, zeroes, Nat.reduceSub, Int.reduceToNat, Nat.reduceMul, asInt?, asNat?, Int.reduceAdd, Int.reduceLE, Int.reduceLT, Int.reduceNeg, Nat.reduceLeDiff, VOpd.ev, Nat.reduceEqDiff, Nat.reduceAdd, reduceIte, reduceCtorEq, splice, resOf, tupOf, cellsV, AV.toV, AV.cell?, cellVal]) (by simp only [kB, kZ, kD, fillA, partsEv, zeroes, Nat.reduceSub, Int.reduceToNat, Nat.reduceMul, asInt?, asNat?, Int.reduceAdd, Int.reduceLE, Int.reduceLT, Int.reduceNeg, Nat.reduceLeDiff, VOpd.ev, Nat.reduceEqDiff, Nat.reduceAdd, reduceIte, reduceCtorEq, splice, resOf, tupOf, cellsV, AV.toV, AV.cell?, cellVal]; rfl) (by simp; omega) (hown) (hlen) ?_
      intro w' L' hown'
      simp only [k3, k5, k20, k21, kB, kZ, kD, fillA, partsEv, zeroes, Nat.reduceSub, Int.reduceToNat, Nat.reduceMul, asInt?, asNat?, Int.reduceAdd, Int.reduceLE, Int.reduceLT, Int.reduceNeg, Nat.reduceLeDiff, VOpd.ev, Nat.reduceEqDiff, Nat.reduceAdd, reduceIte, reduceCtorEq, splice, resOf, tupOf, cellsV, AV.toV, AV.cell?, cellVal]
      first | exact ⟨L', w', rfl, rfl, by simpa [hc] using hown'⟩ | exact ⟨L', w', rfl, rfl, rfl, by simpa [hc] using hown'⟩ | exact ⟨L', w', rfl, rfl, rfl, rfl, by simpa [hc] using hown'⟩
    · simp only [k3, k5, k20, k21, hc, kB, kZ, kD, fillA, partsEv, zeroes, Nat.reduceSub, Int.reduceToNat, Nat.reduceMul, asInt?, asNat?, Int.reduceAdd, Int.reduceLE, Int.reduceLT, Int.reduceNeg, Nat.reduceLeDiff, VOpd.ev, Nat.reduceEqDiff, Nat.reduceAdd, reduceIte, reduceCtorEq, splice, resOf, tupOf, cellsV, AV.toV, AV.cell?, cellVal]
      first | exact ⟨L, w, by simp, rfl, by simpa [hc] using hown⟩ | exact ⟨L, w, by simp, rfl, rfl, by simpa [hc] using hown⟩ | exact ⟨L, w, by simp, rfl, rfl, rfl, by simpa [hc] using hown⟩ | exact ⟨L, w, by simp, rfl, rfl, rfl, rfl, by simpa [hc] using hown⟩
  rintro e s ⟨L, w, rfl, k3, k5, k20, k21, hown⟩
  have hlen : ((if hasA o.k then [o.a] else []) ++ (if hasB o.k then [o.b] else []) ++ (if hasC o.k then [o.c] else [])).length ≤ 1000000 := by cases hasA o.k <;> cases hasB o.k <;> cases hasC o.k <;> simp
  simp only [k3, k5, k20, k21, w3, kB, kZ, kD, fillA, partsEv, zeroes, Nat.reduceSub, Int.reduceToNat, Nat.reduceMul, asInt?, asNat?, Int.reduceAdd, Int.reduceLE, Int.reduceLT, Int.reduceNeg, Nat.reduceLeDiff, VOpd.ev, Nat.reduceEqDiff, Nat.reduceAdd, reduceIte, reduceCtorEq, splice, resOf, tupOf, cellsV, AV.toV, AV.cell?, cellVal]
  refine loop_unroll ?_
  simp only [k3, k5, k20, k21, kB, kZ, kD, fillA, partsEv, zeroes, Nat.reduceSub, Int.reduceToNat, Nat.reduceMul, asInt?, asNat?, Int.reduceAdd, Int.reduceLE, Int.reduceLT, Int.reduceNeg, Nat.reduceLeDiff, VOpd.ev, Nat.reduceEqDiff, Nat.reduceAdd, reduceIte, reduceCtorEq, splice, resOf, tupOf, cellsV, AV.toV, AV.cell?, cellVal]
  exact ⟨_, _, rfl, rfl, hown.low (by omega)⟩
end
end Go.VX.Seat
end
section
set_option linter.unusedVariables false
set_option linter.unusedSimpArgs false
set_option maxRecDepth 4000
/-! The law CodeTells. -/
namespace Go.VX.Seat
open Go.Proofs
def errK (k : Int) : Int := if oneK k then 0 else 4
def rclsK (k : Int) : Int := if decide (k ≤ 12) then 0 else if decide (k ≤ 15) || decide (k = 23) || decide (k = 24) then 1 else if decide (k ≤ 19) || decide (k = 25) then 2 else 3
theorem rcls_all : ∀ j : Fin 25, (rclsK ((j.val : Int) + 1) == classK ((j.val : Int) + 1)) = true := by decide +kernel
theorem oneK_bnd {k : Int} (h : oneK k = true) : 1 ≤ k ∧ k ≤ 25 := by
  unfold oneK at h
  simpa using h
theorem rcls_eq {k : Int} (h : oneK k = true) : rclsK k = classK k := by
  have hk := oneK_bnd h
  have := rcls_all ⟨(k - 1).toNat, by omega⟩
  simp only at this
  rw [show (((k - 1).toNat : Nat) : Int) + 1 = k by omega] at this
  simpa using this
theorem callO_own {X : Cx} {env : Env} {st : St} {Q : Post3} {K : Env → St → Post3 → Prop} {f : FuncId} {args : List AV} {dst : Option Nat} {keep : List VOpd} {esz : Nat} {rows : List (List AV)} (hw : wpF X f args st fun r s => ∃ w m, r = .ret w ∧ s = st ++ m ∧ OwnS s st.length w esz rows)
    (h : ∀ w m, OwnS (st ++ m) st.length w esz rows → K (env.put dst w) (st ++ m) Q) : callO X f args dst keep K env st Q := by
  refine wpF.mono hw ?_
  rintro r s ⟨w, m, rfl, rfl, h1⟩
  exact ⟨kept_app _ _ _ _, h w m h1⟩
theorem own_one (st M m : St) (n : Int) {N : Nat} (hN : N = st.length + M.length) : OwnS (st ++ (M ++ (⟨[iA n], 0, 0⟩ :: m))) N (.sl N 0 1 1 true) 1 (rowsI [n]) := by
  subst hN
  have hb : (st ++ (M ++ (⟨[iA n], 0, 0⟩ :: m)))[st.length + M.length]? = some ⟨(rowsI [n]).flatten, 0, 0⟩ := by
    rw [← List.append_assoc, List.getElem?_append_right (by simp)]; simp
  exact {
    arr := (ArrAt.ofBox hb (by decide) (by simp) rfl).wide' (by omega) (by simp; omega)
    bnd := fun b h => by cases h; simp
    app := fun b o n e full h => by cases h; exact .inl rfl }
section
variable {X : Cx} {st : St}
theorem j_code_Class (h : On X) (hg : GlobAt st) (k : Int) :
    J X.P X.F X.H (.call 41 [iA k] st (.ret (.tup [iA (classK k), iA (errK k)])) st) := by
  refine pure_intro (by rw [h.F]; rfl) rfl ?_
  simp only [v_code_Class, kB, kZ, kD, fillA, partsEv, zeroes, Nat.reduceSub, Int.reduceToNat, Nat.reduceMul, asInt?, asNat?, Int.reduceAdd, Int.reduceLE, Int.reduceLT, Int.reduceNeg, Nat.reduceLeDiff, VOpd.ev, Nat.reduceEqDiff, Nat.reduceAdd, reduceIte, reduceCtorEq, splice, resOf, tupOf, cellsV, AV.toV, AV.cell?, cellVal]
  refine callO_same (j_code_of h (hg.ext (Ext.of _ [])) k) ?_
  simp only [kB, kZ, kD, fillA, partsEv, zeroes, Nat.reduceSub, Int.reduceToNat, Nat.reduceMul, asInt?, asNat?, Int.reduceAdd, Int.reduceLE, Int.reduceLT, Int.reduceNeg, Nat.reduceLeDiff, VOpd.ev, Nat.reduceEqDiff, Nat.reduceAdd, reduceIte, reduceCtorEq, splice, resOf, tupOf, cellsV, AV.toV, AV.cell?, cellVal]
  unfold errK
  refine condO_intro ?_ ?_ <;> intro hc
  · have ho : oneK k = false := by simpa using hc
    simp only [ho, classK, kB, kZ, kD, fillA, partsEv, zeroes, Nat.reduceSub, Int.reduceToNat, Nat.reduceMul, asInt?, asNat?, Int.reduceAdd, Int.reduceLE, Int.reduceLT, Int.reduceNeg, Nat.reduceLeDiff, VOpd.ev, Nat.reduceEqDiff, Nat.reduceAdd, reduceIte, reduceCtorEq, splice, resOf, tupOf, cellsV, AV.toV, AV.cell?, cellVal]
    first | exact ⟨_, rfl⟩ | exact ⟨rfl, _, rfl⟩ | exact ⟨trivial, _, rfl⟩ | exact ⟨[], (List.append_nil _).symm⟩
  · have ho : oneK k = true := by simpa using hc
    simp only [ho, kB, kZ, kD, fillA, partsEv, zeroes, Nat.reduceSub, Int.reduceToNat, Nat.reduceMul, asInt?, asNat?, Int.reduceAdd, Int.reduceLE, Int.reduceLT, Int.reduceNeg, Nat.reduceLeDiff, VOpd.ev, Nat.reduceEqDiff, Nat.reduceAdd, reduceIte, reduceCtorEq, splice, resOf, tupOf, cellsV, AV.toV, AV.cell?, cellVal]
    first | exact ⟨_, rfl⟩ | exact ⟨rfl, _, rfl⟩ | exact ⟨trivial, _, rfl⟩ | exact ⟨[], (List.append_nil _).symm⟩
theorem w_code_Reads (h : On X) (hg : GlobAt st) (o : OpV) (ho : oneK o.k = true) :
    wpF X 43 [.agg o.row] st fun r s => ∃ w m, r = .ret (.tup [w, iA 0]) ∧ s = st ++ m ∧ OwnS s st.length w 1 (rowsI (readL o)) := by
  refine wpF_go (fn := v_code_Reads) (by rw [h.F]; rfl) ?_
  simp only [v_code_Reads, OpV.row, kB, kZ, kD, fillA, partsEv, zeroes, Nat.reduceSub, Int.reduceToNat, Nat.reduceMul, asInt?, asNat?, Int.reduceAdd, Int.reduceLE, Int.reduceLT, Int.reduceNeg, Nat.reduceLeDiff, VOpd.ev, Nat.reduceEqDiff, Nat.reduceAdd, reduceIte, reduceCtorEq, splice, resOf, tupOf, cellsV, AV.toV, AV.cell?, cellVal]
  refine callO_same (j_code_of h (hg.ext (Ext.of _ _)) o.k) ?_
  simp only [ho, kB, kZ, kD, fillA, partsEv, zeroes, Nat.reduceSub, Int.reduceToNat, Nat.reduceMul, asInt?, asNat?, Int.reduceAdd, Int.reduceLE, Int.reduceLT, Int.reduceNeg, Nat.reduceLeDiff, VOpd.ev, Nat.reduceEqDiff, Nat.reduceAdd, reduceIte, reduceCtorEq, splice, resOf, tupOf, cellsV, AV.toV, AV.cell?, cellVal]
  refine condO_intro ?_ ?_ <;> intro hc
  · simp only [kB, kZ, kD, fillA, partsEv, zeroes, Nat.reduceSub, Int.reduceToNat, Nat.reduceMul, asInt?, asNat?, Int.reduceAdd, Int.reduceLE, Int.reduceLT, Int.reduceNeg, Nat.reduceLeDiff, VOpd.ev, Nat.reduceEqDiff, Nat.reduceAdd, reduceIte, reduceCtorEq, splice, resOf, tupOf, cellsV, AV.toV, AV.cell?, cellVal]
    refine callO_own (w_code_Read h (hg.ext (Ext.of _ _)) o ho) ?_
    intro w m hown
    simp only [List.append_assoc, List.cons_append, List.nil_append, kB, kZ, kD, fillA, partsEv, zeroes, Nat.reduceSub, Int.reduceToNat, Nat.reduceMul, asInt?, asNat?, Int.reduceAdd, Int.reduceLE, Int.reduceLT, Int.reduceNeg, Nat.reduceLeDiff, VOpd.ev, Nat.reduceEqDiff, Nat.reduceAdd, reduceIte, reduceCtorEq, splice, resOf, tupOf, cellsV, AV.toV, AV.cell?, cellVal]
    have hown2 : OwnS (st ++ ([⟨[iA o.k, iA o.d, iA o.a, iA o.b, iA o.c, iA o.n, iA o.g], 0, 0⟩, ⟨[iA (usesK o.k), iA (classK o.k), .sc (.string (nameK o.k))], 0, 1⟩] ++ (⟨[iA o.g], 0, 0⟩ :: m))) (st.length + 3) w 1 (rowsI (operL o)) := by simpa using hown
    have hl := operL_len o
    refine opR_append (vx := .sl (st.length + 2) 0 1 1 true) (vy := w) (lo := st.length + 2) (rows := rowsI [o.g]) (rows2 := rowsI (operL o)) (by simp only [kB, kZ, kD, fillA, partsEv, zeroes, Nat.reduceSub, Int.reduceToNat, Nat.reduceMul, asInt?, asNat?, Int.reduceAdd, Int.reduceLE, Int.reduceLT, Int.reduceNeg, Nat.reduceLeDiff, VOpd.ev, Nat.reduceEqDiff, Nat.reduceAdd, reduceIte, reduceCtorEq, splice, resOf, tupOf, cellsV, AV.toV, AV.cell?, cellVal]) (by simp only [kB, kZ, kD, fillA, partsEv, zeroes, Nat.reduceSub, Int.reduceToNat, Nat.reduceMul, asInt?, asNat?, Int.reduceAdd, Int.reduceLE, Int.reduceLT, Int.reduceNeg, Nat.reduceLeDiff, VOpd.ev, Nat.reduceEqDiff, Nat.reduceAdd, reduceIte, reduceCtorEq, splice, resOf, tupOf, cellsV, AV.toV, AV.cell?, cellVal]) (own_one st [⟨[iA o.k, iA o.d, iA o.a, iA o.b, iA o.c, iA o.n, iA o.g], 0, 0⟩, ⟨[iA (usesK o.k), iA (classK o.k), .sc (.string (nameK o.k))], 0, 1⟩] m o.g rfl) (by simp) hown2.arr (by simp; omega) (intRow_cells _) ?_
    intro w' s' hag hown' _
    obtain ⟨L', rfl⟩ := Agree.shape (st := st) (M := [⟨[iA o.k, iA o.d, iA o.a, iA o.b, iA o.c, iA o.n, iA o.g], 0, 0⟩, ⟨[iA (usesK o.k), iA (classK o.k), .sc (.string (nameK o.k))], 0, 1⟩]) (N := ⟨[iA o.g], 0, 0⟩ :: m) (hag.mono (Y := fun b => b = st.length + 2) fun _ _ h => by have := h.2; simpa [boxOf] using this.symm) (fun b hb => by simp [hb])
    simp only [kB, kZ, kD, fillA, partsEv, zeroes, Nat.reduceSub, Int.reduceToNat, Nat.reduceMul, asInt?, asNat?, Int.reduceAdd, Int.reduceLE, Int.reduceLT, Int.reduceNeg, Nat.reduceLeDiff, VOpd.ev, Nat.reduceEqDiff, Nat.reduceAdd, reduceIte, reduceCtorEq, splice, resOf, tupOf, cellsV, AV.toV, AV.cell?, cellVal]
    refine ⟨w', _, rfl, rfl, ?_⟩
    have : readL o = [o.g] ++ operL o := by unfold readL; simp only [hc, if_true]
    rw [this]
    exact (by simpa using hown' : OwnS _ _ w' 1 (rowsI ([o.g] ++ operL o))).low (by omega)
  · simp only [kB, kZ, kD, fillA, partsEv, zeroes, Nat.reduceSub, Int.reduceToNat, Nat.reduceMul, asInt?, asNat?, Int.reduceAdd, Int.reduceLE, Int.reduceLT, Int.reduceNeg, Nat.reduceLeDiff, VOpd.ev, Nat.reduceEqDiff, Nat.reduceAdd, reduceIte, reduceCtorEq, splice, resOf, tupOf, cellsV, AV.toV, AV.cell?, cellVal]
    refine callO_own (w_code_Read h (hg.ext (Ext.of _ _)) o ho) ?_
    intro w m hown
    simp only [List.append_assoc, List.cons_append, List.nil_append, kB, kZ, kD, fillA, partsEv, zeroes, Nat.reduceSub, Int.reduceToNat, Nat.reduceMul, asInt?, asNat?, Int.reduceAdd, Int.reduceLE, Int.reduceLT, Int.reduceNeg, Nat.reduceLeDiff, VOpd.ev, Nat.reduceEqDiff, Nat.reduceAdd, reduceIte, reduceCtorEq, splice, resOf, tupOf, cellsV, AV.toV, AV.cell?, cellVal]
    refine ⟨w, _, rfl, rfl, ?_⟩
    have : readL o = operL o := by unfold readL; simp only [hc, Bool.false_eq_true, if_false, List.nil_append]
    rw [this]
    exact (by simpa using hown : OwnS _ _ w 1 (rowsI (operL o))).low (by simp)
end
end Go.VX.Seat
end
section
set_option linter.unusedVariables false
set_option linter.unusedSimpArgs false
set_option maxRecDepth 4000
/-! Machines: Check, Class, Latency, Bank. (In part printed by program: m1.py) -/
namespace Go.VX.Seat
open Go.Proofs
structure MachV where
  u0 : Int
  u1 : Int
  u2 : Int
  u3 : Int
  l0 : Int
  l1 : Int
  l2 : Int
  l3 : Int
  regs : Int
  banks : Int
  ports : Int
  deriving DecidableEq
def MachV.row (m : MachV) : List AV := [iA m.u0, iA m.u1, iA m.u2, iA m.u3, iA m.l0, iA m.l1, iA m.l2, iA m.l3, iA m.regs, iA m.banks, iA m.ports]
def inB (n lo hi : Int) : Bool := decide (lo ≤ n) && decide (n ≤ hi)
def okM (m : MachV) : Bool := inB m.u0 1 8 && inB m.l0 1 8 && inB m.u1 1 8 && inB m.l1 1 8 && inB m.u2 1 8 && inB m.l2 1 8 && inB m.u3 1 8 && inB m.l3 1 8 && inB m.regs 1 4096 && inB m.banks 1 8 && inB m.ports 4 32
def chkM (m : MachV) : Int := if okM m then 0 else 2
def MachV.us (m : MachV) : List Int := [m.u0, m.u1, m.u2, m.u3]
def MachV.ls (m : MachV) : List Int := [m.l0, m.l1, m.l2, m.l3]
theorem inB_iff {n lo hi : Int} : inB n lo hi = true ↔ lo ≤ n ∧ n ≤ hi := by simp [inB]
def outK (k : Int) : Bool := decide (k = 26) || decide (k = 27) || decide (k = 28)
def hasCls (k : Int) : Bool := outK k || oneK k
def clsM (k : Int) : Int := if outK k then 3 else classK k
theorem errK_eq (k : Int) : decide (errK k = 0) = oneK k := by
  unfold errK
  cases oneK k <;> rfl
section
variable {X : Cx} {st : St}
theorem j_machine_in (h : On X) (n lo hi : Int) : J X.P X.F X.H (.call 42 [iA n, iA lo, iA hi] st (.ret (bA (inB n lo hi))) st) := by
  refine pure_intro (by rw [h.F]; rfl) rfl ?_
  unfold inB
  simp only [v_machine_in, kB, kZ, kD, fillA, partsEv, zeroes, Nat.reduceSub, Int.reduceToNat, Nat.reduceMul, asInt?, asNat?, Int.reduceAdd, Int.reduceLE, Int.reduceLT, Int.reduceNeg, Nat.reduceLeDiff, VOpd.ev, Nat.reduceEqDiff, Nat.reduceAdd, reduceIte, reduceCtorEq, splice, resOf, tupOf, cellsV, AV.toV, AV.cell?, cellVal]
  cases hc : decide (lo ≤ n) <;> simp only [hc, kB, kZ, kD, fillA, partsEv, zeroes, Nat.reduceSub, Int.reduceToNat, Nat.reduceMul, asInt?, asNat?, Int.reduceAdd, Int.reduceLE, Int.reduceLT, Int.reduceNeg, Nat.reduceLeDiff, VOpd.ev, Nat.reduceEqDiff, Nat.reduceAdd, reduceIte, reduceCtorEq, splice, resOf, tupOf, cellsV, AV.toV, AV.cell?, cellVal]
  all_goals first | exact ⟨_, rfl⟩ | exact ⟨rfl, _, rfl⟩ | exact ⟨trivial, _, rfl⟩ | exact ⟨[], (List.append_nil _).symm⟩
theorem j_machine_Class (h : On X) (hg : GlobAt st) (k : Int) : J X.P X.F X.H (.call 21 [iA k] st (.ret (.tup [iA (clsM k), bA (hasCls k)])) st) := by
  refine pure_intro (by rw [h.F]; rfl) rfl ?_
  unfold hasCls clsM outK
  simp only [v_machine_Class, kB, kZ, kD, fillA, partsEv, zeroes, Nat.reduceSub, Int.reduceToNat, Nat.reduceMul, asInt?, asNat?, Int.reduceAdd, Int.reduceLE, Int.reduceLT, Int.reduceNeg, Nat.reduceLeDiff, VOpd.ev, Nat.reduceEqDiff, Nat.reduceAdd, reduceIte, reduceCtorEq, splice, resOf, tupOf, cellsV, AV.toV, AV.cell?, cellVal]
  cases h1 : decide (k = 26)
  · simp only [h1, kB, kZ, kD, fillA, partsEv, zeroes, Nat.reduceSub, Int.reduceToNat, Nat.reduceMul, asInt?, asNat?, Int.reduceAdd, Int.reduceLE, Int.reduceLT, Int.reduceNeg, Nat.reduceLeDiff, VOpd.ev, Nat.reduceEqDiff, Nat.reduceAdd, reduceIte, reduceCtorEq, splice, resOf, tupOf, cellsV, AV.toV, AV.cell?, cellVal]
    cases h2 : decide (k = 27)
    · simp only [h2, kB, kZ, kD, fillA, partsEv, zeroes, Nat.reduceSub, Int.reduceToNat, Nat.reduceMul, asInt?, asNat?, Int.reduceAdd, Int.reduceLE, Int.reduceLT, Int.reduceNeg, Nat.reduceLeDiff, VOpd.ev, Nat.reduceEqDiff, Nat.reduceAdd, reduceIte, reduceCtorEq, splice, resOf, tupOf, cellsV, AV.toV, AV.cell?, cellVal]
      cases h3 : decide (k = 28)
      · simp only [h3, kB, kZ, kD, fillA, partsEv, zeroes, Nat.reduceSub, Int.reduceToNat, Nat.reduceMul, asInt?, asNat?, Int.reduceAdd, Int.reduceLE, Int.reduceLT, Int.reduceNeg, Nat.reduceLeDiff, VOpd.ev, Nat.reduceEqDiff, Nat.reduceAdd, reduceIte, reduceCtorEq, splice, resOf, tupOf, cellsV, AV.toV, AV.cell?, cellVal]
        refine callO_same (j_code_Class h (hg.ext (Ext.of _ _)) k) ?_
        simp only [errK_eq, kB, kZ, kD, fillA, partsEv, zeroes, Nat.reduceSub, Int.reduceToNat, Nat.reduceMul, asInt?, asNat?, Int.reduceAdd, Int.reduceLE, Int.reduceLT, Int.reduceNeg, Nat.reduceLeDiff, VOpd.ev, Nat.reduceEqDiff, Nat.reduceAdd, reduceIte, reduceCtorEq, splice, resOf, tupOf, cellsV, AV.toV, AV.cell?, cellVal]
        first | exact ⟨_, rfl⟩ | exact ⟨rfl, _, rfl⟩ | exact ⟨trivial, _, rfl⟩ | exact ⟨[], (List.append_nil _).symm⟩
      · simp only [h3, kB, kZ, kD, fillA, partsEv, zeroes, Nat.reduceSub, Int.reduceToNat, Nat.reduceMul, asInt?, asNat?, Int.reduceAdd, Int.reduceLE, Int.reduceLT, Int.reduceNeg, Nat.reduceLeDiff, VOpd.ev, Nat.reduceEqDiff, Nat.reduceAdd, reduceIte, reduceCtorEq, splice, resOf, tupOf, cellsV, AV.toV, AV.cell?, cellVal]
        first | exact ⟨_, rfl⟩ | exact ⟨rfl, _, rfl⟩ | exact ⟨trivial, _, rfl⟩ | exact ⟨[], (List.append_nil _).symm⟩
    · simp only [h2, kB, kZ, kD, fillA, partsEv, zeroes, Nat.reduceSub, Int.reduceToNat, Nat.reduceMul, asInt?, asNat?, Int.reduceAdd, Int.reduceLE, Int.reduceLT, Int.reduceNeg, Nat.reduceLeDiff, VOpd.ev, Nat.reduceEqDiff, Nat.reduceAdd, reduceIte, reduceCtorEq, splice, resOf, tupOf, cellsV, AV.toV, AV.cell?, cellVal]
      first | exact ⟨_, rfl⟩ | exact ⟨rfl, _, rfl⟩ | exact ⟨trivial, _, rfl⟩ | exact ⟨[], (List.append_nil _).symm⟩
  · simp only [h1, kB, kZ, kD, fillA, partsEv, zeroes, Nat.reduceSub, Int.reduceToNat, Nat.reduceMul, asInt?, asNat?, Int.reduceAdd, Int.reduceLE, Int.reduceLT, Int.reduceNeg, Nat.reduceLeDiff, VOpd.ev, Nat.reduceEqDiff, Nat.reduceAdd, reduceIte, reduceCtorEq, splice, resOf, tupOf, cellsV, AV.toV, AV.cell?, cellVal]
    first | exact ⟨_, rfl⟩ | exact ⟨rfl, _, rfl⟩ | exact ⟨trivial, _, rfl⟩ | exact ⟨[], (List.append_nil _).symm⟩
theorem j_machine_Check (h : On X) (m : MachV) : J X.P X.F X.H (.call 27 [.agg m.row] st (.ret (iA (chkM m))) st) := by
  refine pure_intro (by rw [h.F]; rfl) rfl ?_
  have w1 : IntKind.wrap .i64 (0 + 1) = 1 := rfl
  have w2 : IntKind.wrap .i64 (1 + 1) = 2 := rfl
  have w3 : IntKind.wrap .i64 (2 + 1) = 3 := rfl
  have w4 : IntKind.wrap .i64 (3 + 1) = 4 := rfl
  simp only [v_machine_Check, MachV.row, kB, kZ, kD, fillA, partsEv, zeroes, Nat.reduceSub, Int.reduceToNat, Nat.reduceMul, asInt?, asNat?, Int.reduceAdd, Int.reduceLE, Int.reduceLT, Int.reduceNeg, Nat.reduceLeDiff, VOpd.ev, Nat.reduceEqDiff, Nat.reduceAdd, reduceIte, reduceCtorEq, splice, resOf, tupOf, cellsV, AV.toV, AV.cell?, cellVal]
  refine loop_unroll ?_
  simp only [kB, kZ, kD, fillA, partsEv, zeroes, Nat.reduceSub, Int.reduceToNat, Nat.reduceMul, asInt?, asNat?, Int.reduceAdd, Int.reduceLE, Int.reduceLT, Int.reduceNeg, Nat.reduceLeDiff, VOpd.ev, Nat.reduceEqDiff, Nat.reduceAdd, reduceIte, reduceCtorEq, splice, resOf, tupOf, cellsV, AV.toV, AV.cell?, cellVal]
  refine callO_same (j_machine_in h _ _ _) ?_
  cases h_u0 : inB m.u0 1 8
  · have e : chkM m = 2 := by unfold chkM okM; simp only [h_u0, Bool.false_and, Bool.and_false, Bool.false_eq_true, if_false]
    simp only [h_u0, e, w1, w2, w3, w4, kB, kZ, kD, fillA, partsEv, zeroes, Nat.reduceSub, Int.reduceToNat, Nat.reduceMul, asInt?, asNat?, Int.reduceAdd, Int.reduceLE, Int.reduceLT, Int.reduceNeg, Nat.reduceLeDiff, VOpd.ev, Nat.reduceEqDiff, Nat.reduceAdd, reduceIte, reduceCtorEq, splice, resOf, tupOf, cellsV, AV.toV, AV.cell?, cellVal]
    first | exact ⟨_, rfl⟩ | exact ⟨rfl, _, rfl⟩ | exact ⟨trivial, _, rfl⟩ | exact ⟨[], (List.append_nil _).symm⟩
  simp only [h_u0, w1, w2, w3, w4, kB, kZ, kD, fillA, partsEv, zeroes, Nat.reduceSub, Int.reduceToNat, Nat.reduceMul, asInt?, asNat?, Int.reduceAdd, Int.reduceLE, Int.reduceLT, Int.reduceNeg, Nat.reduceLeDiff, VOpd.ev, Nat.reduceEqDiff, Nat.reduceAdd, reduceIte, reduceCtorEq, splice, resOf, tupOf, cellsV, AV.toV, AV.cell?, cellVal]
  refine callO_same (j_machine_in h _ _ _) ?_
  cases h_l0 : inB m.l0 1 8
  · have e : chkM m = 2 := by unfold chkM okM; simp only [h_l0, Bool.false_and, Bool.and_false, Bool.false_eq_true, if_false]
    simp only [h_l0, e, w1, w2, w3, w4, kB, kZ, kD, fillA, partsEv, zeroes, Nat.reduceSub, Int.reduceToNat, Nat.reduceMul, asInt?, asNat?, Int.reduceAdd, Int.reduceLE, Int.reduceLT, Int.reduceNeg, Nat.reduceLeDiff, VOpd.ev, Nat.reduceEqDiff, Nat.reduceAdd, reduceIte, reduceCtorEq, splice, resOf, tupOf, cellsV, AV.toV, AV.cell?, cellVal]
    first | exact ⟨_, rfl⟩ | exact ⟨rfl, _, rfl⟩ | exact ⟨trivial, _, rfl⟩ | exact ⟨[], (List.append_nil _).symm⟩
  simp only [h_l0, w1, w2, w3, w4, kB, kZ, kD, fillA, partsEv, zeroes, Nat.reduceSub, Int.reduceToNat, Nat.reduceMul, asInt?, asNat?, Int.reduceAdd, Int.reduceLE, Int.reduceLT, Int.reduceNeg, Nat.reduceLeDiff, VOpd.ev, Nat.reduceEqDiff, Nat.reduceAdd, reduceIte, reduceCtorEq, splice, resOf, tupOf, cellsV, AV.toV, AV.cell?, cellVal]
  refine loop_unroll ?_
  simp only [kB, kZ, kD, fillA, partsEv, zeroes, Nat.reduceSub, Int.reduceToNat, Nat.reduceMul, asInt?, asNat?, Int.reduceAdd, Int.reduceLE, Int.reduceLT, Int.reduceNeg, Nat.reduceLeDiff, VOpd.ev, Nat.reduceEqDiff, Nat.reduceAdd, reduceIte, reduceCtorEq, splice, resOf, tupOf, cellsV, AV.toV, AV.cell?, cellVal]
  refine callO_same (j_machine_in h _ _ _) ?_
  cases h_u1 : inB m.u1 1 8
  · have e : chkM m = 2 := by unfold chkM okM; simp only [h_u1, Bool.false_and, Bool.and_false, Bool.false_eq_true, if_false]
    simp only [h_u1, e, w1, w2, w3, w4, kB, kZ, kD, fillA, partsEv, zeroes, Nat.reduceSub, Int.reduceToNat, Nat.reduceMul, asInt?, asNat?, Int.reduceAdd, Int.reduceLE, Int.reduceLT, Int.reduceNeg, Nat.reduceLeDiff, VOpd.ev, Nat.reduceEqDiff, Nat.reduceAdd, reduceIte, reduceCtorEq, splice, resOf, tupOf, cellsV, AV.toV, AV.cell?, cellVal]
    first | exact ⟨_, rfl⟩ | exact ⟨rfl, _, rfl⟩ | exact ⟨trivial, _, rfl⟩ | exact ⟨[], (List.append_nil _).symm⟩
  simp only [h_u1, w1, w2, w3, w4, kB, kZ, kD, fillA, partsEv, zeroes, Nat.reduceSub, Int.reduceToNat, Nat.reduceMul, asInt?, asNat?, Int.reduceAdd, Int.reduceLE, Int.reduceLT, Int.reduceNeg, Nat.reduceLeDiff, VOpd.ev, Nat.reduceEqDiff, Nat.reduceAdd, reduceIte, reduceCtorEq, splice, resOf, tupOf, cellsV, AV.toV, AV.cell?, cellVal]
  refine callO_same (j_machine_in h _ _ _) ?_
  cases h_l1 : inB m.l1 1 8
  · have e : chkM m = 2 := by unfold chkM okM; simp only [h_l1, Bool.false_and, Bool.and_false, Bool.false_eq_true, if_false]
    simp only [h_l1, e, w1, w2, w3, w4, kB, kZ, kD, fillA, partsEv, zeroes, Nat.reduceSub, Int.reduceToNat, Nat.reduceMul, asInt?, asNat?, Int.reduceAdd, Int.reduceLE, Int.reduceLT, Int.reduceNeg, Nat.reduceLeDiff, VOpd.ev, Nat.reduceEqDiff, Nat.reduceAdd, reduceIte, reduceCtorEq, splice, resOf, tupOf, cellsV, AV.toV, AV.cell?, cellVal]
    first | exact ⟨_, rfl⟩ | exact ⟨rfl, _, rfl⟩ | exact ⟨trivial, _, rfl⟩ | exact ⟨[], (List.append_nil _).symm⟩
  simp only [h_l1, w1, w2, w3, w4, kB, kZ, kD, fillA, partsEv, zeroes, Nat.reduceSub, Int.reduceToNat, Nat.reduceMul, asInt?, asNat?, Int.reduceAdd, Int.reduceLE, Int.reduceLT, Int.reduceNeg, Nat.reduceLeDiff, VOpd.ev, Nat.reduceEqDiff, Nat.reduceAdd, reduceIte, reduceCtorEq, splice, resOf, tupOf, cellsV, AV.toV, AV.cell?, cellVal]
  refine loop_unroll ?_
  simp only [kB, kZ, kD, fillA, partsEv, zeroes, Nat.reduceSub, Int.reduceToNat, Nat.reduceMul, asInt?, asNat?, Int.reduceAdd, Int.reduceLE, Int.reduceLT, Int.reduceNeg, Nat.reduceLeDiff, VOpd.ev, Nat.reduceEqDiff, Nat.reduceAdd, reduceIte, reduceCtorEq, splice, resOf, tupOf, cellsV, AV.toV, AV.cell?, cellVal]
  refine callO_same (j_machine_in h _ _ _) ?_
  cases h_u2 : inB m.u2 1 8
  · have e : chkM m = 2 := by unfold chkM okM; simp only [h_u2, Bool.false_and, Bool.and_false, Bool.false_eq_true, if_false]
    simp only [h_u2, e, w1, w2, w3, w4, kB, kZ, kD, fillA, partsEv, zeroes, Nat.reduceSub, Int.reduceToNat, Nat.reduceMul, asInt?, asNat?, Int.reduceAdd, Int.reduceLE, Int.reduceLT, Int.reduceNeg, Nat.reduceLeDiff, VOpd.ev, Nat.reduceEqDiff, Nat.reduceAdd, reduceIte, reduceCtorEq, splice, resOf, tupOf, cellsV, AV.toV, AV.cell?, cellVal]
    first | exact ⟨_, rfl⟩ | exact ⟨rfl, _, rfl⟩ | exact ⟨trivial, _, rfl⟩ | exact ⟨[], (List.append_nil _).symm⟩
  simp only [h_u2, w1, w2, w3, w4, kB, kZ, kD, fillA, partsEv, zeroes, Nat.reduceSub, Int.reduceToNat, Nat.reduceMul, asInt?, asNat?, Int.reduceAdd, Int.reduceLE, Int.reduceLT, Int.reduceNeg, Nat.reduceLeDiff, VOpd.ev, Nat.reduceEqDiff, Nat.reduceAdd, reduceIte, reduceCtorEq, splice, resOf, tupOf, cellsV, AV.toV, AV.cell?, cellVal]
  refine callO_same (j_machine_in h _ _ _) ?_
  cases h_l2 : inB m.l2 1 8
  · have e : chkM m = 2 := by unfold chkM okM; simp only [h_l2, Bool.false_and, Bool.and_false, Bool.false_eq_true, if_false]
    simp only [h_l2, e, w1, w2, w3, w4, kB, kZ, kD, fillA, partsEv, zeroes, Nat.reduceSub, Int.reduceToNat, Nat.reduceMul, asInt?, asNat?, Int.reduceAdd, Int.reduceLE, Int.reduceLT, Int.reduceNeg, Nat.reduceLeDiff, VOpd.ev, Nat.reduceEqDiff, Nat.reduceAdd, reduceIte, reduceCtorEq, splice, resOf, tupOf, cellsV, AV.toV, AV.cell?, cellVal]
    first | exact ⟨_, rfl⟩ | exact ⟨rfl, _, rfl⟩ | exact ⟨trivial, _, rfl⟩ | exact ⟨[], (List.append_nil _).symm⟩
  simp only [h_l2, w1, w2, w3, w4, kB, kZ, kD, fillA, partsEv, zeroes, Nat.reduceSub, Int.reduceToNat, Nat.reduceMul, asInt?, asNat?, Int.reduceAdd, Int.reduceLE, Int.reduceLT, Int.reduceNeg, Nat.reduceLeDiff, VOpd.ev, Nat.reduceEqDiff, Nat.reduceAdd, reduceIte, reduceCtorEq, splice, resOf, tupOf, cellsV, AV.toV, AV.cell?, cellVal]
  refine loop_unroll ?_
  simp only [kB, kZ, kD, fillA, partsEv, zeroes, Nat.reduceSub, Int.reduceToNat, Nat.reduceMul, asInt?, asNat?, Int.reduceAdd, Int.reduceLE, Int.reduceLT, Int.reduceNeg, Nat.reduceLeDiff, VOpd.ev, Nat.reduceEqDiff, Nat.reduceAdd, reduceIte, reduceCtorEq, splice, resOf, tupOf, cellsV, AV.toV, AV.cell?, cellVal]
  refine callO_same (j_machine_in h _ _ _) ?_
  cases h_u3 : inB m.u3 1 8
  · have e : chkM m = 2 := by unfold chkM okM; simp only [h_u3, Bool.false_and, Bool.and_false, Bool.false_eq_true, if_false]
    simp only [h_u3, e, w1, w2, w3, w4, kB, kZ, kD, fillA, partsEv, zeroes, Nat.reduceSub, Int.reduceToNat, Nat.reduceMul, asInt?, asNat?, Int.reduceAdd, Int.reduceLE, Int.reduceLT, Int.reduceNeg, Nat.reduceLeDiff, VOpd.ev, Nat.reduceEqDiff, Nat.reduceAdd, reduceIte, reduceCtorEq, splice, resOf, tupOf, cellsV, AV.toV, AV.cell?, cellVal]
    first | exact ⟨_, rfl⟩ | exact ⟨rfl, _, rfl⟩ | exact ⟨trivial, _, rfl⟩ | exact ⟨[], (List.append_nil _).symm⟩
  simp only [h_u3, w1, w2, w3, w4, kB, kZ, kD, fillA, partsEv, zeroes, Nat.reduceSub, Int.reduceToNat, Nat.reduceMul, asInt?, asNat?, Int.reduceAdd, Int.reduceLE, Int.reduceLT, Int.reduceNeg, Nat.reduceLeDiff, VOpd.ev, Nat.reduceEqDiff, Nat.reduceAdd, reduceIte, reduceCtorEq, splice, resOf, tupOf, cellsV, AV.toV, AV.cell?, cellVal]
  refine callO_same (j_machine_in h _ _ _) ?_
  cases h_l3 : inB m.l3 1 8
  · have e : chkM m = 2 := by unfold chkM okM; simp only [h_l3, Bool.false_and, Bool.and_false, Bool.false_eq_true, if_false]
    simp only [h_l3, e, w1, w2, w3, w4, kB, kZ, kD, fillA, partsEv, zeroes, Nat.reduceSub, Int.reduceToNat, Nat.reduceMul, asInt?, asNat?, Int.reduceAdd, Int.reduceLE, Int.reduceLT, Int.reduceNeg, Nat.reduceLeDiff, VOpd.ev, Nat.reduceEqDiff, Nat.reduceAdd, reduceIte, reduceCtorEq, splice, resOf, tupOf, cellsV, AV.toV, AV.cell?, cellVal]
    first | exact ⟨_, rfl⟩ | exact ⟨rfl, _, rfl⟩ | exact ⟨trivial, _, rfl⟩ | exact ⟨[], (List.append_nil _).symm⟩
  simp only [h_l3, w1, w2, w3, w4, kB, kZ, kD, fillA, partsEv, zeroes, Nat.reduceSub, Int.reduceToNat, Nat.reduceMul, asInt?, asNat?, Int.reduceAdd, Int.reduceLE, Int.reduceLT, Int.reduceNeg, Nat.reduceLeDiff, VOpd.ev, Nat.reduceEqDiff, Nat.reduceAdd, reduceIte, reduceCtorEq, splice, resOf, tupOf, cellsV, AV.toV, AV.cell?, cellVal]
  refine loop_unroll ?_
  simp only [kB, kZ, kD, fillA, partsEv, zeroes, Nat.reduceSub, Int.reduceToNat, Nat.reduceMul, asInt?, asNat?, Int.reduceAdd, Int.reduceLE, Int.reduceLT, Int.reduceNeg, Nat.reduceLeDiff, VOpd.ev, Nat.reduceEqDiff, Nat.reduceAdd, reduceIte, reduceCtorEq, splice, resOf, tupOf, cellsV, AV.toV, AV.cell?, cellVal]
  refine callO_same (j_machine_in h _ _ _) ?_
  cases h_regs : inB m.regs 1 4096
  · have e : chkM m = 2 := by unfold chkM okM; simp only [h_regs, Bool.false_and, Bool.and_false, Bool.false_eq_true, if_false]
    simp only [h_regs, e, w1, w2, w3, w4, kB, kZ, kD, fillA, partsEv, zeroes, Nat.reduceSub, Int.reduceToNat, Nat.reduceMul, asInt?, asNat?, Int.reduceAdd, Int.reduceLE, Int.reduceLT, Int.reduceNeg, Nat.reduceLeDiff, VOpd.ev, Nat.reduceEqDiff, Nat.reduceAdd, reduceIte, reduceCtorEq, splice, resOf, tupOf, cellsV, AV.toV, AV.cell?, cellVal]
    first | exact ⟨_, rfl⟩ | exact ⟨rfl, _, rfl⟩ | exact ⟨trivial, _, rfl⟩ | exact ⟨[], (List.append_nil _).symm⟩
  simp only [h_regs, w1, w2, w3, w4, kB, kZ, kD, fillA, partsEv, zeroes, Nat.reduceSub, Int.reduceToNat, Nat.reduceMul, asInt?, asNat?, Int.reduceAdd, Int.reduceLE, Int.reduceLT, Int.reduceNeg, Nat.reduceLeDiff, VOpd.ev, Nat.reduceEqDiff, Nat.reduceAdd, reduceIte, reduceCtorEq, splice, resOf, tupOf, cellsV, AV.toV, AV.cell?, cellVal]
  refine callO_same (j_machine_in h _ _ _) ?_
  cases h_banks : inB m.banks 1 8
  · have e : chkM m = 2 := by unfold chkM okM; simp only [h_banks, Bool.false_and, Bool.and_false, Bool.false_eq_true, if_false]
    simp only [h_banks, e, w1, w2, w3, w4, kB, kZ, kD, fillA, partsEv, zeroes, Nat.reduceSub, Int.reduceToNat, Nat.reduceMul, asInt?, asNat?, Int.reduceAdd, Int.reduceLE, Int.reduceLT, Int.reduceNeg, Nat.reduceLeDiff, VOpd.ev, Nat.reduceEqDiff, Nat.reduceAdd, reduceIte, reduceCtorEq, splice, resOf, tupOf, cellsV, AV.toV, AV.cell?, cellVal]
    first | exact ⟨_, rfl⟩ | exact ⟨rfl, _, rfl⟩ | exact ⟨trivial, _, rfl⟩ | exact ⟨[], (List.append_nil _).symm⟩
  simp only [h_banks, w1, w2, w3, w4, kB, kZ, kD, fillA, partsEv, zeroes, Nat.reduceSub, Int.reduceToNat, Nat.reduceMul, asInt?, asNat?, Int.reduceAdd, Int.reduceLE, Int.reduceLT, Int.reduceNeg, Nat.reduceLeDiff, VOpd.ev, Nat.reduceEqDiff, Nat.reduceAdd, reduceIte, reduceCtorEq, splice, resOf, tupOf, cellsV, AV.toV, AV.cell?, cellVal]
  refine callO_same (j_machine_in h _ _ _) ?_
  cases h_ports : inB m.ports 4 32
  · have e : chkM m = 2 := by unfold chkM okM; simp only [h_ports, Bool.false_and, Bool.and_false, Bool.false_eq_true, if_false]
    simp only [h_ports, e, w1, w2, w3, w4, kB, kZ, kD, fillA, partsEv, zeroes, Nat.reduceSub, Int.reduceToNat, Nat.reduceMul, asInt?, asNat?, Int.reduceAdd, Int.reduceLE, Int.reduceLT, Int.reduceNeg, Nat.reduceLeDiff, VOpd.ev, Nat.reduceEqDiff, Nat.reduceAdd, reduceIte, reduceCtorEq, splice, resOf, tupOf, cellsV, AV.toV, AV.cell?, cellVal]
    first | exact ⟨_, rfl⟩ | exact ⟨rfl, _, rfl⟩ | exact ⟨trivial, _, rfl⟩ | exact ⟨[], (List.append_nil _).symm⟩
  simp only [h_ports, w1, w2, w3, w4, kB, kZ, kD, fillA, partsEv, zeroes, Nat.reduceSub, Int.reduceToNat, Nat.reduceMul, asInt?, asNat?, Int.reduceAdd, Int.reduceLE, Int.reduceLT, Int.reduceNeg, Nat.reduceLeDiff, VOpd.ev, Nat.reduceEqDiff, Nat.reduceAdd, reduceIte, reduceCtorEq, splice, resOf, tupOf, cellsV, AV.toV, AV.cell?, cellVal]
  have e : chkM m = 0 := by unfold chkM okM; simp only [h_u0, h_l0, h_u1, h_l1, h_u2, h_l2, h_u3, h_l3, h_regs, h_banks, h_ports, Bool.and_self, if_true]
  simp only [e, kB, kZ, kD, fillA, partsEv, zeroes, Nat.reduceSub, Int.reduceToNat, Nat.reduceMul, asInt?, asNat?, Int.reduceAdd, Int.reduceLE, Int.reduceLT, Int.reduceNeg, Nat.reduceLeDiff, VOpd.ev, Nat.reduceEqDiff, Nat.reduceAdd, reduceIte, reduceCtorEq, splice, resOf, tupOf, cellsV, AV.toV, AV.cell?, cellVal]
  first | exact ⟨_, rfl⟩ | exact ⟨rfl, _, rfl⟩ | exact ⟨trivial, _, rfl⟩ | exact ⟨[], (List.append_nil _).symm⟩
end
end Go.VX.Seat
end
section
set_option linter.unusedVariables false
set_option linter.unusedSimpArgs false
set_option maxRecDepth 4000
/-! Numbers in lists; machine.Reads. -/
namespace Go.VX.Seat
open Go.Proofs
def putL (acc : List Int) (x : Int) : List Int := if decide (x ∈ acc) then acc else acc ++ [x]
def onceL (l : List Int) : List Int := l.foldl putL []
def rawM (o : OpV) : List Int := if outK o.k then (if decide (o.g ≠ -1) then [o.g] else []) ++ (if decide (o.k ≠ 26) then [o.a] else []) else if oneK o.k then readL o else []
theorem putL_pos {acc : List Int} {x : Int} (h : decide (x ∈ acc) = true) : putL acc x = acc := if_pos h
theorem putL_neg {acc : List Int} {x : Int} (h : decide (x ∈ acc) = false) : putL acc x = acc ++ [x] := if_neg (by rw [h]; decide)
theorem putL_len (acc : List Int) (x : Int) : (putL acc x).length ≤ acc.length + 1 := by
  unfold putL
  split <;> simp
theorem foldl_putL_len : ∀ (l acc : List Int), (l.foldl putL acc).length ≤ acc.length + l.length
  | [], acc => by simp
  | x :: l, acc => by
    rw [List.foldl_cons, List.length_cons]
    have := foldl_putL_len l (putL acc x)
    have := putL_len acc x
    omega
theorem readL_len (o : OpV) : (readL o).length ≤ 4 := by
  have := operL_len o
  unfold readL
  cases decide (o.g ≠ -1) <;> simp <;> omega
theorem rawM_len (o : OpV) : (rawM o).length ≤ 4 := by
  have := readL_len o
  unfold rawM
  cases outK o.k
  · cases oneK o.k <;> simp <;> omega
  · cases decide (o.g ≠ -1) <;> cases decide (o.k ≠ 26) <;> simp
section
variable {X : Cx} {st : St}
theorem not_mem_take {l : List Int} {n : Int} (h : ∀ j (hj : j < l.length), l[j] ≠ n) : n ∉ l := fun hm => by
  obtain ⟨i, hi, e⟩ := List.getElem_of_mem hm
  exact h i hi e
theorem j_slices_Index_int (h : On X) {lo hi : Nat} {v : AV} {l : List Int} (hv : IntsAt st lo hi v l) (n : Int) (hlen : (l.length : Int) < 4611686018427387904) :
    wpF X 57 [v, iA n] st fun r s => s = st ∧ ∃ i : Int, r = .ret (iA i) ∧ decide (0 ≤ i) = decide (n ∈ l) := by
  suffices hs : ∃ i : Int, (decide (0 ≤ i) = decide (n ∈ l)) ∧ J X.P X.F X.H (.call 57 [v, iA n] st (.ret (iA i)) st) by
    obtain ⟨i, h1, h2⟩ := hs
    exact ⟨_, _, h2, rfl, i, rfl, h1⟩
  by_cases hm : n ∈ l
  · obtain ⟨k, hk, hkn, hkb⟩ : ∃ k, ∃ hk : k < l.length, l[k] = n ∧ ∀ j (hj : j < l.length), j < k → l[j] ≠ n := by
      clear hv hlen
      induction l with
      | nil => cases hm
      | cons a r ih =>
        by_cases ha : a = n
        · exact ⟨0, by simp, by simpa using ha, fun j _ hj => absurd hj (by omega)⟩
        · have hm' : n ∈ r := by
            rcases List.mem_cons.1 hm with h | h
            · exact absurd h.symm ha
            · exact h
          obtain ⟨k, hk, h1, h2⟩ := ih hm'
          refine ⟨k + 1, by simpa using hk, by simpa using h1, fun j hj hjk => ?_⟩
          cases j with
          | zero => simpa using ha
          | succ j => simpa using h2 j (by simpa using hj) (by omega)
    refine ⟨k, by rw [decide_eq_true hm]; exact decide_eq_true (by omega), ?_⟩
    refine pure_intro (by rw [h.F]; rfl) rfl ?_
    have l1 := hv.len
    simp only [List.length_map] at l1
    simp only [v_slices_Index_int, l1, kB, kZ, kD, fillA, partsEv, zeroes, Nat.reduceSub, Int.reduceToNat, Nat.reduceMul, asInt?, asNat?, Int.reduceAdd, Int.reduceLE, Int.reduceLT, Int.reduceNeg, Nat.reduceLeDiff, VOpd.ev, Nat.reduceEqDiff, Nat.reduceAdd, reduceIte, reduceCtorEq, splice, resOf, tupOf, cellsV, AV.toV, AV.cell?, cellVal]
    refine loop_live [0, 1, 7] (fun m e => ∃ i : Nat, i + m = l.length ∧ e 8 = iA i ∧ i ≤ k) l.length ?_ ?_
    · exact ⟨0, by omega, by simp only [kB, kZ, kD, fillA, partsEv, zeroes, Nat.reduceSub, Int.reduceToNat, Nat.reduceMul, asInt?, asNat?, Int.reduceAdd, Int.reduceLE, Int.reduceLT, Int.reduceNeg, Nat.reduceLeDiff, VOpd.ev, Nat.reduceEqDiff, Nat.reduceAdd, reduceIte, reduceCtorEq, splice, resOf, tupOf, cellsV, AV.toV, AV.cell?, cellVal], by omega⟩
    · intro m e hL ⟨i, him, h5, hik⟩
      simp only [kB, kZ, kD, fillA, partsEv, zeroes, Nat.reduceSub, Int.reduceToNat, Nat.reduceMul, asInt?, asNat?, Int.reduceAdd, Int.reduceLE, Int.reduceLT, Int.reduceNeg, Nat.reduceLeDiff, VOpd.ev, Nat.reduceEqDiff, Nat.reduceAdd, reduceIte, reduceCtorEq, splice, resOf, tupOf, cellsV, AV.toV, AV.cell?, cellVal] at hL
      obtain ⟨h0, h1, h7⟩ := hL
      simp only [h0, h1, h7, h5, kB, kZ, kD, fillA, partsEv, zeroes, Nat.reduceSub, Int.reduceToNat, Nat.reduceMul, asInt?, asNat?, Int.reduceAdd, Int.reduceLE, Int.reduceLT, Int.reduceNeg, Nat.reduceLeDiff, VOpd.ev, Nat.reduceEqDiff, Nat.reduceAdd, reduceIte, reduceCtorEq, splice, resOf, tupOf, cellsV, AV.toV, AV.cell?, cellVal]
      have hc : decide ((i : Int) < (l.length : Int)) = true := decide_eq_true (by omega)
      obtain ⟨b1, o1, he1, _, ha1, _⟩ := hv.get i (by simp; omega)
      have a1 := ha1 [] 0 (by omega)
      simp only [List.getElem_map, Nat.add_zero, List.getElem?_cons_zero] at a1
      simp only [hc, h0, h1, h7, h5, he1, a1, kB, kZ, kD, fillA, partsEv, zeroes, Nat.reduceSub, Int.reduceToNat, Nat.reduceMul, asInt?, asNat?, Int.reduceAdd, Int.reduceLE, Int.reduceLT, Int.reduceNeg, Nat.reduceLeDiff, VOpd.ev, Nat.reduceEqDiff, Nat.reduceAdd, reduceIte, reduceCtorEq, splice, resOf, tupOf, cellsV, AV.toV, AV.cell?, cellVal]
      refine condO_intro ?_ ?_ <;> intro hq
      · have hq := of_decide_eq_true hq
        have : i = k := by
          rcases Nat.lt_or_ge i k with h | h
          · exact absurd hq.symm (hkb i (by omega) h)
          · omega
        subst this
        simp only [h5, kB, kZ, kD, fillA, partsEv, zeroes, Nat.reduceSub, Int.reduceToNat, Nat.reduceMul, asInt?, asNat?, Int.reduceAdd, Int.reduceLE, Int.reduceLT, Int.reduceNeg, Nat.reduceLeDiff, VOpd.ev, Nat.reduceEqDiff, Nat.reduceAdd, reduceIte, reduceCtorEq, splice, resOf, tupOf, cellsV, AV.toV, AV.cell?, cellVal]
        first | exact ⟨_, rfl⟩ | exact ⟨rfl, _, rfl⟩ | exact ⟨trivial, _, rfl⟩ | exact ⟨[], (List.append_nil _).symm⟩
      · have hq := of_decide_eq_false hq
        have hne : i ≠ k := fun e => hq (by subst e; exact hkn.symm)
        simp only [h0, h1, h7, h5, kB, kZ, kD, fillA, partsEv, zeroes, Nat.reduceSub, Int.reduceToNat, Nat.reduceMul, asInt?, asNat?, Int.reduceAdd, Int.reduceLE, Int.reduceLT, Int.reduceNeg, Nat.reduceLeDiff, VOpd.ev, Nat.reduceEqDiff, Nat.reduceAdd, reduceIte, reduceCtorEq, splice, resOf, tupOf, cellsV, AV.toV, AV.cell?, cellVal]
        rw [wrap_small (by omega) (by omega)]
        exact ⟨m - 1, by omega, i + 1, by omega, by simp, by omega⟩
  · refine ⟨-1, by rw [decide_eq_false hm]; rfl, ?_⟩
    refine pure_intro (by rw [h.F]; rfl) rfl ?_
    have l1 := hv.len
    simp only [List.length_map] at l1
    simp only [v_slices_Index_int, l1, kB, kZ, kD, fillA, partsEv, zeroes, Nat.reduceSub, Int.reduceToNat, Nat.reduceMul, asInt?, asNat?, Int.reduceAdd, Int.reduceLE, Int.reduceLT, Int.reduceNeg, Nat.reduceLeDiff, VOpd.ev, Nat.reduceEqDiff, Nat.reduceAdd, reduceIte, reduceCtorEq, splice, resOf, tupOf, cellsV, AV.toV, AV.cell?, cellVal]
    refine loop_live [0, 1, 7] (fun m e => ∃ i : Nat, i + m = l.length ∧ e 8 = iA i) l.length ?_ ?_
    · exact ⟨0, by omega, by simp only [kB, kZ, kD, fillA, partsEv, zeroes, Nat.reduceSub, Int.reduceToNat, Nat.reduceMul, asInt?, asNat?, Int.reduceAdd, Int.reduceLE, Int.reduceLT, Int.reduceNeg, Nat.reduceLeDiff, VOpd.ev, Nat.reduceEqDiff, Nat.reduceAdd, reduceIte, reduceCtorEq, splice, resOf, tupOf, cellsV, AV.toV, AV.cell?, cellVal]⟩
    · intro m e hL ⟨i, him, h5⟩
      simp only [kB, kZ, kD, fillA, partsEv, zeroes, Nat.reduceSub, Int.reduceToNat, Nat.reduceMul, asInt?, asNat?, Int.reduceAdd, Int.reduceLE, Int.reduceLT, Int.reduceNeg, Nat.reduceLeDiff, VOpd.ev, Nat.reduceEqDiff, Nat.reduceAdd, reduceIte, reduceCtorEq, splice, resOf, tupOf, cellsV, AV.toV, AV.cell?, cellVal] at hL
      obtain ⟨h0, h1, h7⟩ := hL
      simp only [h0, h1, h7, h5, kB, kZ, kD, fillA, partsEv, zeroes, Nat.reduceSub, Int.reduceToNat, Nat.reduceMul, asInt?, asNat?, Int.reduceAdd, Int.reduceLE, Int.reduceLT, Int.reduceNeg, Nat.reduceLeDiff, VOpd.ev, Nat.reduceEqDiff, Nat.reduceAdd, reduceIte, reduceCtorEq, splice, resOf, tupOf, cellsV, AV.toV, AV.cell?, cellVal]
      refine condO_intro ?_ ?_ <;> intro hc <;> simp only [kB, kZ, kD, fillA, partsEv, zeroes, Nat.reduceSub, Int.reduceToNat, Nat.reduceMul, asInt?, asNat?, Int.reduceAdd, Int.reduceLE, Int.reduceLT, Int.reduceNeg, Nat.reduceLeDiff, VOpd.ev, Nat.reduceEqDiff, Nat.reduceAdd, reduceIte, reduceCtorEq, splice, resOf, tupOf, cellsV, AV.toV, AV.cell?, cellVal]
      · have hi : i < l.length := by have := of_decide_eq_true hc; omega
        obtain ⟨b1, o1, he1, _, ha1, _⟩ := hv.get i (by simpa using hi)
        have a1 := ha1 [] 0 (by omega)
        simp only [List.getElem_map, Nat.add_zero, List.getElem?_cons_zero] at a1
        have hq : decide (n = l[i]) = false := decide_eq_false fun e => hm (by rw [e]; exact List.getElem_mem hi)
        simp only [h0, h1, h7, h5, he1, a1, hq, kB, kZ, kD, fillA, partsEv, zeroes, Nat.reduceSub, Int.reduceToNat, Nat.reduceMul, asInt?, asNat?, Int.reduceAdd, Int.reduceLE, Int.reduceLT, Int.reduceNeg, Nat.reduceLeDiff, VOpd.ev, Nat.reduceEqDiff, Nat.reduceAdd, reduceIte, reduceCtorEq, splice, resOf, tupOf, cellsV, AV.toV, AV.cell?, cellVal]
        rw [wrap_small (by omega) (by omega)]
        exact ⟨m - 1, by omega, i + 1, by omega, by simp⟩
      · first | exact ⟨_, rfl⟩ | exact ⟨rfl, _, rfl⟩ | exact ⟨trivial, _, rfl⟩ | exact ⟨[], (List.append_nil _).symm⟩
theorem j_Contains (h : On X) {lo hi : Nat} {v : AV} {l : List Int} (hv : IntsAt st lo hi v l) (n : Int) (hlen : (l.length : Int) < 4611686018427387904) :
    J X.P X.F X.H (.call 44 [v, iA n] st (.ret (bA (decide (n ∈ l)))) st) := by
  refine pure_intro (by rw [h.F]; rfl) rfl ?_
  have hm := fun L => ArrAt.mono hv L
  simp only [v_slices_Contains_int, kB, kZ, kD, fillA, partsEv, zeroes, Nat.reduceSub, Int.reduceToNat, Nat.reduceMul, asInt?, asNat?, Int.reduceAdd, Int.reduceLE, Int.reduceLT, Int.reduceNeg, Nat.reduceLeDiff, VOpd.ev, Nat.reduceEqDiff, Nat.reduceAdd, reduceIte, reduceCtorEq, splice, resOf, tupOf, cellsV, AV.toV, AV.cell?, cellVal]
  refine wpF.mono (j_slices_Index_int h (hm []) n hlen) ?_
  rintro r s ⟨rfl, i, rfl, hd⟩
  refine ⟨keptA_nil _ _ _, ?_⟩
  simp only [hd, kB, kZ, kD, fillA, partsEv, zeroes, Nat.reduceSub, Int.reduceToNat, Nat.reduceMul, asInt?, asNat?, Int.reduceAdd, Int.reduceLE, Int.reduceLT, Int.reduceNeg, Nat.reduceLeDiff, VOpd.ev, Nat.reduceEqDiff, Nat.reduceAdd, reduceIte, reduceCtorEq, splice, resOf, tupOf, cellsV, AV.toV, AV.cell?, cellVal]
  first | exact ⟨_, rfl⟩ | exact ⟨rfl, _, rfl⟩ | exact ⟨trivial, _, rfl⟩ | exact ⟨[], (List.append_nil _).symm⟩
theorem j_code_Reads_bad (h : On X) (hg : GlobAt st) (o : OpV) (ho : oneK o.k = false) :
    J X.P X.F X.H (.call 43 [.agg o.row] st (.ret (.tup [.sc (.slice none 0 0), iA 4])) st) := by
  refine pure_intro (by rw [h.F]; rfl) rfl ?_
  simp only [v_code_Reads, OpV.row, kB, kZ, kD, fillA, partsEv, zeroes, Nat.reduceSub, Int.reduceToNat, Nat.reduceMul, asInt?, asNat?, Int.reduceAdd, Int.reduceLE, Int.reduceLT, Int.reduceNeg, Nat.reduceLeDiff, VOpd.ev, Nat.reduceEqDiff, Nat.reduceAdd, reduceIte, reduceCtorEq, splice, resOf, tupOf, cellsV, AV.toV, AV.cell?, cellVal]
  refine callO_same (j_code_of h (hg.ext (Ext.of _ _)) o.k) ?_
  simp only [ho, kB, kZ, kD, fillA, partsEv, zeroes, Nat.reduceSub, Int.reduceToNat, Nat.reduceMul, asInt?, asNat?, Int.reduceAdd, Int.reduceLE, Int.reduceLT, Int.reduceNeg, Nat.reduceLeDiff, VOpd.ev, Nat.reduceEqDiff, Nat.reduceAdd, reduceIte, reduceCtorEq, splice, resOf, tupOf, cellsV, AV.toV, AV.cell?, cellVal]
  first | exact ⟨_, rfl⟩ | exact ⟨rfl, _, rfl⟩ | exact ⟨trivial, _, rfl⟩ | exact ⟨[], (List.append_nil _).symm⟩
theorem w_code_Reads' (h : On X) (hg : GlobAt st) (o : OpV) :
    wpF X 43 [.agg o.row] st fun r s => ∃ w m, r = .ret (.tup [w, iA (errK o.k)]) ∧ s = st ++ m ∧ OwnS s st.length w 1 (rowsI (if oneK o.k then readL o else [])) := by
  cases ho : oneK o.k
  · refine ⟨_, _, j_code_Reads_bad h hg o ho, _, [], by simp only [errK, ho]; rfl, by simp, own_nil _ _ _⟩
  · refine wpF.mono (w_code_Reads h hg o ho) ?_
    rintro r s ⟨w, m, rfl, rfl, h1⟩
    exact ⟨w, m, by simp only [errK, ho]; rfl, rfl, h1⟩
theorem w_machine_Reads (h : On X) (hg : GlobAt st) (o : OpV) :
    wpF X 25 [.agg o.row] st fun r s => ∃ w m, r = .ret w ∧ s = st ++ m ∧ OwnS s st.length w 1 (rowsI (onceL (rawM o))) := by
  refine wpF_go (fn := v_machine_Reads) (by rw [h.F]; rfl) ?_
  have hrl := rawM_len o
  simp only [v_machine_Reads, OpV.row, kB, kZ, kD, fillA, partsEv, zeroes, Nat.reduceSub, Int.reduceToNat, Nat.reduceMul, asInt?, asNat?, Int.reduceAdd, Int.reduceLE, Int.reduceLT, Int.reduceNeg, Nat.reduceLeDiff, VOpd.ev, Nat.reduceEqDiff, Nat.reduceAdd, reduceIte, reduceCtorEq, splice, resOf, tupOf, cellsV, AV.toV, AV.cell?, cellVal]
  refine anyCond m0 (fun e s => s = st ++ [⟨[iA o.k, iA o.d, iA o.a, iA o.b, iA o.c, iA o.n, iA o.g], 0, 0⟩] ∧ e 1 = .ptr (st.length + 0) 0 ∧ e 3 = .sc (.slice none 0 0) ∧ e 14 = bA (outK o.k)) ?_ ?_
  · unfold outK
    cases h1 : decide (o.k = 26)
    · simp only [h1, kB, kZ, kD, fillA, partsEv, zeroes, Nat.reduceSub, Int.reduceToNat, Nat.reduceMul, asInt?, asNat?, Int.reduceAdd, Int.reduceLE, Int.reduceLT, Int.reduceNeg, Nat.reduceLeDiff, VOpd.ev, Nat.reduceEqDiff, Nat.reduceAdd, reduceIte, reduceCtorEq, splice, resOf, tupOf, cellsV, AV.toV, AV.cell?, cellVal]
      cases h2 : decide (o.k = 27)
      · simp only [h2, kB, kZ, kD, fillA, partsEv, zeroes, Nat.reduceSub, Int.reduceToNat, Nat.reduceMul, asInt?, asNat?, Int.reduceAdd, Int.reduceLE, Int.reduceLT, Int.reduceNeg, Nat.reduceLeDiff, VOpd.ev, Nat.reduceEqDiff, Nat.reduceAdd, reduceIte, reduceCtorEq, splice, resOf, tupOf, cellsV, AV.toV, AV.cell?, cellVal]
      · simp only [h2, kB, kZ, kD, fillA, partsEv, zeroes, Nat.reduceSub, Int.reduceToNat, Nat.reduceMul, asInt?, asNat?, Int.reduceAdd, Int.reduceLE, Int.reduceLT, Int.reduceNeg, Nat.reduceLeDiff, VOpd.ev, Nat.reduceEqDiff, Nat.reduceAdd, reduceIte, reduceCtorEq, splice, resOf, tupOf, cellsV, AV.toV, AV.cell?, cellVal]
    · simp only [h1, kB, kZ, kD, fillA, partsEv, zeroes, Nat.reduceSub, Int.reduceToNat, Nat.reduceMul, asInt?, asNat?, Int.reduceAdd, Int.reduceLE, Int.reduceLT, Int.reduceNeg, Nat.reduceLeDiff, VOpd.ev, Nat.reduceEqDiff, Nat.reduceAdd, reduceIte, reduceCtorEq, splice, resOf, tupOf, cellsV, AV.toV, AV.cell?, cellVal]
  rintro e s ⟨rfl, k1, k3, k14⟩
  simp only [k1, k3, k14, kB, kZ, kD, fillA, partsEv, zeroes, Nat.reduceSub, Int.reduceToNat, Nat.reduceMul, asInt?, asNat?, Int.reduceAdd, Int.reduceLE, Int.reduceLT, Int.reduceNeg, Nat.reduceLeDiff, VOpd.ev, Nat.reduceEqDiff, Nat.reduceAdd, reduceIte, reduceCtorEq, splice, resOf, tupOf, cellsV, AV.toV, AV.cell?, cellVal]
  refine anyCond (mB m0) (fun e s => ∃ (L : St) (w : AV), s = st ++ (⟨[iA o.k, iA o.d, iA o.a, iA o.b, iA o.c, iA o.n, iA o.g], 0, 0⟩ :: L) ∧ e 3 = w ∧ OwnS s (st.length + 1) w 1 (rowsI (rawM o))) ?_ ?_
  · refine condO_intro ?_ ?_ <;> intro hc
    · have hraw : rawM o = (if decide (o.g ≠ -1) then [o.g] else []) ++ (if decide (o.k ≠ 26) then [o.a] else []) := by unfold rawM; simp only [hc, if_true]
      rw [hraw]
      simp only [k1, k3, k14, kB, kZ, kD, fillA, partsEv, zeroes, Nat.reduceSub, Int.reduceToNat, Nat.reduceMul, asInt?, asNat?, Int.reduceAdd, Int.reduceLE, Int.reduceLT, Int.reduceNeg, Nat.reduceLeDiff, VOpd.ev, Nat.reduceEqDiff, Nat.reduceAdd, reduceIte, reduceCtorEq, splice, resOf, tupOf, cellsV, AV.toV, AV.cell?, cellVal]
      refine anyCond m0 (fun e s => ∃ (L : St) (w : AV), s = st ++ (⟨[iA o.k, iA o.d, iA o.a, iA o.b, iA o.c, iA o.n, iA o.g], 0, 0⟩ :: L) ∧ e 1 = .ptr (st.length + 0) 0 ∧ e 3 = w ∧ OwnS s (st.length + 1) w 1 (rowsI (if decide (o.g ≠ -1) then [o.g] else []))) ?_ ?_
      · refine condO_intro ?_ ?_ <;> intro hq
        · simp only [k1, k3, k14, kB, kZ, kD, fillA, partsEv, zeroes, Nat.reduceSub, Int.reduceToNat, Nat.reduceMul, asInt?, asNat?, Int.reduceAdd, Int.reduceLE, Int.reduceLT, Int.reduceNeg, Nat.reduceLeDiff, VOpd.ev, Nat.reduceEqDiff, Nat.reduceAdd, reduceIte, reduceCtorEq, splice, resOf, tupOf, cellsV, AV.toV, AV.cell?, cellVal]
          refine opR_app1 [⟨[iA o.k, iA o.d, iA o.a, iA o.b, iA o.c, iA o.n, iA o.g], 0, 0⟩] (L := ([] : St)) (w := (.sc (.slice none 0 0))) (xs := []) (by simp only [k3, kB, kZ, kD, fillA, partsEv, zeroes, Nat.reduceSub, Int.reduceToNat, Nat.reduceMul, asInt?, asNat?, Int.reduceAdd, Int.reduceLE, Int.reduceLT, Int.reduceNeg, Nat.reduceLeDiff, VOpd.ev, Nat.reduceEqDiff, Nat.reduceAdd, reduceIte, reduceCtorEq, splice, resOf, tupOf, cellsV, AV.toV, AV.cell?, cellVal]) (by simp only [kB, kZ, kD, fillA, partsEv, zeroes, Nat.reduceSub, Int.reduceToNat, Nat.reduceMul, asInt?, asNat?, Int.reduceAdd, Int.reduceLE, Int.reduceLT, Int.reduceNeg, Nat.reduceLeDiff, VOpd.ev, Nat.reduceEqDiff, Nat.reduceAdd, reduceIte, reduceCtorEq, splice, resOf, tupOf, cellsV, AV.toV, AV.cell?, cellVal]; rfl) (by simp) (own_nil _ _ _) (by simp) ?_
          intro w' L' hown'
          simp only [k1, k3, k14, kB, kZ, kD, fillA, partsEv, zeroes, Nat.reduceSub, Int.reduceToNat, Nat.reduceMul, asInt?, asNat?, Int.reduceAdd, Int.reduceLE, Int.reduceLT, Int.reduceNeg, Nat.reduceLeDiff, VOpd.ev, Nat.reduceEqDiff, Nat.reduceAdd, reduceIte, reduceCtorEq, splice, resOf, tupOf, cellsV, AV.toV, AV.cell?, cellVal]
          refine ⟨L', w', rfl, rfl, ?_⟩
          simpa [hq] using hown'
        · simp only [k1, k3, k14, hq, kB, kZ, kD, fillA, partsEv, zeroes, Nat.reduceSub, Int.reduceToNat, Nat.reduceMul, asInt?, asNat?, Int.reduceAdd, Int.reduceLE, Int.reduceLT, Int.reduceNeg, Nat.reduceLeDiff, VOpd.ev, Nat.reduceEqDiff, Nat.reduceAdd, reduceIte, reduceCtorEq, splice, resOf, tupOf, cellsV, AV.toV, AV.cell?, cellVal]
          exact ⟨([] : St), _, rfl, rfl, own_nil _ _ _⟩
      rintro e s ⟨L, w, rfl, k1, k3, hown⟩
      simp only [k1, k3, kB, kZ, kD, fillA, partsEv, zeroes, Nat.reduceSub, Int.reduceToNat, Nat.reduceMul, asInt?, asNat?, Int.reduceAdd, Int.reduceLE, Int.reduceLT, Int.reduceNeg, Nat.reduceLeDiff, VOpd.ev, Nat.reduceEqDiff, Nat.reduceAdd, reduceIte, reduceCtorEq, splice, resOf, tupOf, cellsV, AV.toV, AV.cell?, cellVal]
      refine condO_intro ?_ ?_ <;> intro hq
      · simp only [k1, k3, List.append_nil, kB, kZ, kD, fillA, partsEv, zeroes, Nat.reduceSub, Int.reduceToNat, Nat.reduceMul, asInt?, asNat?, Int.reduceAdd, Int.reduceLE, Int.reduceLT, Int.reduceNeg, Nat.reduceLeDiff, VOpd.ev, Nat.reduceEqDiff, Nat.reduceAdd, reduceIte, reduceCtorEq, splice, resOf, tupOf, cellsV, AV.toV, AV.cell?, cellVal]
        refine opR_app1 [⟨[iA o.k, iA o.d, iA o.a, iA o.b, iA o.c, iA o.n, iA o.g], 0, 0⟩] (L := L) (w := w) (xs := (if decide (o.g ≠ -1) then [o.g] else [])) (by simp only [k3, kB, kZ, kD, fillA, partsEv, zeroes, Nat.reduceSub, Int.reduceToNat, Nat.reduceMul, asInt?, asNat?, Int.reduceAdd, Int.reduceLE, Int.reduceLT, Int.reduceNeg, Nat.reduceLeDiff, VOpd.ev, Nat.reduceEqDiff, Nat.reduceAdd, reduceIte, reduceCtorEq, splice, resOf, tupOf, cellsV, AV.toV, AV.cell?, cellVal]) (by simp only [kB, kZ, kD, fillA, partsEv, zeroes, Nat.reduceSub, Int.reduceToNat, Nat.reduceMul, asInt?, asNat?, Int.reduceAdd, Int.reduceLE, Int.reduceLT, Int.reduceNeg, Nat.reduceLeDiff, VOpd.ev, Nat.reduceEqDiff, Nat.reduceAdd, reduceIte, reduceCtorEq, splice, resOf, tupOf, cellsV, AV.toV, AV.cell?, cellVal]; rfl) (by simp; omega) hown (by cases decide (o.g ≠ -1) <;> simp) ?_
        intro w' L' hown'
        simp only [k1, k3, kB, kZ, kD, fillA, partsEv, zeroes, Nat.reduceSub, Int.reduceToNat, Nat.reduceMul, asInt?, asNat?, Int.reduceAdd, Int.reduceLE, Int.reduceLT, Int.reduceNeg, Nat.reduceLeDiff, VOpd.ev, Nat.reduceEqDiff, Nat.reduceAdd, reduceIte, reduceCtorEq, splice, resOf, tupOf, cellsV, AV.toV, AV.cell?, cellVal]
        first | exact ⟨L', w', rfl, rfl, by simpa [hq] using hown'⟩ | exact ⟨L', w', rfl, by simpa [hq] using hown'⟩
      · simp only [k1, k3, List.append_nil, hq, kB, kZ, kD, fillA, partsEv, zeroes, Nat.reduceSub, Int.reduceToNat, Nat.reduceMul, asInt?, asNat?, Int.reduceAdd, Int.reduceLE, Int.reduceLT, Int.reduceNeg, Nat.reduceLeDiff, VOpd.ev, Nat.reduceEqDiff, Nat.reduceAdd, reduceIte, reduceCtorEq, splice, resOf, tupOf, cellsV, AV.toV, AV.cell?, cellVal]
        first | exact ⟨L, w, rfl, rfl, by simpa [hq] using hown⟩ | exact ⟨L, w, rfl, by simpa [hq] using hown⟩
    · have hraw : rawM o = if oneK o.k then readL o else [] := by unfold rawM; simp only [hc, Bool.false_eq_true, if_false]
      rw [hraw]
      simp only [k1, k3, k14, kB, kZ, kD, fillA, partsEv, zeroes, Nat.reduceSub, Int.reduceToNat, Nat.reduceMul, asInt?, asNat?, Int.reduceAdd, Int.reduceLE, Int.reduceLT, Int.reduceNeg, Nat.reduceLeDiff, VOpd.ev, Nat.reduceEqDiff, Nat.reduceAdd, reduceIte, reduceCtorEq, splice, resOf, tupOf, cellsV, AV.toV, AV.cell?, cellVal]
      refine wpF.mono (w_code_Reads' h (hg.ext (Ext.of _ _)) o) ?_
      rintro r s ⟨w, m, rfl, rfl, hown⟩
      refine ⟨kept_app _ _ _ _, ?_⟩
      simp only [k1, k3, k14, List.append_assoc, List.cons_append, List.nil_append, kB, kZ, kD, fillA, partsEv, zeroes, Nat.reduceSub, Int.reduceToNat, Nat.reduceMul, asInt?, asNat?, Int.reduceAdd, Int.reduceLE, Int.reduceLT, Int.reduceNeg, Nat.reduceLeDiff, VOpd.ev, Nat.reduceEqDiff, Nat.reduceAdd, reduceIte, reduceCtorEq, splice, resOf, tupOf, cellsV, AV.toV, AV.cell?, cellVal]
      have hown2 : OwnS (st ++ (⟨[iA o.k, iA o.d, iA o.a, iA o.b, iA o.c, iA o.n, iA o.g], 0, 0⟩ :: m)) (st.length + 1) w 1 (rowsI (if oneK o.k then readL o else [])) := by simpa using hown
      first | exact ⟨m, w, rfl, rfl, hown2⟩ | exact ⟨m, w, rfl, hown2⟩
  rintro e s ⟨L, w, rfl, k3, hown⟩
  have hlw := hown.arr.len
  simp only [List.length_map] at hlw
  simp only [k3, hlw, kB, kZ, kD, fillA, partsEv, zeroes, Nat.reduceSub, Int.reduceToNat, Nat.reduceMul, asInt?, asNat?, Int.reduceAdd, Int.reduceLE, Int.reduceLT, Int.reduceNeg, Nat.reduceLeDiff, VOpd.ev, Nat.reduceEqDiff, Nat.reduceAdd, reduceIte, reduceCtorEq, splice, resOf, tupOf, cellsV, AV.toV, AV.cell?, cellVal]
  generalize rawM o = raw at *
  refine loop_inv (fun n e s' => ∃ (i : Nat) (L1 : St) (w2 : AV), i + n = raw.length ∧ s' = st ++ (⟨[iA o.k, iA o.d, iA o.a, iA o.b, iA o.c, iA o.n, iA o.g], 0, 0⟩ :: (L ++ L1)) ∧ e 34 = w ∧ e 35 = iA raw.length ∧ e 36 = iA i ∧ e 4 = w2 ∧ OwnS s' (st.length + (L.length + 1)) w2 1 (rowsI ((raw.take i).foldl putL []))) ?_ raw.length ?_
  case refine_2 =>
    refine ⟨0, [], .sc (.slice none 0 0), by omega, by simp, ?_, ?_, ?_, ?_, ?_⟩
    iterate 4 (first | rfl | (simp only [kB, kZ, kD, fillA, partsEv, zeroes, Nat.reduceSub, Int.reduceToNat, Nat.reduceMul, asInt?, asNat?, Int.reduceAdd, Int.reduceLE, Int.reduceLT, Int.reduceNeg, Nat.reduceLeDiff, VOpd.ev, Nat.reduceEqDiff, Nat.reduceAdd, reduceIte, reduceCtorEq, splice, resOf, tupOf, cellsV, AV.toV, AV.cell?, cellVal]))
    exact own_nil _ _ _
  intro n e s' ⟨i, L1, w2, him, hs', q34, q35, q36, q4, hown2⟩
  subst hs'
  simp only [q34, q35, q36, q4, kB, kZ, kD, fillA, partsEv, zeroes, Nat.reduceSub, Int.reduceToNat, Nat.reduceMul, asInt?, asNat?, Int.reduceAdd, Int.reduceLE, Int.reduceLT, Int.reduceNeg, Nat.reduceLeDiff, VOpd.ev, Nat.reduceEqDiff, Nat.reduceAdd, reduceIte, reduceCtorEq, splice, resOf, tupOf, cellsV, AV.toV, AV.cell?, cellVal]
  refine condO_intro ?_ ?_ <;> intro hc
  · have hil : i < raw.length := by have := of_decide_eq_true hc; omega
    obtain ⟨b1, o1, he1, _, ha1, _⟩ := hown.arr.get i (by simpa using hil)
    have p1 := fun L => ha1 L 0 (by omega)
    simp only [List.getElem_map, Nat.add_zero, kB, kZ, kD, fillA, partsEv, zeroes, Nat.reduceSub, Int.reduceToNat, Nat.reduceMul, asInt?, asNat?, Int.reduceAdd, Int.reduceLE, Int.reduceLT, Int.reduceNeg, Nat.reduceLeDiff, VOpd.ev, Nat.reduceEqDiff, Nat.reduceAdd, reduceIte, reduceCtorEq, splice, resOf, tupOf, cellsV, AV.toV, AV.cell?, cellVal] at p1
    have p2 := p1 L1
    simp only [q34, q35, q36, q4, he1, p2, kB, kZ, kD, fillA, partsEv, zeroes, Nat.reduceSub, Int.reduceToNat, Nat.reduceMul, asInt?, asNat?, Int.reduceAdd, Int.reduceLE, Int.reduceLT, Int.reduceNeg, Nat.reduceLeDiff, VOpd.ev, Nat.reduceEqDiff, Nat.reduceAdd, reduceIte, reduceCtorEq, splice, resOf, tupOf, cellsV, AV.toV, AV.cell?, cellVal]
    have hfl : ((raw.take i).foldl putL []).length ≤ 4 := by
      have := foldl_putL_len (raw.take i) []
      simp at this
      omega
    refine callO_same (j_Contains h hown2.arr raw[i] (by omega)) ?_
    simp only [q34, q35, q36, q4, kB, kZ, kD, fillA, partsEv, zeroes, Nat.reduceSub, Int.reduceToNat, Nat.reduceMul, asInt?, asNat?, Int.reduceAdd, Int.reduceLE, Int.reduceLT, Int.reduceNeg, Nat.reduceLeDiff, VOpd.ev, Nat.reduceEqDiff, Nat.reduceAdd, reduceIte, reduceCtorEq, splice, resOf, tupOf, cellsV, AV.toV, AV.cell?, cellVal]
    have hstep : (raw.take (i + 1)).foldl putL [] = putL ((raw.take i).foldl putL []) raw[i] := by
      rw [← List.take_append_getElem hil, List.foldl_append]
      rfl
    have hwr : IntKind.wrap .i64 ((i : Int) + 1) = ((i + 1 : Nat) : Int) := by rw [wrap_small (by omega) (by omega)]; omega
    refine condO_intro ?_ ?_ <;> intro hq
    · have hq : decide (raw[i] ∈ (raw.take i).foldl putL []) = false := by simpa using hq
      simp only [q34, q35, q36, q4, List.append_nil, kB, kZ, kD, fillA, partsEv, zeroes, Nat.reduceSub, Int.reduceToNat, Nat.reduceMul, asInt?, asNat?, Int.reduceAdd, Int.reduceLE, Int.reduceLT, Int.reduceNeg, Nat.reduceLeDiff, VOpd.ev, Nat.reduceEqDiff, Nat.reduceAdd, reduceIte, reduceCtorEq, splice, resOf, tupOf, cellsV, AV.toV, AV.cell?, cellVal]
      refine opR_app1 (⟨[iA o.k, iA o.d, iA o.a, iA o.b, iA o.c, iA o.n, iA o.g], 0, 0⟩ :: L) (L := L1) (w := w2) (xs := (raw.take i).foldl putL []) (by simp only [q4, kB, kZ, kD, fillA, partsEv, zeroes, Nat.reduceSub, Int.reduceToNat, Nat.reduceMul, asInt?, asNat?, Int.reduceAdd, Int.reduceLE, Int.reduceLT, Int.reduceNeg, Nat.reduceLeDiff, VOpd.ev, Nat.reduceEqDiff, Nat.reduceAdd, reduceIte, reduceCtorEq, splice, resOf, tupOf, cellsV, AV.toV, AV.cell?, cellVal]) (by simp only [kB, kZ, kD, fillA, partsEv, zeroes, Nat.reduceSub, Int.reduceToNat, Nat.reduceMul, asInt?, asNat?, Int.reduceAdd, Int.reduceLE, Int.reduceLT, Int.reduceNeg, Nat.reduceLeDiff, VOpd.ev, Nat.reduceEqDiff, Nat.reduceAdd, reduceIte, reduceCtorEq, splice, resOf, tupOf, cellsV, AV.toV, AV.cell?, cellVal]; rfl) (by simp; omega) hown2 (by omega) ?_
      intro w' L' hown'
      simp only [q34, q35, q36, q4, hwr, kB, kZ, kD, fillA, partsEv, zeroes, Nat.reduceSub, Int.reduceToNat, Nat.reduceMul, asInt?, asNat?, Int.reduceAdd, Int.reduceLE, Int.reduceLT, Int.reduceNeg, Nat.reduceLeDiff, VOpd.ev, Nat.reduceEqDiff, Nat.reduceAdd, reduceIte, reduceCtorEq, splice, resOf, tupOf, cellsV, AV.toV, AV.cell?, cellVal]
      refine ⟨n - 1, by omega, i + 1, L', w', by omega, rfl, rfl, rfl, ?_⟩
      rw [hstep, putL_neg hq]
      exact hown'
    · have hq : decide (raw[i] ∈ (raw.take i).foldl putL []) = true := by simpa using hq
      simp only [q34, q35, q36, q4, hwr, List.append_nil, kB, kZ, kD, fillA, partsEv, zeroes, Nat.reduceSub, Int.reduceToNat, Nat.reduceMul, asInt?, asNat?, Int.reduceAdd, Int.reduceLE, Int.reduceLT, Int.reduceNeg, Nat.reduceLeDiff, VOpd.ev, Nat.reduceEqDiff, Nat.reduceAdd, reduceIte, reduceCtorEq, splice, resOf, tupOf, cellsV, AV.toV, AV.cell?, cellVal]
      refine ⟨n - 1, by omega, i + 1, L1, w2, by omega, rfl, rfl, rfl, ?_⟩
      rw [hstep, putL_pos hq]
      exact hown2
  · have hi : i = raw.length := by have := of_decide_eq_false hc; omega
    subst hi
    rw [List.take_length] at hown2
    simp only [q34, q35, q36, q4, kB, kZ, kD, fillA, partsEv, zeroes, Nat.reduceSub, Int.reduceToNat, Nat.reduceMul, asInt?, asNat?, Int.reduceAdd, Int.reduceLE, Int.reduceLT, Int.reduceNeg, Nat.reduceLeDiff, VOpd.ev, Nat.reduceEqDiff, Nat.reduceAdd, reduceIte, reduceCtorEq, splice, resOf, tupOf, cellsV, AV.toV, AV.cell?, cellVal]
    exact ⟨_, _, rfl, rfl, hown2.low (by omega)⟩
end
end Go.VX.Seat
end
section
set_option linter.unusedVariables false
set_option linter.unusedSimpArgs false
set_option maxRecDepth 4000
/-! Layer 19: the reference's Check, Class, Latency; the program's Latency, Bank. (Printed by program: m3.py) -/
namespace Go.VX.Seat
open Go.Proofs
theorem k28 {k : Int} (h1 : 1 ≤ k) (h2 : k ≤ 28) : k = 1 ∨ k = 2 ∨ k = 3 ∨ k = 4 ∨ k = 5 ∨ k = 6 ∨ k = 7 ∨ k = 8 ∨ k = 9 ∨ k = 10 ∨ k = 11 ∨ k = 12 ∨ k = 13 ∨ k = 14 ∨ k = 15 ∨ k = 16 ∨ k = 17 ∨ k = 18 ∨ k = 19 ∨ k = 20 ∨ k = 21 ∨ k = 22 ∨ k = 23 ∨ k = 24 ∨ k = 25 ∨ k = 26 ∨ k = 27 ∨ k = 28 := by omega
def usesB (k : Int) (b : Bool) : Bool := oneK k && b
theorem lsAt (m : MachV) (k : Int) (hk : hasCls k = true) : ∃ c : Nat, c < 4 ∧ clsM k = c ∧ (MachV.ls m)[c]? = some ((MachV.ls m).getD (clsM k).toNat 0) := by
  have h4 : clsM k = 0 ∨ clsM k = 1 ∨ clsM k = 2 ∨ clsM k = 3 := by
    unfold clsM
    cases ho : outK k
    · have h1 : oneK k = true := by unfold hasCls at hk; rw [ho] at hk; simpa using hk
      have hb := oneK_bnd h1
      rw [← rcls_eq h1]
      unfold rclsK
      simp only [Bool.false_eq_true, if_false]
      split
      · exact .inl rfl
      · split
        · exact .inr (.inl rfl)
        · split
          · exact .inr (.inr (.inl rfl))
          · exact .inr (.inr (.inr rfl))
    · exact .inr (.inr (.inr rfl))
  rcases h4 with h | h | h | h <;> rw [h]
  · exact ⟨0, by decide, rfl, rfl⟩
  · exact ⟨1, by decide, rfl, rfl⟩
  · exact ⟨2, by decide, rfl, rfl⟩
  · exact ⟨3, by decide, rfl, rfl⟩
section
variable {X : Cx} {st : St}
theorem j_r19_Class (h : On X) (k : Int) : J X.P X.F X.H (.call 22 [iA k] st (.ret (.tup [iA (clsM k), bA (hasCls k)])) st) := by
  refine pure_intro (by rw [h.F]; rfl) rfl ?_
  by_cases h1 : 1 ≤ k
  · by_cases h2 : k ≤ 28
    · rcases k28 h1 h2 with rfl | rfl | rfl | rfl | rfl | rfl | rfl | rfl | rfl | rfl | rfl | rfl | rfl | rfl | rfl | rfl | rfl | rfl | rfl | rfl | rfl | rfl | rfl | rfl | rfl | rfl | rfl | rfl
      all_goals
        simp only [v_r19_Class, Int.reduceLE, Int.reduceEq, Int.reduceLT, kB, kZ, kD, fillA, partsEv, zeroes, Nat.reduceSub, Int.reduceToNat, Nat.reduceMul, asInt?, asNat?, Int.reduceAdd, Int.reduceLE, Int.reduceLT, Int.reduceNeg, Nat.reduceLeDiff, VOpd.ev, Nat.reduceEqDiff, Nat.reduceAdd, reduceIte, reduceCtorEq, splice, resOf, tupOf, cellsV, AV.toV, AV.cell?, cellVal]
        exact ⟨rfl, _, rfl⟩
    · have e1 : clsM k = 0 := by unfold clsM classK outK oneK; simp; omega
      have e2 : hasCls k = false := by unfold hasCls outK oneK; simp; omega
      have d : decide (1 ≤ k) = true ∧ decide (k ≤ 12) = false ∧ decide (13 ≤ k) = true ∧ decide (k ≤ 15) = false ∧ decide (k = 23) = false ∧ decide (k = 24) = false ∧ decide (16 ≤ k) = true ∧ decide (k ≤ 19) = false ∧ decide (k = 25) = false ∧ decide (20 ≤ k) = true ∧ decide (k ≤ 22) = false ∧ decide (26 ≤ k) = true ∧ decide (k ≤ 28) = false := by simp; omega
      obtain ⟨d0, d1, d2, d3, d4, d5, d6, d7, d8, d9, d10, d11, d12⟩ := d
      rw [e1, e2]
      simp only [v_r19_Class, d0, d1, d2, d3, d4, d5, d6, d7, d8, d9, d10, d11, d12, kB, kZ, kD, fillA, partsEv, zeroes, Nat.reduceSub, Int.reduceToNat, Nat.reduceMul, asInt?, asNat?, Int.reduceAdd, Int.reduceLE, Int.reduceLT, Int.reduceNeg, Nat.reduceLeDiff, VOpd.ev, Nat.reduceEqDiff, Nat.reduceAdd, reduceIte, reduceCtorEq, splice, resOf, tupOf, cellsV, AV.toV, AV.cell?, cellVal]
      first | exact ⟨_, rfl⟩ | exact ⟨rfl, _, rfl⟩ | exact ⟨trivial, _, rfl⟩ | exact ⟨[], (List.append_nil _).symm⟩
  · have e1 : clsM k = 0 := by unfold clsM classK outK oneK; simp; omega
    have e2 : hasCls k = false := by unfold hasCls outK oneK; simp; omega
    have d : decide (1 ≤ k) = false ∧ decide (13 ≤ k) = false ∧ decide (k = 23) = false ∧ decide (k = 24) = false ∧ decide (16 ≤ k) = false ∧ decide (k = 25) = false ∧ decide (20 ≤ k) = false ∧ decide (26 ≤ k) = false := by simp; omega
    obtain ⟨d0, d1, d2, d3, d4, d5, d6, d7⟩ := d
    rw [e1, e2]
    simp only [v_r19_Class, d0, d1, d2, d3, d4, d5, d6, d7, kB, kZ, kD, fillA, partsEv, zeroes, Nat.reduceSub, Int.reduceToNat, Nat.reduceMul, asInt?, asNat?, Int.reduceAdd, Int.reduceLE, Int.reduceLT, Int.reduceNeg, Nat.reduceLeDiff, VOpd.ev, Nat.reduceEqDiff, Nat.reduceAdd, reduceIte, reduceCtorEq, splice, resOf, tupOf, cellsV, AV.toV, AV.cell?, cellVal]
    first | exact ⟨_, rfl⟩ | exact ⟨rfl, _, rfl⟩ | exact ⟨trivial, _, rfl⟩ | exact ⟨[], (List.append_nil _).symm⟩
set_option maxHeartbeats 2000000 in
theorem j_r19_Check (h : On X) (m : MachV) : J X.P X.F X.H (.call 12 [.agg m.row] st (.ret (iA (chkM m))) st) := by
  refine pure_intro (by rw [h.F]; rfl) rfl ?_
  have w1 : IntKind.wrap .i64 (0 + 1) = 1 := rfl
  have w2 : IntKind.wrap .i64 (1 + 1) = 2 := rfl
  have w3 : IntKind.wrap .i64 (2 + 1) = 3 := rfl
  have w4 : IntKind.wrap .i64 (3 + 1) = 4 := rfl
  simp only [v_r19_Check, MachV.row, kB, kZ, kD, fillA, partsEv, zeroes, Nat.reduceSub, Int.reduceToNat, Nat.reduceMul, asInt?, asNat?, Int.reduceAdd, Int.reduceLE, Int.reduceLT, Int.reduceNeg, Nat.reduceLeDiff, VOpd.ev, Nat.reduceEqDiff, Nat.reduceAdd, reduceIte, reduceCtorEq, splice, resOf, tupOf, cellsV, AV.toV, AV.cell?, cellVal]
  refine loop_unroll ?_
  simp only [kB, kZ, kD, fillA, partsEv, zeroes, Nat.reduceSub, Int.reduceToNat, Nat.reduceMul, asInt?, asNat?, Int.reduceAdd, Int.reduceLE, Int.reduceLT, Int.reduceNeg, Nat.reduceLeDiff, VOpd.ev, Nat.reduceEqDiff, Nat.reduceAdd, reduceIte, reduceCtorEq, splice, resOf, tupOf, cellsV, AV.toV, AV.cell?, cellVal]
  cases p_u0 : decide (m.u0 < 1)
  case true =>
    have b_u0 : inB m.u0 1 8 = false := by have := of_decide_eq_true p_u0; simp [inB]; omega
    have e : chkM m = 2 := by unfold chkM okM; simp only [b_u0, Bool.false_and, Bool.and_false, Bool.false_eq_true, if_false]
    simp only [p_u0, e, w1, w2, w3, w4, kB, kZ, kD, fillA, partsEv, zeroes, Nat.reduceSub, Int.reduceToNat, Nat.reduceMul, asInt?, asNat?, Int.reduceAdd, Int.reduceLE, Int.reduceLT, Int.reduceNeg, Nat.reduceLeDiff, VOpd.ev, Nat.reduceEqDiff, Nat.reduceAdd, reduceIte, reduceCtorEq, splice, resOf, tupOf, cellsV, AV.toV, AV.cell?, cellVal]
    first | exact ⟨_, rfl⟩ | exact ⟨rfl, _, rfl⟩ | exact ⟨trivial, _, rfl⟩ | exact ⟨[], (List.append_nil _).symm⟩
  simp only [p_u0, w1, w2, w3, w4, kB, kZ, kD, fillA, partsEv, zeroes, Nat.reduceSub, Int.reduceToNat, Nat.reduceMul, asInt?, asNat?, Int.reduceAdd, Int.reduceLE, Int.reduceLT, Int.reduceNeg, Nat.reduceLeDiff, VOpd.ev, Nat.reduceEqDiff, Nat.reduceAdd, reduceIte, reduceCtorEq, splice, resOf, tupOf, cellsV, AV.toV, AV.cell?, cellVal]
  cases q_u0 : decide (8 < m.u0)
  case true =>
    have b_u0 : inB m.u0 1 8 = false := by have := of_decide_eq_true q_u0; simp [inB]; omega
    have e : chkM m = 2 := by unfold chkM okM; simp only [b_u0, Bool.false_and, Bool.and_false, Bool.false_eq_true, if_false]
    simp only [q_u0, e, w1, w2, w3, w4, kB, kZ, kD, fillA, partsEv, zeroes, Nat.reduceSub, Int.reduceToNat, Nat.reduceMul, asInt?, asNat?, Int.reduceAdd, Int.reduceLE, Int.reduceLT, Int.reduceNeg, Nat.reduceLeDiff, VOpd.ev, Nat.reduceEqDiff, Nat.reduceAdd, reduceIte, reduceCtorEq, splice, resOf, tupOf, cellsV, AV.toV, AV.cell?, cellVal]
    first | exact ⟨_, rfl⟩ | exact ⟨rfl, _, rfl⟩ | exact ⟨trivial, _, rfl⟩ | exact ⟨[], (List.append_nil _).symm⟩
  simp only [q_u0, w1, w2, w3, w4, kB, kZ, kD, fillA, partsEv, zeroes, Nat.reduceSub, Int.reduceToNat, Nat.reduceMul, asInt?, asNat?, Int.reduceAdd, Int.reduceLE, Int.reduceLT, Int.reduceNeg, Nat.reduceLeDiff, VOpd.ev, Nat.reduceEqDiff, Nat.reduceAdd, reduceIte, reduceCtorEq, splice, resOf, tupOf, cellsV, AV.toV, AV.cell?, cellVal]
  have b_u0 : inB m.u0 1 8 = true := by have a := of_decide_eq_false p_u0; have b := of_decide_eq_false q_u0; simp [inB]; omega
  cases p_l0 : decide (m.l0 < 1)
  case true =>
    have b_l0 : inB m.l0 1 8 = false := by have := of_decide_eq_true p_l0; simp [inB]; omega
    have e : chkM m = 2 := by unfold chkM okM; simp only [b_l0, Bool.false_and, Bool.and_false, Bool.false_eq_true, if_false]
    simp only [p_l0, e, w1, w2, w3, w4, kB, kZ, kD, fillA, partsEv, zeroes, Nat.reduceSub, Int.reduceToNat, Nat.reduceMul, asInt?, asNat?, Int.reduceAdd, Int.reduceLE, Int.reduceLT, Int.reduceNeg, Nat.reduceLeDiff, VOpd.ev, Nat.reduceEqDiff, Nat.reduceAdd, reduceIte, reduceCtorEq, splice, resOf, tupOf, cellsV, AV.toV, AV.cell?, cellVal]
    first | exact ⟨_, rfl⟩ | exact ⟨rfl, _, rfl⟩ | exact ⟨trivial, _, rfl⟩ | exact ⟨[], (List.append_nil _).symm⟩
  simp only [p_l0, w1, w2, w3, w4, kB, kZ, kD, fillA, partsEv, zeroes, Nat.reduceSub, Int.reduceToNat, Nat.reduceMul, asInt?, asNat?, Int.reduceAdd, Int.reduceLE, Int.reduceLT, Int.reduceNeg, Nat.reduceLeDiff, VOpd.ev, Nat.reduceEqDiff, Nat.reduceAdd, reduceIte, reduceCtorEq, splice, resOf, tupOf, cellsV, AV.toV, AV.cell?, cellVal]
  cases q_l0 : decide (8 < m.l0)
  case true =>
    have b_l0 : inB m.l0 1 8 = false := by have := of_decide_eq_true q_l0; simp [inB]; omega
    have e : chkM m = 2 := by unfold chkM okM; simp only [b_l0, Bool.false_and, Bool.and_false, Bool.false_eq_true, if_false]
    simp only [q_l0, e, w1, w2, w3, w4, kB, kZ, kD, fillA, partsEv, zeroes, Nat.reduceSub, Int.reduceToNat, Nat.reduceMul, asInt?, asNat?, Int.reduceAdd, Int.reduceLE, Int.reduceLT, Int.reduceNeg, Nat.reduceLeDiff, VOpd.ev, Nat.reduceEqDiff, Nat.reduceAdd, reduceIte, reduceCtorEq, splice, resOf, tupOf, cellsV, AV.toV, AV.cell?, cellVal]
    first | exact ⟨_, rfl⟩ | exact ⟨rfl, _, rfl⟩ | exact ⟨trivial, _, rfl⟩ | exact ⟨[], (List.append_nil _).symm⟩
  simp only [q_l0, w1, w2, w3, w4, kB, kZ, kD, fillA, partsEv, zeroes, Nat.reduceSub, Int.reduceToNat, Nat.reduceMul, asInt?, asNat?, Int.reduceAdd, Int.reduceLE, Int.reduceLT, Int.reduceNeg, Nat.reduceLeDiff, VOpd.ev, Nat.reduceEqDiff, Nat.reduceAdd, reduceIte, reduceCtorEq, splice, resOf, tupOf, cellsV, AV.toV, AV.cell?, cellVal]
  have b_l0 : inB m.l0 1 8 = true := by have a := of_decide_eq_false p_l0; have b := of_decide_eq_false q_l0; simp [inB]; omega
  refine loop_unroll ?_
  simp only [kB, kZ, kD, fillA, partsEv, zeroes, Nat.reduceSub, Int.reduceToNat, Nat.reduceMul, asInt?, asNat?, Int.reduceAdd, Int.reduceLE, Int.reduceLT, Int.reduceNeg, Nat.reduceLeDiff, VOpd.ev, Nat.reduceEqDiff, Nat.reduceAdd, reduceIte, reduceCtorEq, splice, resOf, tupOf, cellsV, AV.toV, AV.cell?, cellVal]
  cases p_u1 : decide (m.u1 < 1)
  case true =>
    have b_u1 : inB m.u1 1 8 = false := by have := of_decide_eq_true p_u1; simp [inB]; omega
    have e : chkM m = 2 := by unfold chkM okM; simp only [b_u1, Bool.false_and, Bool.and_false, Bool.false_eq_true, if_false]
    simp only [p_u1, e, w1, w2, w3, w4, kB, kZ, kD, fillA, partsEv, zeroes, Nat.reduceSub, Int.reduceToNat, Nat.reduceMul, asInt?, asNat?, Int.reduceAdd, Int.reduceLE, Int.reduceLT, Int.reduceNeg, Nat.reduceLeDiff, VOpd.ev, Nat.reduceEqDiff, Nat.reduceAdd, reduceIte, reduceCtorEq, splice, resOf, tupOf, cellsV, AV.toV, AV.cell?, cellVal]
    first | exact ⟨_, rfl⟩ | exact ⟨rfl, _, rfl⟩ | exact ⟨trivial, _, rfl⟩ | exact ⟨[], (List.append_nil _).symm⟩
  simp only [p_u1, w1, w2, w3, w4, kB, kZ, kD, fillA, partsEv, zeroes, Nat.reduceSub, Int.reduceToNat, Nat.reduceMul, asInt?, asNat?, Int.reduceAdd, Int.reduceLE, Int.reduceLT, Int.reduceNeg, Nat.reduceLeDiff, VOpd.ev, Nat.reduceEqDiff, Nat.reduceAdd, reduceIte, reduceCtorEq, splice, resOf, tupOf, cellsV, AV.toV, AV.cell?, cellVal]
  cases q_u1 : decide (8 < m.u1)
  case true =>
    have b_u1 : inB m.u1 1 8 = false := by have := of_decide_eq_true q_u1; simp [inB]; omega
    have e : chkM m = 2 := by unfold chkM okM; simp only [b_u1, Bool.false_and, Bool.and_false, Bool.false_eq_true, if_false]
    simp only [q_u1, e, w1, w2, w3, w4, kB, kZ, kD, fillA, partsEv, zeroes, Nat.reduceSub, Int.reduceToNat, Nat.reduceMul, asInt?, asNat?, Int.reduceAdd, Int.reduceLE, Int.reduceLT, Int.reduceNeg, Nat.reduceLeDiff, VOpd.ev, Nat.reduceEqDiff, Nat.reduceAdd, reduceIte, reduceCtorEq, splice, resOf, tupOf, cellsV, AV.toV, AV.cell?, cellVal]
    first | exact ⟨_, rfl⟩ | exact ⟨rfl, _, rfl⟩ | exact ⟨trivial, _, rfl⟩ | exact ⟨[], (List.append_nil _).symm⟩
  simp only [q_u1, w1, w2, w3, w4, kB, kZ, kD, fillA, partsEv, zeroes, Nat.reduceSub, Int.reduceToNat, Nat.reduceMul, asInt?, asNat?, Int.reduceAdd, Int.reduceLE, Int.reduceLT, Int.reduceNeg, Nat.reduceLeDiff, VOpd.ev, Nat.reduceEqDiff, Nat.reduceAdd, reduceIte, reduceCtorEq, splice, resOf, tupOf, cellsV, AV.toV, AV.cell?, cellVal]
  have b_u1 : inB m.u1 1 8 = true := by have a := of_decide_eq_false p_u1; have b := of_decide_eq_false q_u1; simp [inB]; omega
  cases p_l1 : decide (m.l1 < 1)
  case true =>
    have b_l1 : inB m.l1 1 8 = false := by have := of_decide_eq_true p_l1; simp [inB]; omega
    have e : chkM m = 2 := by unfold chkM okM; simp only [b_l1, Bool.false_and, Bool.and_false, Bool.false_eq_true, if_false]
    simp only [p_l1, e, w1, w2, w3, w4, kB, kZ, kD, fillA, partsEv, zeroes, Nat.reduceSub, Int.reduceToNat, Nat.reduceMul, asInt?, asNat?, Int.reduceAdd, Int.reduceLE, Int.reduceLT, Int.reduceNeg, Nat.reduceLeDiff, VOpd.ev, Nat.reduceEqDiff, Nat.reduceAdd, reduceIte, reduceCtorEq, splice, resOf, tupOf, cellsV, AV.toV, AV.cell?, cellVal]
    first | exact ⟨_, rfl⟩ | exact ⟨rfl, _, rfl⟩ | exact ⟨trivial, _, rfl⟩ | exact ⟨[], (List.append_nil _).symm⟩
  simp only [p_l1, w1, w2, w3, w4, kB, kZ, kD, fillA, partsEv, zeroes, Nat.reduceSub, Int.reduceToNat, Nat.reduceMul, asInt?, asNat?, Int.reduceAdd, Int.reduceLE, Int.reduceLT, Int.reduceNeg, Nat.reduceLeDiff, VOpd.ev, Nat.reduceEqDiff, Nat.reduceAdd, reduceIte, reduceCtorEq, splice, resOf, tupOf, cellsV, AV.toV, AV.cell?, cellVal]
  cases q_l1 : decide (8 < m.l1)
  case true =>
    have b_l1 : inB m.l1 1 8 = false := by have := of_decide_eq_true q_l1; simp [inB]; omega
    have e : chkM m = 2 := by unfold chkM okM; simp only [b_l1, Bool.false_and, Bool.and_false, Bool.false_eq_true, if_false]
    simp only [q_l1, e, w1, w2, w3, w4, kB, kZ, kD, fillA, partsEv, zeroes, Nat.reduceSub, Int.reduceToNat, Nat.reduceMul, asInt?, asNat?, Int.reduceAdd, Int.reduceLE, Int.reduceLT, Int.reduceNeg, Nat.reduceLeDiff, VOpd.ev, Nat.reduceEqDiff, Nat.reduceAdd, reduceIte, reduceCtorEq, splice, resOf, tupOf, cellsV, AV.toV, AV.cell?, cellVal]
    first | exact ⟨_, rfl⟩ | exact ⟨rfl, _, rfl⟩ | exact ⟨trivial, _, rfl⟩ | exact ⟨[], (List.append_nil _).symm⟩
  simp only [q_l1, w1, w2, w3, w4, kB, kZ, kD, fillA, partsEv, zeroes, Nat.reduceSub, Int.reduceToNat, Nat.reduceMul, asInt?, asNat?, Int.reduceAdd, Int.reduceLE, Int.reduceLT, Int.reduceNeg, Nat.reduceLeDiff, VOpd.ev, Nat.reduceEqDiff, Nat.reduceAdd, reduceIte, reduceCtorEq, splice, resOf, tupOf, cellsV, AV.toV, AV.cell?, cellVal]
  have b_l1 : inB m.l1 1 8 = true := by have a := of_decide_eq_false p_l1; have b := of_decide_eq_false q_l1; simp [inB]; omega
  refine loop_unroll ?_
  simp only [kB, kZ, kD, fillA, partsEv, zeroes, Nat.reduceSub, Int.reduceToNat, Nat.reduceMul, asInt?, asNat?, Int.reduceAdd, Int.reduceLE, Int.reduceLT, Int.reduceNeg, Nat.reduceLeDiff, VOpd.ev, Nat.reduceEqDiff, Nat.reduceAdd, reduceIte, reduceCtorEq, splice, resOf, tupOf, cellsV, AV.toV, AV.cell?, cellVal]
  cases p_u2 : decide (m.u2 < 1)
  case true =>
    have b_u2 : inB m.u2 1 8 = false := by have := of_decide_eq_true p_u2; simp [inB]; omega
    have e : chkM m = 2 := by unfold chkM okM; simp only [b_u2, Bool.false_and, Bool.and_false, Bool.false_eq_true, if_false]
    simp only [p_u2, e, w1, w2, w3, w4, kB, kZ, kD, fillA, partsEv, zeroes, Nat.reduceSub, Int.reduceToNat, Nat.reduceMul, asInt?, asNat?, Int.reduceAdd, Int.reduceLE, Int.reduceLT, Int.reduceNeg, Nat.reduceLeDiff, VOpd.ev, Nat.reduceEqDiff, Nat.reduceAdd, reduceIte, reduceCtorEq, splice, resOf, tupOf, cellsV, AV.toV, AV.cell?, cellVal]
    first | exact ⟨_, rfl⟩ | exact ⟨rfl, _, rfl⟩ | exact ⟨trivial, _, rfl⟩ | exact ⟨[], (List.append_nil _).symm⟩
  simp only [p_u2, w1, w2, w3, w4, kB, kZ, kD, fillA, partsEv, zeroes, Nat.reduceSub, Int.reduceToNat, Nat.reduceMul, asInt?, asNat?, Int.reduceAdd, Int.reduceLE, Int.reduceLT, Int.reduceNeg, Nat.reduceLeDiff, VOpd.ev, Nat.reduceEqDiff, Nat.reduceAdd, reduceIte, reduceCtorEq, splice, resOf, tupOf, cellsV, AV.toV, AV.cell?, cellVal]
  cases q_u2 : decide (8 < m.u2)
  case true =>
    have b_u2 : inB m.u2 1 8 = false := by have := of_decide_eq_true q_u2; simp [inB]; omega
    have e : chkM m = 2 := by unfold chkM okM; simp only [b_u2, Bool.false_and, Bool.and_false, Bool.false_eq_true, if_false]
    simp only [q_u2, e, w1, w2, w3, w4, kB, kZ, kD, fillA, partsEv, zeroes, Nat.reduceSub, Int.reduceToNat, Nat.reduceMul, asInt?, asNat?, Int.reduceAdd, Int.reduceLE, Int.reduceLT, Int.reduceNeg, Nat.reduceLeDiff, VOpd.ev, Nat.reduceEqDiff, Nat.reduceAdd, reduceIte, reduceCtorEq, splice, resOf, tupOf, cellsV, AV.toV, AV.cell?, cellVal]
    first | exact ⟨_, rfl⟩ | exact ⟨rfl, _, rfl⟩ | exact ⟨trivial, _, rfl⟩ | exact ⟨[], (List.append_nil _).symm⟩
  simp only [q_u2, w1, w2, w3, w4, kB, kZ, kD, fillA, partsEv, zeroes, Nat.reduceSub, Int.reduceToNat, Nat.reduceMul, asInt?, asNat?, Int.reduceAdd, Int.reduceLE, Int.reduceLT, Int.reduceNeg, Nat.reduceLeDiff, VOpd.ev, Nat.reduceEqDiff, Nat.reduceAdd, reduceIte, reduceCtorEq, splice, resOf, tupOf, cellsV, AV.toV, AV.cell?, cellVal]
  have b_u2 : inB m.u2 1 8 = true := by have a := of_decide_eq_false p_u2; have b := of_decide_eq_false q_u2; simp [inB]; omega
  cases p_l2 : decide (m.l2 < 1)
  case true =>
    have b_l2 : inB m.l2 1 8 = false := by have := of_decide_eq_true p_l2; simp [inB]; omega
    have e : chkM m = 2 := by unfold chkM okM; simp only [b_l2, Bool.false_and, Bool.and_false, Bool.false_eq_true, if_false]
    simp only [p_l2, e, w1, w2, w3, w4, kB, kZ, kD, fillA, partsEv, zeroes, Nat.reduceSub, Int.reduceToNat, Nat.reduceMul, asInt?, asNat?, Int.reduceAdd, Int.reduceLE, Int.reduceLT, Int.reduceNeg, Nat.reduceLeDiff, VOpd.ev, Nat.reduceEqDiff, Nat.reduceAdd, reduceIte, reduceCtorEq, splice, resOf, tupOf, cellsV, AV.toV, AV.cell?, cellVal]
    first | exact ⟨_, rfl⟩ | exact ⟨rfl, _, rfl⟩ | exact ⟨trivial, _, rfl⟩ | exact ⟨[], (List.append_nil _).symm⟩
  simp only [p_l2, w1, w2, w3, w4, kB, kZ, kD, fillA, partsEv, zeroes, Nat.reduceSub, Int.reduceToNat, Nat.reduceMul, asInt?, asNat?, Int.reduceAdd, Int.reduceLE, Int.reduceLT, Int.reduceNeg, Nat.reduceLeDiff, VOpd.ev, Nat.reduceEqDiff, Nat.reduceAdd, reduceIte, reduceCtorEq, splice, resOf, tupOf, cellsV, AV.toV, AV.cell?, cellVal]
  cases q_l2 : decide (8 < m.l2)
  case true =>
    have b_l2 : inB m.l2 1 8 = false := by have := of_decide_eq_true q_l2; simp [inB]; omega
    have e : chkM m = 2 := by unfold chkM okM; simp only [b_l2, Bool.false_and, Bool.and_false, Bool.false_eq_true, if_false]
    simp only [q_l2, e, w1, w2, w3, w4, kB, kZ, kD, fillA, partsEv, zeroes, Nat.reduceSub, Int.reduceToNat, Nat.reduceMul, asInt?, asNat?, Int.reduceAdd, Int.reduceLE, Int.reduceLT, Int.reduceNeg, Nat.reduceLeDiff, VOpd.ev, Nat.reduceEqDiff, Nat.reduceAdd, reduceIte, reduceCtorEq, splice, resOf, tupOf, cellsV, AV.toV, AV.cell?, cellVal]
    first | exact ⟨_, rfl⟩ | exact ⟨rfl, _, rfl⟩ | exact ⟨trivial, _, rfl⟩ | exact ⟨[], (List.append_nil _).symm⟩
  simp only [q_l2, w1, w2, w3, w4, kB, kZ, kD, fillA, partsEv, zeroes, Nat.reduceSub, Int.reduceToNat, Nat.reduceMul, asInt?, asNat?, Int.reduceAdd, Int.reduceLE, Int.reduceLT, Int.reduceNeg, Nat.reduceLeDiff, VOpd.ev, Nat.reduceEqDiff, Nat.reduceAdd, reduceIte, reduceCtorEq, splice, resOf, tupOf, cellsV, AV.toV, AV.cell?, cellVal]
  have b_l2 : inB m.l2 1 8 = true := by have a := of_decide_eq_false p_l2; have b := of_decide_eq_false q_l2; simp [inB]; omega
  refine loop_unroll ?_
  simp only [kB, kZ, kD, fillA, partsEv, zeroes, Nat.reduceSub, Int.reduceToNat, Nat.reduceMul, asInt?, asNat?, Int.reduceAdd, Int.reduceLE, Int.reduceLT, Int.reduceNeg, Nat.reduceLeDiff, VOpd.ev, Nat.reduceEqDiff, Nat.reduceAdd, reduceIte, reduceCtorEq, splice, resOf, tupOf, cellsV, AV.toV, AV.cell?, cellVal]
  cases p_u3 : decide (m.u3 < 1)
  case true =>
    have b_u3 : inB m.u3 1 8 = false := by have := of_decide_eq_true p_u3; simp [inB]; omega
    have e : chkM m = 2 := by unfold chkM okM; simp only [b_u3, Bool.false_and, Bool.and_false, Bool.false_eq_true, if_false]
    simp only [p_u3, e, w1, w2, w3, w4, kB, kZ, kD, fillA, partsEv, zeroes, Nat.reduceSub, Int.reduceToNat, Nat.reduceMul, asInt?, asNat?, Int.reduceAdd, Int.reduceLE, Int.reduceLT, Int.reduceNeg, Nat.reduceLeDiff, VOpd.ev, Nat.reduceEqDiff, Nat.reduceAdd, reduceIte, reduceCtorEq, splice, resOf, tupOf, cellsV, AV.toV, AV.cell?, cellVal]
    first | exact ⟨_, rfl⟩ | exact ⟨rfl, _, rfl⟩ | exact ⟨trivial, _, rfl⟩ | exact ⟨[], (List.append_nil _).symm⟩
  simp only [p_u3, w1, w2, w3, w4, kB, kZ, kD, fillA, partsEv, zeroes, Nat.reduceSub, Int.reduceToNat, Nat.reduceMul, asInt?, asNat?, Int.reduceAdd, Int.reduceLE, Int.reduceLT, Int.reduceNeg, Nat.reduceLeDiff, VOpd.ev, Nat.reduceEqDiff, Nat.reduceAdd, reduceIte, reduceCtorEq, splice, resOf, tupOf, cellsV, AV.toV, AV.cell?, cellVal]
  cases q_u3 : decide (8 < m.u3)
  case true =>
    have b_u3 : inB m.u3 1 8 = false := by have := of_decide_eq_true q_u3; simp [inB]; omega
    have e : chkM m = 2 := by unfold chkM okM; simp only [b_u3, Bool.false_and, Bool.and_false, Bool.false_eq_true, if_false]
    simp only [q_u3, e, w1, w2, w3, w4, kB, kZ, kD, fillA, partsEv, zeroes, Nat.reduceSub, Int.reduceToNat, Nat.reduceMul, asInt?, asNat?, Int.reduceAdd, Int.reduceLE, Int.reduceLT, Int.reduceNeg, Nat.reduceLeDiff, VOpd.ev, Nat.reduceEqDiff, Nat.reduceAdd, reduceIte, reduceCtorEq, splice, resOf, tupOf, cellsV, AV.toV, AV.cell?, cellVal]
    first | exact ⟨_, rfl⟩ | exact ⟨rfl, _, rfl⟩ | exact ⟨trivial, _, rfl⟩ | exact ⟨[], (List.append_nil _).symm⟩
  simp only [q_u3, w1, w2, w3, w4, kB, kZ, kD, fillA, partsEv, zeroes, Nat.reduceSub, Int.reduceToNat, Nat.reduceMul, asInt?, asNat?, Int.reduceAdd, Int.reduceLE, Int.reduceLT, Int.reduceNeg, Nat.reduceLeDiff, VOpd.ev, Nat.reduceEqDiff, Nat.reduceAdd, reduceIte, reduceCtorEq, splice, resOf, tupOf, cellsV, AV.toV, AV.cell?, cellVal]
  have b_u3 : inB m.u3 1 8 = true := by have a := of_decide_eq_false p_u3; have b := of_decide_eq_false q_u3; simp [inB]; omega
  cases p_l3 : decide (m.l3 < 1)
  case true =>
    have b_l3 : inB m.l3 1 8 = false := by have := of_decide_eq_true p_l3; simp [inB]; omega
    have e : chkM m = 2 := by unfold chkM okM; simp only [b_l3, Bool.false_and, Bool.and_false, Bool.false_eq_true, if_false]
    simp only [p_l3, e, w1, w2, w3, w4, kB, kZ, kD, fillA, partsEv, zeroes, Nat.reduceSub, Int.reduceToNat, Nat.reduceMul, asInt?, asNat?, Int.reduceAdd, Int.reduceLE, Int.reduceLT, Int.reduceNeg, Nat.reduceLeDiff, VOpd.ev, Nat.reduceEqDiff, Nat.reduceAdd, reduceIte, reduceCtorEq, splice, resOf, tupOf, cellsV, AV.toV, AV.cell?, cellVal]
    first | exact ⟨_, rfl⟩ | exact ⟨rfl, _, rfl⟩ | exact ⟨trivial, _, rfl⟩ | exact ⟨[], (List.append_nil _).symm⟩
  simp only [p_l3, w1, w2, w3, w4, kB, kZ, kD, fillA, partsEv, zeroes, Nat.reduceSub, Int.reduceToNat, Nat.reduceMul, asInt?, asNat?, Int.reduceAdd, Int.reduceLE, Int.reduceLT, Int.reduceNeg, Nat.reduceLeDiff, VOpd.ev, Nat.reduceEqDiff, Nat.reduceAdd, reduceIte, reduceCtorEq, splice, resOf, tupOf, cellsV, AV.toV, AV.cell?, cellVal]
  cases q_l3 : decide (8 < m.l3)
  case true =>
    have b_l3 : inB m.l3 1 8 = false := by have := of_decide_eq_true q_l3; simp [inB]; omega
    have e : chkM m = 2 := by unfold chkM okM; simp only [b_l3, Bool.false_and, Bool.and_false, Bool.false_eq_true, if_false]
    simp only [q_l3, e, w1, w2, w3, w4, kB, kZ, kD, fillA, partsEv, zeroes, Nat.reduceSub, Int.reduceToNat, Nat.reduceMul, asInt?, asNat?, Int.reduceAdd, Int.reduceLE, Int.reduceLT, Int.reduceNeg, Nat.reduceLeDiff, VOpd.ev, Nat.reduceEqDiff, Nat.reduceAdd, reduceIte, reduceCtorEq, splice, resOf, tupOf, cellsV, AV.toV, AV.cell?, cellVal]
    first | exact ⟨_, rfl⟩ | exact ⟨rfl, _, rfl⟩ | exact ⟨trivial, _, rfl⟩ | exact ⟨[], (List.append_nil _).symm⟩
  simp only [q_l3, w1, w2, w3, w4, kB, kZ, kD, fillA, partsEv, zeroes, Nat.reduceSub, Int.reduceToNat, Nat.reduceMul, asInt?, asNat?, Int.reduceAdd, Int.reduceLE, Int.reduceLT, Int.reduceNeg, Nat.reduceLeDiff, VOpd.ev, Nat.reduceEqDiff, Nat.reduceAdd, reduceIte, reduceCtorEq, splice, resOf, tupOf, cellsV, AV.toV, AV.cell?, cellVal]
  have b_l3 : inB m.l3 1 8 = true := by have a := of_decide_eq_false p_l3; have b := of_decide_eq_false q_l3; simp [inB]; omega
  refine loop_unroll ?_
  simp only [kB, kZ, kD, fillA, partsEv, zeroes, Nat.reduceSub, Int.reduceToNat, Nat.reduceMul, asInt?, asNat?, Int.reduceAdd, Int.reduceLE, Int.reduceLT, Int.reduceNeg, Nat.reduceLeDiff, VOpd.ev, Nat.reduceEqDiff, Nat.reduceAdd, reduceIte, reduceCtorEq, splice, resOf, tupOf, cellsV, AV.toV, AV.cell?, cellVal]
  cases p_regs : decide (m.regs < 1)
  case true =>
    have b_regs : inB m.regs 1 4096 = false := by have := of_decide_eq_true p_regs; simp [inB]; omega
    have e : chkM m = 2 := by unfold chkM okM; simp only [b_regs, Bool.false_and, Bool.and_false, Bool.false_eq_true, if_false]
    simp only [p_regs, e, w1, w2, w3, w4, kB, kZ, kD, fillA, partsEv, zeroes, Nat.reduceSub, Int.reduceToNat, Nat.reduceMul, asInt?, asNat?, Int.reduceAdd, Int.reduceLE, Int.reduceLT, Int.reduceNeg, Nat.reduceLeDiff, VOpd.ev, Nat.reduceEqDiff, Nat.reduceAdd, reduceIte, reduceCtorEq, splice, resOf, tupOf, cellsV, AV.toV, AV.cell?, cellVal]
    first | exact ⟨_, rfl⟩ | exact ⟨rfl, _, rfl⟩ | exact ⟨trivial, _, rfl⟩ | exact ⟨[], (List.append_nil _).symm⟩
  simp only [p_regs, w1, w2, w3, w4, kB, kZ, kD, fillA, partsEv, zeroes, Nat.reduceSub, Int.reduceToNat, Nat.reduceMul, asInt?, asNat?, Int.reduceAdd, Int.reduceLE, Int.reduceLT, Int.reduceNeg, Nat.reduceLeDiff, VOpd.ev, Nat.reduceEqDiff, Nat.reduceAdd, reduceIte, reduceCtorEq, splice, resOf, tupOf, cellsV, AV.toV, AV.cell?, cellVal]
  cases q_regs : decide (4096 < m.regs)
  case true =>
    have b_regs : inB m.regs 1 4096 = false := by have := of_decide_eq_true q_regs; simp [inB]; omega
    have e : chkM m = 2 := by unfold chkM okM; simp only [b_regs, Bool.false_and, Bool.and_false, Bool.false_eq_true, if_false]
    simp only [q_regs, e, w1, w2, w3, w4, kB, kZ, kD, fillA, partsEv, zeroes, Nat.reduceSub, Int.reduceToNat, Nat.reduceMul, asInt?, asNat?, Int.reduceAdd, Int.reduceLE, Int.reduceLT, Int.reduceNeg, Nat.reduceLeDiff, VOpd.ev, Nat.reduceEqDiff, Nat.reduceAdd, reduceIte, reduceCtorEq, splice, resOf, tupOf, cellsV, AV.toV, AV.cell?, cellVal]
    first | exact ⟨_, rfl⟩ | exact ⟨rfl, _, rfl⟩ | exact ⟨trivial, _, rfl⟩ | exact ⟨[], (List.append_nil _).symm⟩
  simp only [q_regs, w1, w2, w3, w4, kB, kZ, kD, fillA, partsEv, zeroes, Nat.reduceSub, Int.reduceToNat, Nat.reduceMul, asInt?, asNat?, Int.reduceAdd, Int.reduceLE, Int.reduceLT, Int.reduceNeg, Nat.reduceLeDiff, VOpd.ev, Nat.reduceEqDiff, Nat.reduceAdd, reduceIte, reduceCtorEq, splice, resOf, tupOf, cellsV, AV.toV, AV.cell?, cellVal]
  have b_regs : inB m.regs 1 4096 = true := by have a := of_decide_eq_false p_regs; have b := of_decide_eq_false q_regs; simp [inB]; omega
  cases p_banks : decide (m.banks < 1)
  case true =>
    have b_banks : inB m.banks 1 8 = false := by have := of_decide_eq_true p_banks; simp [inB]; omega
    have e : chkM m = 2 := by unfold chkM okM; simp only [b_banks, Bool.false_and, Bool.and_false, Bool.false_eq_true, if_false]
    simp only [p_banks, e, w1, w2, w3, w4, kB, kZ, kD, fillA, partsEv, zeroes, Nat.reduceSub, Int.reduceToNat, Nat.reduceMul, asInt?, asNat?, Int.reduceAdd, Int.reduceLE, Int.reduceLT, Int.reduceNeg, Nat.reduceLeDiff, VOpd.ev, Nat.reduceEqDiff, Nat.reduceAdd, reduceIte, reduceCtorEq, splice, resOf, tupOf, cellsV, AV.toV, AV.cell?, cellVal]
    first | exact ⟨_, rfl⟩ | exact ⟨rfl, _, rfl⟩ | exact ⟨trivial, _, rfl⟩ | exact ⟨[], (List.append_nil _).symm⟩
  simp only [p_banks, w1, w2, w3, w4, kB, kZ, kD, fillA, partsEv, zeroes, Nat.reduceSub, Int.reduceToNat, Nat.reduceMul, asInt?, asNat?, Int.reduceAdd, Int.reduceLE, Int.reduceLT, Int.reduceNeg, Nat.reduceLeDiff, VOpd.ev, Nat.reduceEqDiff, Nat.reduceAdd, reduceIte, reduceCtorEq, splice, resOf, tupOf, cellsV, AV.toV, AV.cell?, cellVal]
  cases q_banks : decide (8 < m.banks)
  case true =>
    have b_banks : inB m.banks 1 8 = false := by have := of_decide_eq_true q_banks; simp [inB]; omega
    have e : chkM m = 2 := by unfold chkM okM; simp only [b_banks, Bool.false_and, Bool.and_false, Bool.false_eq_true, if_false]
    simp only [q_banks, e, w1, w2, w3, w4, kB, kZ, kD, fillA, partsEv, zeroes, Nat.reduceSub, Int.reduceToNat, Nat.reduceMul, asInt?, asNat?, Int.reduceAdd, Int.reduceLE, Int.reduceLT, Int.reduceNeg, Nat.reduceLeDiff, VOpd.ev, Nat.reduceEqDiff, Nat.reduceAdd, reduceIte, reduceCtorEq, splice, resOf, tupOf, cellsV, AV.toV, AV.cell?, cellVal]
    first | exact ⟨_, rfl⟩ | exact ⟨rfl, _, rfl⟩ | exact ⟨trivial, _, rfl⟩ | exact ⟨[], (List.append_nil _).symm⟩
  simp only [q_banks, w1, w2, w3, w4, kB, kZ, kD, fillA, partsEv, zeroes, Nat.reduceSub, Int.reduceToNat, Nat.reduceMul, asInt?, asNat?, Int.reduceAdd, Int.reduceLE, Int.reduceLT, Int.reduceNeg, Nat.reduceLeDiff, VOpd.ev, Nat.reduceEqDiff, Nat.reduceAdd, reduceIte, reduceCtorEq, splice, resOf, tupOf, cellsV, AV.toV, AV.cell?, cellVal]
  have b_banks : inB m.banks 1 8 = true := by have a := of_decide_eq_false p_banks; have b := of_decide_eq_false q_banks; simp [inB]; omega
  cases p_ports : decide (m.ports < 4)
  case true =>
    have b_ports : inB m.ports 4 32 = false := by have := of_decide_eq_true p_ports; simp [inB]; omega
    have e : chkM m = 2 := by unfold chkM okM; simp only [b_ports, Bool.false_and, Bool.and_false, Bool.false_eq_true, if_false]
    simp only [p_ports, e, w1, w2, w3, w4, kB, kZ, kD, fillA, partsEv, zeroes, Nat.reduceSub, Int.reduceToNat, Nat.reduceMul, asInt?, asNat?, Int.reduceAdd, Int.reduceLE, Int.reduceLT, Int.reduceNeg, Nat.reduceLeDiff, VOpd.ev, Nat.reduceEqDiff, Nat.reduceAdd, reduceIte, reduceCtorEq, splice, resOf, tupOf, cellsV, AV.toV, AV.cell?, cellVal]
    first | exact ⟨_, rfl⟩ | exact ⟨rfl, _, rfl⟩ | exact ⟨trivial, _, rfl⟩ | exact ⟨[], (List.append_nil _).symm⟩
  simp only [p_ports, w1, w2, w3, w4, kB, kZ, kD, fillA, partsEv, zeroes, Nat.reduceSub, Int.reduceToNat, Nat.reduceMul, asInt?, asNat?, Int.reduceAdd, Int.reduceLE, Int.reduceLT, Int.reduceNeg, Nat.reduceLeDiff, VOpd.ev, Nat.reduceEqDiff, Nat.reduceAdd, reduceIte, reduceCtorEq, splice, resOf, tupOf, cellsV, AV.toV, AV.cell?, cellVal]
  cases q_ports : decide (32 < m.ports)
  case true =>
    have b_ports : inB m.ports 4 32 = false := by have := of_decide_eq_true q_ports; simp [inB]; omega
    have e : chkM m = 2 := by unfold chkM okM; simp only [b_ports, Bool.false_and, Bool.and_false, Bool.false_eq_true, if_false]
    simp only [q_ports, e, w1, w2, w3, w4, kB, kZ, kD, fillA, partsEv, zeroes, Nat.reduceSub, Int.reduceToNat, Nat.reduceMul, asInt?, asNat?, Int.reduceAdd, Int.reduceLE, Int.reduceLT, Int.reduceNeg, Nat.reduceLeDiff, VOpd.ev, Nat.reduceEqDiff, Nat.reduceAdd, reduceIte, reduceCtorEq, splice, resOf, tupOf, cellsV, AV.toV, AV.cell?, cellVal]
    first | exact ⟨_, rfl⟩ | exact ⟨rfl, _, rfl⟩ | exact ⟨trivial, _, rfl⟩ | exact ⟨[], (List.append_nil _).symm⟩
  simp only [q_ports, w1, w2, w3, w4, kB, kZ, kD, fillA, partsEv, zeroes, Nat.reduceSub, Int.reduceToNat, Nat.reduceMul, asInt?, asNat?, Int.reduceAdd, Int.reduceLE, Int.reduceLT, Int.reduceNeg, Nat.reduceLeDiff, VOpd.ev, Nat.reduceEqDiff, Nat.reduceAdd, reduceIte, reduceCtorEq, splice, resOf, tupOf, cellsV, AV.toV, AV.cell?, cellVal]
  have b_ports : inB m.ports 4 32 = true := by have a := of_decide_eq_false p_ports; have b := of_decide_eq_false q_ports; simp [inB]; omega
  have e : chkM m = 0 := by unfold chkM okM; simp only [b_u0, b_l0, b_u1, b_l1, b_u2, b_l2, b_u3, b_l3, b_regs, b_banks, b_ports, Bool.and_self, if_true]
  simp only [e, kB, kZ, kD, fillA, partsEv, zeroes, Nat.reduceSub, Int.reduceToNat, Nat.reduceMul, asInt?, asNat?, Int.reduceAdd, Int.reduceLE, Int.reduceLT, Int.reduceNeg, Nat.reduceLeDiff, VOpd.ev, Nat.reduceEqDiff, Nat.reduceAdd, reduceIte, reduceCtorEq, splice, resOf, tupOf, cellsV, AV.toV, AV.cell?, cellVal]
  first | exact ⟨_, rfl⟩ | exact ⟨rfl, _, rfl⟩ | exact ⟨trivial, _, rfl⟩ | exact ⟨[], (List.append_nil _).symm⟩
/-- The latency of a kind. -/
def latM (m : MachV) (k : Int) : Int := m.ls.getD (clsM k).toNat 0
theorem ls_cells (m : MachV) (c : Nat) (hc : c < 4) (x : Int) (hx : m.ls[c]? = some x) : (MachV.row m)[4 + c]? = some (iA x) := by
  match c, hc with
  | 0, _ => simp [MachV.ls] at hx; subst hx; rfl
  | 1, _ => simp [MachV.ls] at hx; subst hx; rfl
  | 2, _ => simp [MachV.ls] at hx; subst hx; rfl
  | 3, _ => simp [MachV.ls] at hx; subst hx; rfl
theorem j_r19_Latency (h : On X) (m : MachV) (k : Int) (hk : hasCls k = true) : J X.P X.F X.H (.call 28 [.agg m.row, iA k] st (.ret (iA (latM m k))) st) := by
  refine pure_intro (by rw [h.F]; rfl) rfl ?_
  obtain ⟨c, hc, hcl, hx⟩ := lsAt m k hk
  simp only [v_r19_Latency, MachV.row, kB, kZ, kD, fillA, partsEv, zeroes, Nat.reduceSub, Int.reduceToNat, Nat.reduceMul, asInt?, asNat?, Int.reduceAdd, Int.reduceLE, Int.reduceLT, Int.reduceNeg, Nat.reduceLeDiff, VOpd.ev, Nat.reduceEqDiff, Nat.reduceAdd, reduceIte, reduceCtorEq, splice, resOf, tupOf, cellsV, AV.toV, AV.cell?, cellVal]
  refine callO_same (j_r19_Class h k) ?_
  unfold latM
  generalize m.ls.getD (clsM k).toNat 0 = x at *
  rw [hcl]
  simp only [MachV.ls] at hx
  match c, hc with
  | 0, _ => simp at hx; subst hx; simp only [Int.cast_ofNat_Int, kB, kZ, kD, fillA, partsEv, zeroes, Nat.reduceSub, Int.reduceToNat, Nat.reduceMul, asInt?, asNat?, Int.reduceAdd, Int.reduceLE, Int.reduceLT, Int.reduceNeg, Nat.reduceLeDiff, VOpd.ev, Nat.reduceEqDiff, Nat.reduceAdd, reduceIte, reduceCtorEq, splice, resOf, tupOf, cellsV, AV.toV, AV.cell?, cellVal]; first | exact ⟨_, rfl⟩ | exact ⟨rfl, _, rfl⟩ | exact ⟨trivial, _, rfl⟩ | exact ⟨[], (List.append_nil _).symm⟩
  | 1, _ => simp at hx; subst hx; simp only [Int.cast_ofNat_Int, kB, kZ, kD, fillA, partsEv, zeroes, Nat.reduceSub, Int.reduceToNat, Nat.reduceMul, asInt?, asNat?, Int.reduceAdd, Int.reduceLE, Int.reduceLT, Int.reduceNeg, Nat.reduceLeDiff, VOpd.ev, Nat.reduceEqDiff, Nat.reduceAdd, reduceIte, reduceCtorEq, splice, resOf, tupOf, cellsV, AV.toV, AV.cell?, cellVal]; first | exact ⟨_, rfl⟩ | exact ⟨rfl, _, rfl⟩ | exact ⟨trivial, _, rfl⟩ | exact ⟨[], (List.append_nil _).symm⟩
  | 2, _ => simp at hx; subst hx; simp only [Int.cast_ofNat_Int, kB, kZ, kD, fillA, partsEv, zeroes, Nat.reduceSub, Int.reduceToNat, Nat.reduceMul, asInt?, asNat?, Int.reduceAdd, Int.reduceLE, Int.reduceLT, Int.reduceNeg, Nat.reduceLeDiff, VOpd.ev, Nat.reduceEqDiff, Nat.reduceAdd, reduceIte, reduceCtorEq, splice, resOf, tupOf, cellsV, AV.toV, AV.cell?, cellVal]; first | exact ⟨_, rfl⟩ | exact ⟨rfl, _, rfl⟩ | exact ⟨trivial, _, rfl⟩ | exact ⟨[], (List.append_nil _).symm⟩
  | 3, _ => simp at hx; subst hx; simp only [Int.cast_ofNat_Int, kB, kZ, kD, fillA, partsEv, zeroes, Nat.reduceSub, Int.reduceToNat, Nat.reduceMul, asInt?, asNat?, Int.reduceAdd, Int.reduceLE, Int.reduceLT, Int.reduceNeg, Nat.reduceLeDiff, VOpd.ev, Nat.reduceEqDiff, Nat.reduceAdd, reduceIte, reduceCtorEq, splice, resOf, tupOf, cellsV, AV.toV, AV.cell?, cellVal]; first | exact ⟨_, rfl⟩ | exact ⟨rfl, _, rfl⟩ | exact ⟨trivial, _, rfl⟩ | exact ⟨[], (List.append_nil _).symm⟩
theorem j_machine_Latency (h : On X) (hg : GlobAt st) (m : MachV) (k : Int) : J X.P X.F X.H (.call 23 [.agg m.row, iA k] st (.ret (.tup [iA (if okM m && hasCls k then latM m k else 0), iA (if okM m && hasCls k then 0 else 2)])) st) := by
  refine pure_intro (by rw [h.F]; rfl) rfl ?_
  simp only [v_machine_Latency, MachV.row, kB, kZ, kD, fillA, partsEv, zeroes, Nat.reduceSub, Int.reduceToNat, Nat.reduceMul, asInt?, asNat?, Int.reduceAdd, Int.reduceLE, Int.reduceLT, Int.reduceNeg, Nat.reduceLeDiff, VOpd.ev, Nat.reduceEqDiff, Nat.reduceAdd, reduceIte, reduceCtorEq, splice, resOf, tupOf, cellsV, AV.toV, AV.cell?, cellVal]
  refine callO_same (j_machine_Check h m) ?_
  cases ho : okM m
  · have e : chkM m = 2 := by unfold chkM; rw [ho]; rfl
    simp only [e, Int.reduceEq, Int.reduceNe, kB, kZ, kD, fillA, partsEv, zeroes, Nat.reduceSub, Int.reduceToNat, Nat.reduceMul, asInt?, asNat?, Int.reduceAdd, Int.reduceLE, Int.reduceLT, Int.reduceNeg, Nat.reduceLeDiff, VOpd.ev, Nat.reduceEqDiff, Nat.reduceAdd, reduceIte, reduceCtorEq, splice, resOf, tupOf, cellsV, AV.toV, AV.cell?, cellVal]
    first | exact ⟨_, rfl⟩ | exact ⟨rfl, _, rfl⟩ | exact ⟨trivial, _, rfl⟩ | exact ⟨[], (List.append_nil _).symm⟩
  · have e : chkM m = 0 := by unfold chkM; rw [ho]; rfl
    simp only [e, Int.reduceEq, Int.reduceNe, kB, kZ, kD, fillA, partsEv, zeroes, Nat.reduceSub, Int.reduceToNat, Nat.reduceMul, asInt?, asNat?, Int.reduceAdd, Int.reduceLE, Int.reduceLT, Int.reduceNeg, Nat.reduceLeDiff, VOpd.ev, Nat.reduceEqDiff, Nat.reduceAdd, reduceIte, reduceCtorEq, splice, resOf, tupOf, cellsV, AV.toV, AV.cell?, cellVal]
    refine callO_same (j_machine_Class h (hg.ext (Ext.of _ _)) k) ?_
    cases hk : hasCls k
    · simp only [hk, kB, kZ, kD, fillA, partsEv, zeroes, Nat.reduceSub, Int.reduceToNat, Nat.reduceMul, asInt?, asNat?, Int.reduceAdd, Int.reduceLE, Int.reduceLT, Int.reduceNeg, Nat.reduceLeDiff, VOpd.ev, Nat.reduceEqDiff, Nat.reduceAdd, reduceIte, reduceCtorEq, splice, resOf, tupOf, cellsV, AV.toV, AV.cell?, cellVal]
      first | exact ⟨_, rfl⟩ | exact ⟨rfl, _, rfl⟩ | exact ⟨trivial, _, rfl⟩ | exact ⟨[], (List.append_nil _).symm⟩
    · obtain ⟨c, hc, hcl, hx⟩ := lsAt m k hk
      unfold latM
      generalize m.ls.getD (clsM k).toNat 0 = x at *
      rw [hcl]
      simp only [MachV.ls] at hx
      match c, hc with
      | 0, _ => simp at hx; subst hx; simp only [hk, Int.cast_ofNat_Int, kB, kZ, kD, fillA, partsEv, zeroes, Nat.reduceSub, Int.reduceToNat, Nat.reduceMul, asInt?, asNat?, Int.reduceAdd, Int.reduceLE, Int.reduceLT, Int.reduceNeg, Nat.reduceLeDiff, VOpd.ev, Nat.reduceEqDiff, Nat.reduceAdd, reduceIte, reduceCtorEq, splice, resOf, tupOf, cellsV, AV.toV, AV.cell?, cellVal]; first | exact ⟨_, rfl⟩ | exact ⟨rfl, _, rfl⟩ | exact ⟨trivial, _, rfl⟩ | exact ⟨[], (List.append_nil _).symm⟩
      | 1, _ => simp at hx; subst hx; simp only [hk, Int.cast_ofNat_Int, kB, kZ, kD, fillA, partsEv, zeroes, Nat.reduceSub, Int.reduceToNat, Nat.reduceMul, asInt?, asNat?, Int.reduceAdd, Int.reduceLE, Int.reduceLT, Int.reduceNeg, Nat.reduceLeDiff, VOpd.ev, Nat.reduceEqDiff, Nat.reduceAdd, reduceIte, reduceCtorEq, splice, resOf, tupOf, cellsV, AV.toV, AV.cell?, cellVal]; first | exact ⟨_, rfl⟩ | exact ⟨rfl, _, rfl⟩ | exact ⟨trivial, _, rfl⟩ | exact ⟨[], (List.append_nil _).symm⟩
      | 2, _ => simp at hx; subst hx; simp only [hk, Int.cast_ofNat_Int, kB, kZ, kD, fillA, partsEv, zeroes, Nat.reduceSub, Int.reduceToNat, Nat.reduceMul, asInt?, asNat?, Int.reduceAdd, Int.reduceLE, Int.reduceLT, Int.reduceNeg, Nat.reduceLeDiff, VOpd.ev, Nat.reduceEqDiff, Nat.reduceAdd, reduceIte, reduceCtorEq, splice, resOf, tupOf, cellsV, AV.toV, AV.cell?, cellVal]; first | exact ⟨_, rfl⟩ | exact ⟨rfl, _, rfl⟩ | exact ⟨trivial, _, rfl⟩ | exact ⟨[], (List.append_nil _).symm⟩
      | 3, _ => simp at hx; subst hx; simp only [hk, Int.cast_ofNat_Int, kB, kZ, kD, fillA, partsEv, zeroes, Nat.reduceSub, Int.reduceToNat, Nat.reduceMul, asInt?, asNat?, Int.reduceAdd, Int.reduceLE, Int.reduceLT, Int.reduceNeg, Nat.reduceLeDiff, VOpd.ev, Nat.reduceEqDiff, Nat.reduceAdd, reduceIte, reduceCtorEq, splice, resOf, tupOf, cellsV, AV.toV, AV.cell?, cellVal]; first | exact ⟨_, rfl⟩ | exact ⟨rfl, _, rfl⟩ | exact ⟨trivial, _, rfl⟩ | exact ⟨[], (List.append_nil _).symm⟩
end
end Go.VX.Seat
end
section
set_option linter.unusedVariables false
set_option linter.unusedSimpArgs false
set_option maxRecDepth 4000
/-! Layer 19: the reference's Reads. -/
namespace Go.VX.Seat
open Go.Proofs
/-- What the reference of layer 18 reads of an operation without a Guard. -/
def bareL (o : OpV) : List Int := if oneK o.k then onceL (operL o) else []
def restL (o : OpV) : List Int := if decide (o.k = 27) || decide (o.k = 28) then [o.a] else if decide (o.k ≠ 26) then bareL o else []
def keepP (o : OpV) (x : Int) : Bool := decide (o.g = -1) || decide (x ≠ o.g)
def rdsR (o : OpV) : List Int := if hasCls o.k then (if decide (o.g ≠ -1) then [o.g] else []) ++ (restL o).filter (keepP o) else []
section
variable {X : Cx} {st : St}
theorem j_r18_uses (h : On X) (k : Int) (hk : oneK k = true) : J X.P X.F X.H (.call 58 [iA k] st (.ret (.tup [bA (hasA k), bA (hasB k), bA (hasC k)])) st) := by
  refine pure_intro (by rw [h.F]; rfl) rfl ?_
  have hb := oneK_bnd hk
  clear hk
  rcases k28 hb.1 (by omega) with rfl | rfl | rfl | rfl | rfl | rfl | rfl | rfl | rfl | rfl | rfl | rfl | rfl | rfl | rfl | rfl | rfl | rfl | rfl | rfl | rfl | rfl | rfl | rfl | rfl | rfl | rfl | rfl
  all_goals
    first
    | (exfalso; revert hb; decide)
    | (simp only [v_r18_uses, Int.reduceLE, Int.reduceEq, Int.reduceLT, kB, kZ, kD, fillA, partsEv, zeroes, Nat.reduceSub, Int.reduceToNat, Nat.reduceMul, asInt?, asNat?, Int.reduceAdd, Int.reduceLE, Int.reduceLT, Int.reduceNeg, Nat.reduceLeDiff, VOpd.ev, Nat.reduceEqDiff, Nat.reduceAdd, reduceIte, reduceCtorEq, splice, resOf, tupOf, cellsV, AV.toV, AV.cell?, cellVal]
       exact ⟨rfl, _, rfl⟩)
theorem j_r18_in (h : On X) {lo hi : Nat} {v : AV} {l : List Int} (hv : IntsAt st lo hi v l) (n : Int) (hlen : (l.length : Int) < 4611686018427387904) :
    J X.P X.F X.H (.call 72 [v, iA n] st (.ret (bA (decide (n ∈ l)))) st) := by
  refine pure_intro (by rw [h.F]; rfl) rfl ?_
  have l1 := hv.len
  simp only [List.length_map] at l1
  simp only [v_r18_in, l1, kB, kZ, kD, fillA, partsEv, zeroes, Nat.reduceSub, Int.reduceToNat, Nat.reduceMul, asInt?, asNat?, Int.reduceAdd, Int.reduceLE, Int.reduceLT, Int.reduceNeg, Nat.reduceLeDiff, VOpd.ev, Nat.reduceEqDiff, Nat.reduceAdd, reduceIte, reduceCtorEq, splice, resOf, tupOf, cellsV, AV.toV, AV.cell?, cellVal]
  refine loop_live [0, 1] (fun m e => ∃ i : Nat, i + m = l.length ∧ e 5 = iA i ∧ ∀ j (hj : j < l.length), j < i → l[j] ≠ n) l.length ?_ ?_
  · exact ⟨0, by omega, by simp only [kB, kZ, kD, fillA, partsEv, zeroes, Nat.reduceSub, Int.reduceToNat, Nat.reduceMul, asInt?, asNat?, Int.reduceAdd, Int.reduceLE, Int.reduceLT, Int.reduceNeg, Nat.reduceLeDiff, VOpd.ev, Nat.reduceEqDiff, Nat.reduceAdd, reduceIte, reduceCtorEq, splice, resOf, tupOf, cellsV, AV.toV, AV.cell?, cellVal], fun j _ hj => absurd hj (by omega)⟩
  · intro m e hL ⟨i, him, h5, hpre⟩
    simp only [kB, kZ, kD, fillA, partsEv, zeroes, Nat.reduceSub, Int.reduceToNat, Nat.reduceMul, asInt?, asNat?, Int.reduceAdd, Int.reduceLE, Int.reduceLT, Int.reduceNeg, Nat.reduceLeDiff, VOpd.ev, Nat.reduceEqDiff, Nat.reduceAdd, reduceIte, reduceCtorEq, splice, resOf, tupOf, cellsV, AV.toV, AV.cell?, cellVal] at hL
    obtain ⟨h0, h1⟩ := hL
    simp only [h0, h1, h5, l1, kB, kZ, kD, fillA, partsEv, zeroes, Nat.reduceSub, Int.reduceToNat, Nat.reduceMul, asInt?, asNat?, Int.reduceAdd, Int.reduceLE, Int.reduceLT, Int.reduceNeg, Nat.reduceLeDiff, VOpd.ev, Nat.reduceEqDiff, Nat.reduceAdd, reduceIte, reduceCtorEq, splice, resOf, tupOf, cellsV, AV.toV, AV.cell?, cellVal]
    refine condO_intro ?_ ?_ <;> intro hc
    · have hi : i < l.length := by have := of_decide_eq_true hc; omega
      obtain ⟨b1, o1, he1, _, ha1, _⟩ := hv.get i (by simpa using hi)
      have p1 := ha1 [] 0 (by omega)
      simp only [List.getElem_map, Nat.add_zero, List.getElem?_cons_zero] at p1
      simp only [h0, h1, h5, l1, he1, p1, kB, kZ, kD, fillA, partsEv, zeroes, Nat.reduceSub, Int.reduceToNat, Nat.reduceMul, asInt?, asNat?, Int.reduceAdd, Int.reduceLE, Int.reduceLT, Int.reduceNeg, Nat.reduceLeDiff, VOpd.ev, Nat.reduceEqDiff, Nat.reduceAdd, reduceIte, reduceCtorEq, splice, resOf, tupOf, cellsV, AV.toV, AV.cell?, cellVal]
      refine condO_intro ?_ ?_ <;> intro hq
      · have hq := of_decide_eq_true hq
        have : decide (n ∈ l) = true := decide_eq_true (hq ▸ List.getElem_mem hi)
        simp only [this, kB, kZ, kD, fillA, partsEv, zeroes, Nat.reduceSub, Int.reduceToNat, Nat.reduceMul, asInt?, asNat?, Int.reduceAdd, Int.reduceLE, Int.reduceLT, Int.reduceNeg, Nat.reduceLeDiff, VOpd.ev, Nat.reduceEqDiff, Nat.reduceAdd, reduceIte, reduceCtorEq, splice, resOf, tupOf, cellsV, AV.toV, AV.cell?, cellVal]
        first | exact ⟨_, rfl⟩ | exact ⟨rfl, _, rfl⟩ | exact ⟨trivial, _, rfl⟩ | exact ⟨[], (List.append_nil _).symm⟩
      · have hq := of_decide_eq_false hq
        simp only [h0, h1, h5, kB, kZ, kD, fillA, partsEv, zeroes, Nat.reduceSub, Int.reduceToNat, Nat.reduceMul, asInt?, asNat?, Int.reduceAdd, Int.reduceLE, Int.reduceLT, Int.reduceNeg, Nat.reduceLeDiff, VOpd.ev, Nat.reduceEqDiff, Nat.reduceAdd, reduceIte, reduceCtorEq, splice, resOf, tupOf, cellsV, AV.toV, AV.cell?, cellVal]
        rw [wrap_small (by omega) (by omega)]
        refine ⟨m - 1, by omega, i + 1, by omega, by simp, fun j hj hji => ?_⟩
        by_cases e : j = i
        · subst e; exact hq
        · exact hpre j hj (by omega)
    · have hi : i = l.length := by have := of_decide_eq_false hc; omega
      have : decide (n ∈ l) = false := decide_eq_false (not_mem_take fun j hj => hpre j hj (by omega))
      simp only [this, kB, kZ, kD, fillA, partsEv, zeroes, Nat.reduceSub, Int.reduceToNat, Nat.reduceMul, asInt?, asNat?, Int.reduceAdd, Int.reduceLE, Int.reduceLT, Int.reduceNeg, Nat.reduceLeDiff, VOpd.ev, Nat.reduceEqDiff, Nat.reduceAdd, reduceIte, reduceCtorEq, splice, resOf, tupOf, cellsV, AV.toV, AV.cell?, cellVal]
      first | exact ⟨_, rfl⟩ | exact ⟨rfl, _, rfl⟩ | exact ⟨trivial, _, rfl⟩ | exact ⟨[], (List.append_nil _).symm⟩
/-- put: one's own list, with one number more if it is not there. -/
theorem w_r18_put (h : On X) {lo : Nat} {w : AV} {xs : List Int} (hw : OwnS st lo w 1 (rowsI xs)) (hlo : lo ≤ st.length) (n : Int) (hlen : xs.length ≤ 1000000) :
    wpF X 59 [w, iA n] st fun r s => ∃ w', r = .ret w' ∧ Agree (fun b => boxOf w = some b) st s ∧ OwnS s lo w' 1 (rowsI (putL xs n)) := by
  refine wpF_go (fn := v_r18_put) (by rw [h.F]; rfl) ?_
  simp only [v_r18_put, List.append_nil, kB, kZ, kD, fillA, partsEv, zeroes, Nat.reduceSub, Int.reduceToNat, Nat.reduceMul, asInt?, asNat?, Int.reduceAdd, Int.reduceLE, Int.reduceLT, Int.reduceNeg, Nat.reduceLeDiff, VOpd.ev, Nat.reduceEqDiff, Nat.reduceAdd, reduceIte, reduceCtorEq, splice, resOf, tupOf, cellsV, AV.toV, AV.cell?, cellVal]
  refine callO_same (j_r18_in h hw.arr n (by omega)) ?_
  simp only [kB, kZ, kD, fillA, partsEv, zeroes, Nat.reduceSub, Int.reduceToNat, Nat.reduceMul, asInt?, asNat?, Int.reduceAdd, Int.reduceLE, Int.reduceLT, Int.reduceNeg, Nat.reduceLeDiff, VOpd.ev, Nat.reduceEqDiff, Nat.reduceAdd, reduceIte, reduceCtorEq, splice, resOf, tupOf, cellsV, AV.toV, AV.cell?, cellVal]
  refine condO_intro ?_ ?_ <;> intro hc
  · simp only [List.append_nil, kB, kZ, kD, fillA, partsEv, zeroes, Nat.reduceSub, Int.reduceToNat, Nat.reduceMul, asInt?, asNat?, Int.reduceAdd, Int.reduceLE, Int.reduceLT, Int.reduceNeg, Nat.reduceLeDiff, VOpd.ev, Nat.reduceEqDiff, Nat.reduceAdd, reduceIte, reduceCtorEq, splice, resOf, tupOf, cellsV, AV.toV, AV.cell?, cellVal]
    exact ⟨Agree.refl _ _, by rw [putL_pos hc]; exact hw⟩
  · simp only [List.append_nil, kB, kZ, kD, fillA, partsEv, zeroes, Nat.reduceSub, Int.reduceToNat, Nat.reduceMul, asInt?, asNat?, Int.reduceAdd, Int.reduceLE, Int.reduceLT, Int.reduceNeg, Nat.reduceLeDiff, VOpd.ev, Nat.reduceEqDiff, Nat.reduceAdd, reduceIte, reduceCtorEq, splice, resOf, tupOf, cellsV, AV.toV, AV.cell?, cellVal]
    have hb : (st ++ [⟨[iA n], 0, 0⟩])[st.length]? = some ⟨(rowsI [n]).flatten, 0, 0⟩ := by simp
    refine opR_append (vx := w) (vy := .sl st.length 0 1 1 true) (lo := lo) (lo' := st.length) (hi' := st.length + 1) (rows := rowsI xs) (rows2 := rowsI [n]) (by simp only [kB, kZ, kD, fillA, partsEv, zeroes, Nat.reduceSub, Int.reduceToNat, Nat.reduceMul, asInt?, asNat?, Int.reduceAdd, Int.reduceLE, Int.reduceLT, Int.reduceNeg, Nat.reduceLeDiff, VOpd.ev, Nat.reduceEqDiff, Nat.reduceAdd, reduceIte, reduceCtorEq, splice, resOf, tupOf, cellsV, AV.toV, AV.cell?, cellVal]) (by simp only [kB, kZ, kD, fillA, partsEv, zeroes, Nat.reduceSub, Int.reduceToNat, Nat.reduceMul, asInt?, asNat?, Int.reduceAdd, Int.reduceLE, Int.reduceLT, Int.reduceNeg, Nat.reduceLeDiff, VOpd.ev, Nat.reduceEqDiff, Nat.reduceAdd, reduceIte, reduceCtorEq, splice, resOf, tupOf, cellsV, AV.toV, AV.cell?, cellVal]) (own_frame hw _) (by simp; omega) (ArrAt.ofBox hb (by decide) (by simp) rfl) (by simp; omega) (by rfl) ?_
    intro w' s' hag hown _
    simp only [kB, kZ, kD, fillA, partsEv, zeroes, Nat.reduceSub, Int.reduceToNat, Nat.reduceMul, asInt?, asNat?, Int.reduceAdd, Int.reduceLE, Int.reduceLT, Int.reduceNeg, Nat.reduceLeDiff, VOpd.ev, Nat.reduceEqDiff, Nat.reduceAdd, reduceIte, reduceCtorEq, splice, resOf, tupOf, cellsV, AV.toV, AV.cell?, cellVal]
    refine ⟨?_, by rw [putL_neg hc]; simpa using hown⟩
    exact ((Agree.app (fun _ => False) st [⟨[iA n], 0, 0⟩]).trans hag).mono fun b _ hx => by
      rcases hx with hx | hx
      · exact hx.elim
      · exact hx.2
theorem callO_put {K : Env → St → Post3 → Prop} {Q : Post3} {env : Env} {dst : Option Nat} (h : On X) (M L : St) {w : AV} {xs : List Int} (hw : OwnS (st ++ (M ++ L)) (st.length + M.length) w 1 (rowsI xs)) (n : Int) (hlen : xs.length ≤ 1000000)
    (hk : ∀ w' L', OwnS (st ++ (M ++ L')) (st.length + M.length) w' 1 (rowsI (putL xs n)) → K (env.put dst w') (st ++ (M ++ L')) Q) : callO X 59 [w, iA n] dst [] K env (st ++ (M ++ L)) Q := by
  refine wpF.mono (w_r18_put h hw (by simp) n hlen) ?_
  rintro r s ⟨w', rfl, hag, hown⟩
  obtain ⟨L', rfl⟩ := Agree.shape (st := st) (M := M) (N := L) hag (fun b hb => (hw.bnd b hb).1)
  exact ⟨rfl, hk w' L' hown⟩
theorem w_r18_Reads (h : On X) (o : OpV) (ho : oneK o.k = true) (hg : o.g = -1) :
    wpF X 45 [.agg o.row] st fun r s => ∃ w m, r = .ret w ∧ s = st ++ m ∧ OwnS s st.length w 1 (rowsI (onceL (operL o))) := by
  refine wpF_go (fn := v_r18_Reads) (by rw [h.F]; rfl) ?_
  have hb := oneK_bnd ho
  have d1 : decide (o.k < 1) = false := decide_eq_false (by omega)
  have d2 : decide (25 < o.k) = false := decide_eq_false (by omega)
  have d3 : decide (o.g ≠ -1) = false := decide_eq_false (by omega)
  simp only [v_r18_Reads, OpV.row, d1, d2, kB, kZ, kD, fillA, partsEv, zeroes, Nat.reduceSub, Int.reduceToNat, Nat.reduceMul, asInt?, asNat?, Int.reduceAdd, Int.reduceLE, Int.reduceLT, Int.reduceNeg, Nat.reduceLeDiff, VOpd.ev, Nat.reduceEqDiff, Nat.reduceAdd, reduceIte, reduceCtorEq, splice, resOf, tupOf, cellsV, AV.toV, AV.cell?, cellVal]
  refine callO_same (j_r18_uses h _ ho) ?_
  simp only [kB, kZ, kD, fillA, partsEv, zeroes, Nat.reduceSub, Int.reduceToNat, Nat.reduceMul, asInt?, asNat?, Int.reduceAdd, Int.reduceLE, Int.reduceLT, Int.reduceNeg, Nat.reduceLeDiff, VOpd.ev, Nat.reduceEqDiff, Nat.reduceAdd, reduceIte, reduceCtorEq, splice, resOf, tupOf, cellsV, AV.toV, AV.cell?, cellVal]
  refine anyCond m0 (fun e s => ∃ (L : St) (w : AV), s = st ++ ([⟨[iA o.k, iA o.d, iA o.a, iA o.b, iA o.c, iA o.n, iA o.g], 0, 0⟩] ++ L) ∧ e 1 = .ptr (st.length + 0) 0 ∧ e 3 = w ∧ e 5 = bA (hasB o.k) ∧ e 6 = bA (hasC o.k) ∧ (onceL (if hasA o.k then [o.a] else [])).length ≤ 1 ∧ OwnS s (st.length + 1) w 1 (rowsI (onceL (if hasA o.k then [o.a] else [])))) ?_ ?_
  · refine condO_intro ?_ ?_ <;> intro hc
    · simp only [kB, kZ, kD, fillA, partsEv, zeroes, Nat.reduceSub, Int.reduceToNat, Nat.reduceMul, asInt?, asNat?, Int.reduceAdd, Int.reduceLE, Int.reduceLT, Int.reduceNeg, Nat.reduceLeDiff, VOpd.ev, Nat.reduceEqDiff, Nat.reduceAdd, reduceIte, reduceCtorEq, splice, resOf, tupOf, cellsV, AV.toV, AV.cell?, cellVal]
      refine callO_put h [⟨[iA o.k, iA o.d, iA o.a, iA o.b, iA o.c, iA o.n, iA o.g], 0, 0⟩] ([] : St) (w := (.sc (.slice none 0 0))) (xs := []) (own_nil _ _ _) _ (by simp) ?_
      intro w' L' hown'
      have hl := putL_len ([]) o.a
      have hst : onceL (if hasA o.k then [o.a] else []) = putL ([]) o.a := by simp only [hc, if_true]; rfl
      simp only [kB, kZ, kD, fillA, partsEv, zeroes, Nat.reduceSub, Int.reduceToNat, Nat.reduceMul, asInt?, asNat?, Int.reduceAdd, Int.reduceLE, Int.reduceLT, Int.reduceNeg, Nat.reduceLeDiff, VOpd.ev, Nat.reduceEqDiff, Nat.reduceAdd, reduceIte, reduceCtorEq, splice, resOf, tupOf, cellsV, AV.toV, AV.cell?, cellVal]
      rw [hst]
      have hl2 : (putL ([]) o.a).length ≤ 1 := by simpa using hl
      refine ⟨L', w', rfl, ?_⟩
      simp_all
    · have hst : onceL (if hasA o.k then [o.a] else []) = [] := by simp only [hc, Bool.false_eq_true, if_false]; rfl
      simp only [kB, kZ, kD, fillA, partsEv, zeroes, Nat.reduceSub, Int.reduceToNat, Nat.reduceMul, asInt?, asNat?, Int.reduceAdd, Int.reduceLE, Int.reduceLT, Int.reduceNeg, Nat.reduceLeDiff, VOpd.ev, Nat.reduceEqDiff, Nat.reduceAdd, reduceIte, reduceCtorEq, splice, resOf, tupOf, cellsV, AV.toV, AV.cell?, cellVal]
      rw [hst]
      refine ⟨([] : St), (.sc (.slice none 0 0)), rfl, ?_⟩
      exact ⟨rfl, by simp, own_nil _ _ _⟩
  rintro e s ⟨L, w, rfl, k1, k3, k5, k6, hlen, hown⟩
  simp only [k1, k3, k5, k6, kB, kZ, kD, fillA, partsEv, zeroes, Nat.reduceSub, Int.reduceToNat, Nat.reduceMul, asInt?, asNat?, Int.reduceAdd, Int.reduceLE, Int.reduceLT, Int.reduceNeg, Nat.reduceLeDiff, VOpd.ev, Nat.reduceEqDiff, Nat.reduceAdd, reduceIte, reduceCtorEq, splice, resOf, tupOf, cellsV, AV.toV, AV.cell?, cellVal]
  refine anyCond m0 (fun e s => ∃ (L : St) (w : AV), s = st ++ ([⟨[iA o.k, iA o.d, iA o.a, iA o.b, iA o.c, iA o.n, iA o.g], 0, 0⟩] ++ L) ∧ e 1 = .ptr (st.length + 0) 0 ∧ e 3 = w ∧ e 6 = bA (hasC o.k) ∧ (onceL ((if hasA o.k then [o.a] else []) ++ (if hasB o.k then [o.b] else []))).length ≤ 2 ∧ OwnS s (st.length + 1) w 1 (rowsI (onceL ((if hasA o.k then [o.a] else []) ++ (if hasB o.k then [o.b] else []))))) ?_ ?_
  · refine condO_intro ?_ ?_ <;> intro hc
    · simp only [k1, k3, kB, kZ, kD, fillA, partsEv, zeroes, Nat.reduceSub, Int.reduceToNat, Nat.reduceMul, asInt?, asNat?, Int.reduceAdd, Int.reduceLE, Int.reduceLT, Int.reduceNeg, Nat.reduceLeDiff, VOpd.ev, Nat.reduceEqDiff, Nat.reduceAdd, reduceIte, reduceCtorEq, splice, resOf, tupOf, cellsV, AV.toV, AV.cell?, cellVal]
      refine callO_put h [⟨[iA o.k, iA o.d, iA o.a, iA o.b, iA o.c, iA o.n, iA o.g], 0, 0⟩] L (w := w) (xs := onceL (if hasA o.k then [o.a] else [])) hown _ (by omega) ?_
      intro w' L' hown'
      have hl := putL_len (onceL (if hasA o.k then [o.a] else [])) o.b
      have hst : onceL ((if hasA o.k then [o.a] else []) ++ (if hasB o.k then [o.b] else [])) = putL (onceL (if hasA o.k then [o.a] else [])) o.b := by simp only [hc, if_true]; unfold onceL; rw [List.foldl_append]; rfl
      simp only [k1, k3, kB, kZ, kD, fillA, partsEv, zeroes, Nat.reduceSub, Int.reduceToNat, Nat.reduceMul, asInt?, asNat?, Int.reduceAdd, Int.reduceLE, Int.reduceLT, Int.reduceNeg, Nat.reduceLeDiff, VOpd.ev, Nat.reduceEqDiff, Nat.reduceAdd, reduceIte, reduceCtorEq, splice, resOf, tupOf, cellsV, AV.toV, AV.cell?, cellVal]
      rw [hst]
      have hl2 : (putL (onceL (if hasA o.k then [o.a] else [])) o.b).length ≤ 2 := by omega
      refine ⟨L', w', rfl, ?_⟩
      simp_all
    · have hst : onceL ((if hasA o.k then [o.a] else []) ++ (if hasB o.k then [o.b] else [])) = onceL (if hasA o.k then [o.a] else []) := by simp only [hc, Bool.false_eq_true, if_false]; rw [List.append_nil]
      simp only [k1, k3, kB, kZ, kD, fillA, partsEv, zeroes, Nat.reduceSub, Int.reduceToNat, Nat.reduceMul, asInt?, asNat?, Int.reduceAdd, Int.reduceLE, Int.reduceLT, Int.reduceNeg, Nat.reduceLeDiff, VOpd.ev, Nat.reduceEqDiff, Nat.reduceAdd, reduceIte, reduceCtorEq, splice, resOf, tupOf, cellsV, AV.toV, AV.cell?, cellVal]
      rw [hst]
      refine ⟨L, w, by simp, ?_⟩
      simp_all; try omega
  rintro e s ⟨L, w, rfl, k1, k3, k6, hlen, hown⟩
  simp only [k1, k3, k6, kB, kZ, kD, fillA, partsEv, zeroes, Nat.reduceSub, Int.reduceToNat, Nat.reduceMul, asInt?, asNat?, Int.reduceAdd, Int.reduceLE, Int.reduceLT, Int.reduceNeg, Nat.reduceLeDiff, VOpd.ev, Nat.reduceEqDiff, Nat.reduceAdd, reduceIte, reduceCtorEq, splice, resOf, tupOf, cellsV, AV.toV, AV.cell?, cellVal]
  refine anyCond m0 (fun e s => ∃ (L : St) (w : AV), s = st ++ ([⟨[iA o.k, iA o.d, iA o.a, iA o.b, iA o.c, iA o.n, iA o.g], 0, 0⟩] ++ L) ∧ e 1 = .ptr (st.length + 0) 0 ∧ e 3 = w ∧ (onceL ((if hasA o.k then [o.a] else []) ++ (if hasB o.k then [o.b] else []) ++ (if hasC o.k then [o.c] else []))).length ≤ 3 ∧ OwnS s (st.length + 1) w 1 (rowsI (onceL ((if hasA o.k then [o.a] else []) ++ (if hasB o.k then [o.b] else []) ++ (if hasC o.k then [o.c] else []))))) ?_ ?_
  · refine condO_intro ?_ ?_ <;> intro hc
    · simp only [k1, k3, kB, kZ, kD, fillA, partsEv, zeroes, Nat.reduceSub, Int.reduceToNat, Nat.reduceMul, asInt?, asNat?, Int.reduceAdd, Int.reduceLE, Int.reduceLT, Int.reduceNeg, Nat.reduceLeDiff, VOpd.ev, Nat.reduceEqDiff, Nat.reduceAdd, reduceIte, reduceCtorEq, splice, resOf, tupOf, cellsV, AV.toV, AV.cell?, cellVal]
      refine callO_put h [⟨[iA o.k, iA o.d, iA o.a, iA o.b, iA o.c, iA o.n, iA o.g], 0, 0⟩] L (w := w) (xs := onceL ((if hasA o.k then [o.a] else []) ++ (if hasB o.k then [o.b] else []))) hown _ (by omega) ?_
      intro w' L' hown'
      have hl := putL_len (onceL ((if hasA o.k then [o.a] else []) ++ (if hasB o.k then [o.b] else []))) o.c
      have hst : onceL ((if hasA o.k then [o.a] else []) ++ (if hasB o.k then [o.b] else []) ++ (if hasC o.k then [o.c] else [])) = putL (onceL ((if hasA o.k then [o.a] else []) ++ (if hasB o.k then [o.b] else []))) o.c := by simp only [hc, if_true]; unfold onceL; rw [List.foldl_append]; rfl
      simp only [k1, k3, kB, kZ, kD, fillA, partsEv, zeroes, Nat.reduceSub, Int.reduceToNat, Nat.reduceMul, asInt?, asNat?, Int.reduceAdd, Int.reduceLE, Int.reduceLT, Int.reduceNeg, Nat.reduceLeDiff, VOpd.ev, Nat.reduceEqDiff, Nat.reduceAdd, reduceIte, reduceCtorEq, splice, resOf, tupOf, cellsV, AV.toV, AV.cell?, cellVal]
      rw [hst]
      have hl2 : (putL (onceL ((if hasA o.k then [o.a] else []) ++ (if hasB o.k then [o.b] else []))) o.c).length ≤ 3 := by omega
      refine ⟨L', w', rfl, ?_⟩
      simp_all
    · have hst : onceL ((if hasA o.k then [o.a] else []) ++ (if hasB o.k then [o.b] else []) ++ (if hasC o.k then [o.c] else [])) = onceL ((if hasA o.k then [o.a] else []) ++ (if hasB o.k then [o.b] else [])) := by simp only [hc, Bool.false_eq_true, if_false]; rw [List.append_nil]
      simp only [k1, k3, kB, kZ, kD, fillA, partsEv, zeroes, Nat.reduceSub, Int.reduceToNat, Nat.reduceMul, asInt?, asNat?, Int.reduceAdd, Int.reduceLE, Int.reduceLT, Int.reduceNeg, Nat.reduceLeDiff, VOpd.ev, Nat.reduceEqDiff, Nat.reduceAdd, reduceIte, reduceCtorEq, splice, resOf, tupOf, cellsV, AV.toV, AV.cell?, cellVal]
      rw [hst]
      refine ⟨L, w, by simp, ?_⟩
      simp_all; try omega
  rintro e s ⟨L, w, rfl, k1, k3, hlen, hown⟩
  simp only [k1, k3, d3, kB, kZ, kD, fillA, partsEv, zeroes, Nat.reduceSub, Int.reduceToNat, Nat.reduceMul, asInt?, asNat?, Int.reduceAdd, Int.reduceLE, Int.reduceLT, Int.reduceNeg, Nat.reduceLeDiff, VOpd.ev, Nat.reduceEqDiff, Nat.reduceAdd, reduceIte, reduceCtorEq, splice, resOf, tupOf, cellsV, AV.toV, AV.cell?, cellVal]
  exact ⟨_, _, rfl, rfl, hown.low (by omega)⟩
end
end Go.VX.Seat
end
section
set_option linter.unusedVariables false
set_option linter.unusedSimpArgs false
set_option maxRecDepth 4000
/-! Layer 19: the reference's Reads, as a whole. -/
namespace Go.VX.Seat
open Go.Proofs
theorem restL_len (o : OpV) : (restL o).length ≤ 3 := by
  have h1 := operL_len o
  have h2 := foldl_putL_len (operL o) []
  unfold restL bareL onceL
  simp at h2
  cases decide (o.k = 27) <;> cases decide (o.k = 28) <;> cases decide (o.k ≠ 26) <;> cases oneK o.k <;> simp <;> omega
section
variable {X : Cx} {st : St}
theorem w_r19_Reads (h : On X) (o : OpV) :
    wpF X 26 [.agg o.row] st fun r s => ∃ w m, r = .ret w ∧ s = st ++ m ∧ OwnS s st.length w 1 (rowsI (rdsR o)) := by
  refine wpF_go (fn := v_r19_Reads) (by rw [h.F]; rfl) ?_
  have hrl := restL_len o
  simp only [v_r19_Reads, OpV.row, kB, kZ, kD, fillA, partsEv, zeroes, Nat.reduceSub, Int.reduceToNat, Nat.reduceMul, asInt?, asNat?, Int.reduceAdd, Int.reduceLE, Int.reduceLT, Int.reduceNeg, Nat.reduceLeDiff, VOpd.ev, Nat.reduceEqDiff, Nat.reduceAdd, reduceIte, reduceCtorEq, splice, resOf, tupOf, cellsV, AV.toV, AV.cell?, cellVal]
  refine callO_same (j_r19_Class h _) ?_
  simp only [kB, kZ, kD, fillA, partsEv, zeroes, Nat.reduceSub, Int.reduceToNat, Nat.reduceMul, asInt?, asNat?, Int.reduceAdd, Int.reduceLE, Int.reduceLT, Int.reduceNeg, Nat.reduceLeDiff, VOpd.ev, Nat.reduceEqDiff, Nat.reduceAdd, reduceIte, reduceCtorEq, splice, resOf, tupOf, cellsV, AV.toV, AV.cell?, cellVal]
  refine condO_intro ?_ ?_ <;> intro hcl
  · have hcl : hasCls o.k = false := by simpa using hcl
    have : rdsR o = [] := by unfold rdsR; simp only [hcl, Bool.false_eq_true, if_false]
    rw [this]
    simp only [kB, kZ, kD, fillA, partsEv, zeroes, Nat.reduceSub, Int.reduceToNat, Nat.reduceMul, asInt?, asNat?, Int.reduceAdd, Int.reduceLE, Int.reduceLT, Int.reduceNeg, Nat.reduceLeDiff, VOpd.ev, Nat.reduceEqDiff, Nat.reduceAdd, reduceIte, reduceCtorEq, splice, resOf, tupOf, cellsV, AV.toV, AV.cell?, cellVal]
    exact ⟨_, _, rfl, rfl, own_nil _ _ _⟩
  have hcl : hasCls o.k = true := by simpa using hcl
  have hrd : rdsR o = (if decide (o.g ≠ -1) then [o.g] else []) ++ (restL o).filter (keepP o) := by unfold rdsR; simp only [hcl, if_true]
  rw [hrd]
  simp only [kB, kZ, kD, fillA, partsEv, zeroes, Nat.reduceSub, Int.reduceToNat, Nat.reduceMul, asInt?, asNat?, Int.reduceAdd, Int.reduceLE, Int.reduceLT, Int.reduceNeg, Nat.reduceLeDiff, VOpd.ev, Nat.reduceEqDiff, Nat.reduceAdd, reduceIte, reduceCtorEq, splice, resOf, tupOf, cellsV, AV.toV, AV.cell?, cellVal]
  refine anyCond m0 (fun e s => ∃ (L : St) (w : AV), s = st ++ (⟨[iA o.k, iA o.d, iA o.a, iA o.b, iA o.c, iA o.n, iA o.g], 0, 0⟩ :: L) ∧ e 1 = .ptr (st.length + 0) 0 ∧ e 3 = w ∧ OwnS s (st.length + 1) w 1 (rowsI (if decide (o.g ≠ -1) then [o.g] else []))) ?_ ?_
  · refine condO_intro ?_ ?_ <;> intro hq
    · simp only [kB, kZ, kD, fillA, partsEv, zeroes, Nat.reduceSub, Int.reduceToNat, Nat.reduceMul, asInt?, asNat?, Int.reduceAdd, Int.reduceLE, Int.reduceLT, Int.reduceNeg, Nat.reduceLeDiff, VOpd.ev, Nat.reduceEqDiff, Nat.reduceAdd, reduceIte, reduceCtorEq, splice, resOf, tupOf, cellsV, AV.toV, AV.cell?, cellVal]
      refine opR_app1 [⟨[iA o.k, iA o.d, iA o.a, iA o.b, iA o.c, iA o.n, iA o.g], 0, 0⟩] (L := ([] : St)) (w := (.sc (.slice none 0 0))) (xs := []) (by simp only [kB, kZ, kD, fillA, partsEv, zeroes, Nat.reduceSub, Int.reduceToNat, Nat.reduceMul, asInt?, asNat?, Int.reduceAdd, Int.reduceLE, Int.reduceLT, Int.reduceNeg, Nat.reduceLeDiff, VOpd.ev, Nat.reduceEqDiff, Nat.reduceAdd, reduceIte, reduceCtorEq, splice, resOf, tupOf, cellsV, AV.toV, AV.cell?, cellVal]) (by simp only [kB, kZ, kD, fillA, partsEv, zeroes, Nat.reduceSub, Int.reduceToNat, Nat.reduceMul, asInt?, asNat?, Int.reduceAdd, Int.reduceLE, Int.reduceLT, Int.reduceNeg, Nat.reduceLeDiff, VOpd.ev, Nat.reduceEqDiff, Nat.reduceAdd, reduceIte, reduceCtorEq, splice, resOf, tupOf, cellsV, AV.toV, AV.cell?, cellVal]; rfl) (by simp) (own_nil _ _ _) (by simp) ?_
      intro w' L' hown'
      simp only [kB, kZ, kD, fillA, partsEv, zeroes, Nat.reduceSub, Int.reduceToNat, Nat.reduceMul, asInt?, asNat?, Int.reduceAdd, Int.reduceLE, Int.reduceLT, Int.reduceNeg, Nat.reduceLeDiff, VOpd.ev, Nat.reduceEqDiff, Nat.reduceAdd, reduceIte, reduceCtorEq, splice, resOf, tupOf, cellsV, AV.toV, AV.cell?, cellVal]
      refine ⟨L', w', rfl, rfl, ?_⟩
      simpa [hq] using hown'
    · simp only [hq, kB, kZ, kD, fillA, partsEv, zeroes, Nat.reduceSub, Int.reduceToNat, Nat.reduceMul, asInt?, asNat?, Int.reduceAdd, Int.reduceLE, Int.reduceLT, Int.reduceNeg, Nat.reduceLeDiff, VOpd.ev, Nat.reduceEqDiff, Nat.reduceAdd, reduceIte, reduceCtorEq, splice, resOf, tupOf, cellsV, AV.toV, AV.cell?, cellVal]
      exact ⟨([] : St), _, rfl, rfl, own_nil _ _ _⟩
  rintro e s ⟨L, w, rfl, k1, k3, hown⟩
  simp only [k1, k3, kB, kZ, kD, fillA, partsEv, zeroes, Nat.reduceSub, Int.reduceToNat, Nat.reduceMul, asInt?, asNat?, Int.reduceAdd, Int.reduceLE, Int.reduceLT, Int.reduceNeg, Nat.reduceLeDiff, VOpd.ev, Nat.reduceEqDiff, Nat.reduceAdd, reduceIte, reduceCtorEq, splice, resOf, tupOf, cellsV, AV.toV, AV.cell?, cellVal]
  refine anyG (mS m0) (fun e s => ∃ (L : St) (v : AV) (lo hi : Nat), s = st ++ (⟨[iA o.k, iA o.d, iA o.a, iA o.b, iA o.c, iA o.n, iA o.g], 0, 0⟩ :: L) ∧ e 1 = .ptr (st.length + 0) 0 ∧ e 3 = w ∧ e 6 = v ∧ OwnS s (st.length + 1) w 1 (rowsI (if decide (o.g ≠ -1) then [o.g] else [])) ∧ IntsAt s lo hi v (restL o) ∧ ∀ b, boxOf v = some b → boxOf w ≠ some b) ?_ ?_
  · cases h1 : decide (o.k = 27)
    case true =>
      simp only [k1, k3, h1, kB, kZ, kD, fillA, partsEv, zeroes, Nat.reduceSub, Int.reduceToNat, Nat.reduceMul, asInt?, asNat?, Int.reduceAdd, Int.reduceLE, Int.reduceLT, Int.reduceNeg, Nat.reduceLeDiff, VOpd.ev, Nat.reduceEqDiff, Nat.reduceAdd, reduceIte, reduceCtorEq, splice, resOf, tupOf, cellsV, AV.toV, AV.cell?, cellVal]
      have hr : restL o = [o.a] := by unfold restL; simp only [h1, Bool.true_or, Bool.or_true, if_true]
      rw [hr]
      have hb : (st ++ (⟨[iA o.k, iA o.d, iA o.a, iA o.b, iA o.c, iA o.n, iA o.g], 0, 0⟩ :: (L ++ [⟨[iA o.a], 0, 0⟩])))[st.length + (L.length + 1)]? = some ⟨(rowsI [o.a]).flatten, 0, 0⟩ := by
        rw [List.getElem?_append_right (by omega)]; simp
      refine ⟨_, _, _, _, rfl, rfl, ?_, ArrAt.ofBox hb (by decide) (by simp) rfl, ?_⟩
      · simpa using own_frame hown [⟨[iA o.a], 0, 0⟩]
      · intro b hb2 hw
        have := (hown.bnd b hw).2
        simp [boxOf] at hb2
        simp at this
        omega

    cases h2 : decide (o.k = 28)
    case true =>
      simp only [k1, k3, h1, h2, kB, kZ, kD, fillA, partsEv, zeroes, Nat.reduceSub, Int.reduceToNat, Nat.reduceMul, asInt?, asNat?, Int.reduceAdd, Int.reduceLE, Int.reduceLT, Int.reduceNeg, Nat.reduceLeDiff, VOpd.ev, Nat.reduceEqDiff, Nat.reduceAdd, reduceIte, reduceCtorEq, splice, resOf, tupOf, cellsV, AV.toV, AV.cell?, cellVal]
      have hr : restL o = [o.a] := by unfold restL; simp only [h1, h2, Bool.true_or, Bool.or_true, if_true]
      rw [hr]
      have hb : (st ++ (⟨[iA o.k, iA o.d, iA o.a, iA o.b, iA o.c, iA o.n, iA o.g], 0, 0⟩ :: (L ++ [⟨[iA o.a], 0, 0⟩])))[st.length + (L.length + 1)]? = some ⟨(rowsI [o.a]).flatten, 0, 0⟩ := by
        rw [List.getElem?_append_right (by omega)]; simp
      refine ⟨_, _, _, _, rfl, rfl, ?_, ArrAt.ofBox hb (by decide) (by simp) rfl, ?_⟩
      · simpa using own_frame hown [⟨[iA o.a], 0, 0⟩]
      · intro b hb2 hw
        have := (hown.bnd b hw).2
        simp [boxOf] at hb2
        simp at this
        omega

    simp only [k1, k3, h1, h2, kB, kZ, kD, fillA, partsEv, zeroes, Nat.reduceSub, Int.reduceToNat, Nat.reduceMul, asInt?, asNat?, Int.reduceAdd, Int.reduceLE, Int.reduceLT, Int.reduceNeg, Nat.reduceLeDiff, VOpd.ev, Nat.reduceEqDiff, Nat.reduceAdd, reduceIte, reduceCtorEq, splice, resOf, tupOf, cellsV, AV.toV, AV.cell?, cellVal]
    cases h3 : decide (o.k ≠ 26)
    · have hr : restL o = [] := by unfold restL; simp only [h1, h2, h3, Bool.or_self, Bool.false_eq_true, if_false]
      rw [hr]
      simp only [k1, k3, h3, kB, kZ, kD, fillA, partsEv, zeroes, Nat.reduceSub, Int.reduceToNat, Nat.reduceMul, asInt?, asNat?, Int.reduceAdd, Int.reduceLE, Int.reduceLT, Int.reduceNeg, Nat.reduceLeDiff, VOpd.ev, Nat.reduceEqDiff, Nat.reduceAdd, reduceIte, reduceCtorEq, splice, resOf, tupOf, cellsV, AV.toV, AV.cell?, cellVal]
      exact ⟨L, _, 0, 0, rfl, rfl, hown, emptyArr _ _ _ _, fun b hb => by cases hb⟩
    · have ho : oneK o.k = true := by
        have h26 : decide (o.k = 26) = false := by simpa using h3
        unfold hasCls outK at hcl
        rw [h26, h1, h2] at hcl
        simpa using hcl
      have hr : restL o = onceL (operL o) := by unfold restL bareL; simp only [h1, h2, h3, ho, Bool.or_self, Bool.false_eq_true, if_false, if_true]
      rw [hr]
      simp only [k1, k3, h3, kB, kZ, kD, fillA, partsEv, zeroes, Nat.reduceSub, Int.reduceToNat, Nat.reduceMul, asInt?, asNat?, Int.reduceAdd, Int.reduceLE, Int.reduceLT, Int.reduceNeg, Nat.reduceLeDiff, VOpd.ev, Nat.reduceEqDiff, Nat.reduceAdd, reduceIte, reduceCtorEq, splice, resOf, tupOf, cellsV, AV.toV, AV.cell?, cellVal]
      refine callO_own (w_r18_Reads h { o with g := -1 } ho rfl) ?_
      intro v m hv
      simp only [k1, k3, List.append_assoc, List.cons_append, List.nil_append, kB, kZ, kD, fillA, partsEv, zeroes, Nat.reduceSub, Int.reduceToNat, Nat.reduceMul, asInt?, asNat?, Int.reduceAdd, Int.reduceLE, Int.reduceLT, Int.reduceNeg, Nat.reduceLeDiff, VOpd.ev, Nat.reduceEqDiff, Nat.reduceAdd, reduceIte, reduceCtorEq, splice, resOf, tupOf, cellsV, AV.toV, AV.cell?, cellVal]
      have hv2 : OwnS (st ++ (⟨[iA o.k, iA o.d, iA o.a, iA o.b, iA o.c, iA o.n, iA o.g], 0, 0⟩ :: (L ++ ⟨[iA o.k, iA o.d, iA o.a, iA o.b, iA o.c, iA o.n, .sc (.int .i64 (-1))], 0, 2⟩ :: m))) (st.length + (L.length + 1 + 1)) v 1 (rowsI (onceL (operL o))) := by simpa [operL] using hv
      refine ⟨_, v, _, _, rfl, rfl, by simpa using own_frame hown (⟨[iA o.k, iA o.d, iA o.a, iA o.b, iA o.c, iA o.n, .sc (.int .i64 (-1))], 0, 2⟩ :: m), hv2.arr, fun b hb hw => ?_⟩
      have h1 := (hown.bnd b hw).2
      have h2 := (hv2.bnd b hb).1
      simp at h1
      omega
  rintro e s ⟨L, v, lo, hi, rfl, k1, k3, k6, hown, hv, hdis⟩
  have hlv := hv.len
  simp only [List.length_map] at hlv
  simp only [k1, k3, k6, kB, kZ, kD, fillA, partsEv, zeroes, Nat.reduceSub, Int.reduceToNat, Nat.reduceMul, asInt?, asNat?, Int.reduceAdd, Int.reduceLE, Int.reduceLT, Int.reduceNeg, Nat.reduceLeDiff, VOpd.ev, Nat.reduceEqDiff, Nat.reduceAdd, reduceIte, reduceCtorEq, splice, resOf, tupOf, cellsV, AV.toV, AV.cell?, cellVal]
  generalize restL o = rest at *
  have hlr : (if decide (o.g ≠ -1) then [o.g] else []).length ≤ 1 := by cases decide (o.g ≠ -1) <;> simp
  refine loop_inv (fun n e s' => ∃ (i : Nat) (L1 : St) (w2 : AV), i + n = rest.length ∧ s' = st ++ (⟨[iA o.k, iA o.d, iA o.a, iA o.b, iA o.c, iA o.n, iA o.g], 0, 0⟩ :: L1) ∧ e 1 = .ptr (st.length + 0) 0 ∧ e 3 = w2 ∧ e 6 = v ∧ e 8 = iA i ∧ OwnS s' (st.length + 1) w2 1 (rowsI ((if decide (o.g ≠ -1) then [o.g] else []) ++ (rest.take i).filter (keepP o))) ∧ IntsAt s' lo hi v rest ∧ ∀ b, boxOf v = some b → boxOf w2 ≠ some b) ?_ rest.length ?_
  case refine_2 =>
    exact ⟨0, L, w, by omega, rfl, k1, k3, k6, rfl, by simpa using hown, hv, hdis⟩
  clear hown hv hdis k1 k3 k6
  intro n e s' ⟨i, L1, w2, him, hs', k1, k3, k6, k8, hown, hv, hdis⟩
  subst hs'
  simp only [k1, k3, k6, k8, hlv, kB, kZ, kD, fillA, partsEv, zeroes, Nat.reduceSub, Int.reduceToNat, Nat.reduceMul, asInt?, asNat?, Int.reduceAdd, Int.reduceLE, Int.reduceLT, Int.reduceNeg, Nat.reduceLeDiff, VOpd.ev, Nat.reduceEqDiff, Nat.reduceAdd, reduceIte, reduceCtorEq, splice, resOf, tupOf, cellsV, AV.toV, AV.cell?, cellVal]
  refine condO_intro ?_ ?_ <;> intro hc
  · have hil : i < rest.length := by have := of_decide_eq_true hc; omega
    obtain ⟨b1, o1, he1, _, ha1, _⟩ := hv.get i (by simpa using hil)
    have p1 := ha1 [] 0 (by omega)
    simp only [List.append_nil, List.getElem_map, Nat.add_zero, List.getElem?_cons_zero] at p1
    have hwr : IntKind.wrap .i64 ((i : Int) + 1) = ((i + 1 : Nat) : Int) := by rw [wrap_small (by omega) (by omega)]; omega
    have htk : rest.take (i + 1) = rest.take i ++ [rest[i]] := (List.take_append_getElem hil).symm
    have hfl : ((rest.take i).filter (keepP o)).length ≤ 3 := by
      have h1 := List.length_filter_le (keepP o) (rest.take i)
      have h2 : (rest.take i).length ≤ rest.length := by simp only [List.length_take]; omega
      omega
    cases hq : decide (o.g = -1)
    · cases hq2 : decide (rest[i] ≠ o.g)
      · have hp : [rest[i]].filter (keepP o) = [] := by simp only [keepP, List.filter_cons, hq, hq2, Bool.or_self, Bool.false_eq_true, if_false, List.filter_nil]
        simp only [k1, k3, k6, k8, hlv, he1, p1, hwr, List.append_nil, hq, hq2, kB, kZ, kD, fillA, partsEv, zeroes, Nat.reduceSub, Int.reduceToNat, Nat.reduceMul, asInt?, asNat?, Int.reduceAdd, Int.reduceLE, Int.reduceLT, Int.reduceNeg, Nat.reduceLeDiff, VOpd.ev, Nat.reduceEqDiff, Nat.reduceAdd, reduceIte, reduceCtorEq, splice, resOf, tupOf, cellsV, AV.toV, AV.cell?, cellVal]
        refine ⟨n - 1, by omega, i + 1, L1, w2, by omega, rfl, rfl, rfl, ?_⟩
        exact ⟨by rw [htk, List.filter_append, hp, List.append_nil]; exact hown, hv, hdis⟩
      · have hp : [rest[i]].filter (keepP o) = [rest[i]] := by simp only [keepP, List.filter_cons, hq, hq2, Bool.false_or, if_true, List.filter_nil]
        simp only [k1, k3, k6, k8, hlv, he1, p1, hwr, List.append_nil, hq, hq2, kB, kZ, kD, fillA, partsEv, zeroes, Nat.reduceSub, Int.reduceToNat, Nat.reduceMul, asInt?, asNat?, Int.reduceAdd, Int.reduceLE, Int.reduceLT, Int.reduceNeg, Nat.reduceLeDiff, VOpd.ev, Nat.reduceEqDiff, Nat.reduceAdd, reduceIte, reduceCtorEq, splice, resOf, tupOf, cellsV, AV.toV, AV.cell?, cellVal]
        have hb : (st ++ (⟨[iA o.k, iA o.d, iA o.a, iA o.b, iA o.c, iA o.n, iA o.g], 0, 0⟩ :: (L1 ++ [⟨[iA rest[i]], 0, 0⟩])))[st.length + (L1.length + 1)]? = some ⟨(rowsI [rest[i]]).flatten, 0, 0⟩ := by
          rw [List.getElem?_append_right (by omega)]; simp
        refine opR_append (vx := w2) (vy := .sl (st.length + (L1.length + 1)) 0 1 1 true) (lo := st.length + 1) (lo' := st.length + (L1.length + 1)) (hi' := st.length + (L1.length + 1) + 1) (rows := rowsI ((if decide (o.g ≠ -1) then [o.g] else []) ++ (rest.take i).filter (keepP o))) (rows2 := rowsI [rest[i]]) (by simp only [k3, kB, kZ, kD, fillA, partsEv, zeroes, Nat.reduceSub, Int.reduceToNat, Nat.reduceMul, asInt?, asNat?, Int.reduceAdd, Int.reduceLE, Int.reduceLT, Int.reduceNeg, Nat.reduceLeDiff, VOpd.ev, Nat.reduceEqDiff, Nat.reduceAdd, reduceIte, reduceCtorEq, splice, resOf, tupOf, cellsV, AV.toV, AV.cell?, cellVal]) (by simp only [kB, kZ, kD, fillA, partsEv, zeroes, Nat.reduceSub, Int.reduceToNat, Nat.reduceMul, asInt?, asNat?, Int.reduceAdd, Int.reduceLE, Int.reduceLT, Int.reduceNeg, Nat.reduceLeDiff, VOpd.ev, Nat.reduceEqDiff, Nat.reduceAdd, reduceIte, reduceCtorEq, splice, resOf, tupOf, cellsV, AV.toV, AV.cell?, cellVal]) (by simpa using own_frame hown [⟨[iA rest[i]], 0, 0⟩]) (by simp) (ArrAt.ofBox hb (by decide) (by simp) rfl) (by simp only [List.length_map, List.length_append] at hlr hfl ⊢; simp only [List.length_cons, List.length_nil]; omega) (by rfl) ?_
        intro w' s' hag hown' hor
        have hag2 : Agree (fun b => boxOf w2 = some b) (st ++ (⟨[iA o.k, iA o.d, iA o.a, iA o.b, iA o.c, iA o.n, iA o.g], 0, 0⟩ :: L1)) s' := by
          have := (Agree.app (fun _ => False) (st ++ (⟨[iA o.k, iA o.d, iA o.a, iA o.b, iA o.c, iA o.n, iA o.g], 0, 0⟩ :: L1)) [⟨[iA rest[i]], 0, 0⟩]).trans (by simpa using hag : Agree (fun b => boxOf w2 = some b) _ s')
          exact this.mono fun b _ hx => by
            rcases hx with hx | hx
            · exact hx.elim
            · exact hx
        obtain ⟨L', rfl⟩ := Agree.shape (st := st) (M := [⟨[iA o.k, iA o.d, iA o.a, iA o.b, iA o.c, iA o.n, iA o.g], 0, 0⟩]) (N := L1) hag2 (fun b hb => by have := (hown.bnd b hb).1; simpa using this)
        have hv' := hv.agree hag2 (fun b hb => hdis b hb)
        simp only [k1, k3, k6, k8, hwr, kB, kZ, kD, fillA, partsEv, zeroes, Nat.reduceSub, Int.reduceToNat, Nat.reduceMul, asInt?, asNat?, Int.reduceAdd, Int.reduceLE, Int.reduceLT, Int.reduceNeg, Nat.reduceLeDiff, VOpd.ev, Nat.reduceEqDiff, Nat.reduceAdd, reduceIte, reduceCtorEq, splice, resOf, tupOf, cellsV, AV.toV, AV.cell?, cellVal]
        refine ⟨n - 1, by omega, i + 1, L', w', by omega, rfl, rfl, rfl, ?_⟩
        refine ⟨by rw [htk, List.filter_append, ← List.append_assoc, hp]; simpa using hown', hv', fun b hb hw => ?_⟩
        rcases hor with hor | hor
        · exact absurd hor.1 (by simp)
        · have h1 := hor.2.1
          rw [h1] at hw
          have h2 := (hv.boxlt hb)
          simp at h2 hw
          omega
    · have hp : [rest[i]].filter (keepP o) = [rest[i]] := by simp only [keepP, List.filter_cons, hq, Bool.true_or, if_true, List.filter_nil]
      simp only [k1, k3, k6, k8, hlv, he1, p1, hwr, List.append_nil, hq, kB, kZ, kD, fillA, partsEv, zeroes, Nat.reduceSub, Int.reduceToNat, Nat.reduceMul, asInt?, asNat?, Int.reduceAdd, Int.reduceLE, Int.reduceLT, Int.reduceNeg, Nat.reduceLeDiff, VOpd.ev, Nat.reduceEqDiff, Nat.reduceAdd, reduceIte, reduceCtorEq, splice, resOf, tupOf, cellsV, AV.toV, AV.cell?, cellVal]
      have hb : (st ++ (⟨[iA o.k, iA o.d, iA o.a, iA o.b, iA o.c, iA o.n, iA o.g], 0, 0⟩ :: (L1 ++ [⟨[iA rest[i]], 0, 0⟩])))[st.length + (L1.length + 1)]? = some ⟨(rowsI [rest[i]]).flatten, 0, 0⟩ := by
        rw [List.getElem?_append_right (by omega)]; simp
      refine opR_append (vx := w2) (vy := .sl (st.length + (L1.length + 1)) 0 1 1 true) (lo := st.length + 1) (lo' := st.length + (L1.length + 1)) (hi' := st.length + (L1.length + 1) + 1) (rows := rowsI ((if decide (o.g ≠ -1) then [o.g] else []) ++ (rest.take i).filter (keepP o))) (rows2 := rowsI [rest[i]]) (by simp only [k3, kB, kZ, kD, fillA, partsEv, zeroes, Nat.reduceSub, Int.reduceToNat, Nat.reduceMul, asInt?, asNat?, Int.reduceAdd, Int.reduceLE, Int.reduceLT, Int.reduceNeg, Nat.reduceLeDiff, VOpd.ev, Nat.reduceEqDiff, Nat.reduceAdd, reduceIte, reduceCtorEq, splice, resOf, tupOf, cellsV, AV.toV, AV.cell?, cellVal]) (by simp only [kB, kZ, kD, fillA, partsEv, zeroes, Nat.reduceSub, Int.reduceToNat, Nat.reduceMul, asInt?, asNat?, Int.reduceAdd, Int.reduceLE, Int.reduceLT, Int.reduceNeg, Nat.reduceLeDiff, VOpd.ev, Nat.reduceEqDiff, Nat.reduceAdd, reduceIte, reduceCtorEq, splice, resOf, tupOf, cellsV, AV.toV, AV.cell?, cellVal]) (by simpa using own_frame hown [⟨[iA rest[i]], 0, 0⟩]) (by simp) (ArrAt.ofBox hb (by decide) (by simp) rfl) (by simp only [List.length_map, List.length_append] at hlr hfl ⊢; simp only [List.length_cons, List.length_nil]; omega) (by rfl) ?_
      intro w' s' hag hown' hor
      have hag2 : Agree (fun b => boxOf w2 = some b) (st ++ (⟨[iA o.k, iA o.d, iA o.a, iA o.b, iA o.c, iA o.n, iA o.g], 0, 0⟩ :: L1)) s' := by
        have := (Agree.app (fun _ => False) (st ++ (⟨[iA o.k, iA o.d, iA o.a, iA o.b, iA o.c, iA o.n, iA o.g], 0, 0⟩ :: L1)) [⟨[iA rest[i]], 0, 0⟩]).trans (by simpa using hag : Agree (fun b => boxOf w2 = some b) _ s')
        exact this.mono fun b _ hx => by
          rcases hx with hx | hx
          · exact hx.elim
          · exact hx
      obtain ⟨L', rfl⟩ := Agree.shape (st := st) (M := [⟨[iA o.k, iA o.d, iA o.a, iA o.b, iA o.c, iA o.n, iA o.g], 0, 0⟩]) (N := L1) hag2 (fun b hb => by have := (hown.bnd b hb).1; simpa using this)
      have hv' := hv.agree hag2 (fun b hb => hdis b hb)
      simp only [k1, k3, k6, k8, hwr, kB, kZ, kD, fillA, partsEv, zeroes, Nat.reduceSub, Int.reduceToNat, Nat.reduceMul, asInt?, asNat?, Int.reduceAdd, Int.reduceLE, Int.reduceLT, Int.reduceNeg, Nat.reduceLeDiff, VOpd.ev, Nat.reduceEqDiff, Nat.reduceAdd, reduceIte, reduceCtorEq, splice, resOf, tupOf, cellsV, AV.toV, AV.cell?, cellVal]
      refine ⟨n - 1, by omega, i + 1, L', w', by omega, rfl, rfl, rfl, ?_⟩
      refine ⟨by rw [htk, List.filter_append, ← List.append_assoc, hp]; simpa using hown', hv', fun b hb hw => ?_⟩
      rcases hor with hor | hor
      · exact absurd hor.1 (by simp)
      · have h1 := hor.2.1
        rw [h1] at hw
        have h2 := (hv.boxlt hb)
        simp at h2 hw
        omega
  · have hi : i = rest.length := by have := of_decide_eq_false hc; omega
    subst hi
    rw [List.take_length] at hown
    simp only [k1, k3, k6, k8, hlv, kB, kZ, kD, fillA, partsEv, zeroes, Nat.reduceSub, Int.reduceToNat, Nat.reduceMul, asInt?, asNat?, Int.reduceAdd, Int.reduceLE, Int.reduceLT, Int.reduceNeg, Nat.reduceLeDiff, VOpd.ev, Nat.reduceEqDiff, Nat.reduceAdd, reduceIte, reduceCtorEq, splice, resOf, tupOf, cellsV, AV.toV, AV.cell?, cellVal]
    exact ⟨_, _, rfl, rfl, hown.low (by omega)⟩
end
end Go.VX.Seat
end
section
set_option linter.unusedVariables false
set_option linter.unusedSimpArgs false
set_option maxRecDepth 4000
/-! Layer 19: what is read, as the program says it and as the reference does; Bank. -/
namespace Go.VX.Seat
open Go.Proofs
theorem putL_step (g : Int) (B : List Int) (y : Int) : putL (g :: B.filter fun x => decide (x ≠ g)) y = g :: (putL B y).filter fun x => decide (x ≠ g) := by
  by_cases hy : y = g
  · subst hy
    rw [putL_pos (by simp)]
    by_cases hb : y ∈ B
    · rw [putL_pos (decide_eq_true hb)]
    · rw [putL_neg (decide_eq_false hb), List.filter_append]
      simp
  · by_cases hb : y ∈ B
    · rw [putL_pos (decide_eq_true hb), putL_pos (by simp [hb, hy])]
    · rw [putL_neg (decide_eq_false hb), putL_neg (by simp [hb, hy]), List.filter_append]
      simp [hy]
theorem foldl_put (g : Int) : ∀ (ys B : List Int), ys.foldl putL (g :: B.filter fun x => decide (x ≠ g)) = g :: (ys.foldl putL B).filter fun x => decide (x ≠ g)
  | [], B => rfl
  | y :: ys, B => by rw [List.foldl_cons, List.foldl_cons, putL_step, foldl_put g ys]
theorem once_guard (o : OpV) (ys : List Int) : onceL ((if decide (o.g ≠ -1) then [o.g] else []) ++ ys) = (if decide (o.g ≠ -1) then [o.g] else []) ++ (onceL ys).filter (keepP o) := by
  by_cases hg : o.g = -1
  · have h1 : decide (o.g ≠ -1) = false := by simp [hg]
    have h2 : (onceL ys).filter (keepP o) = onceL ys := List.filter_eq_self.2 fun x _ => by unfold keepP; simp [hg]
    rw [h2, h1]
    simp
  · have h1 : decide (o.g ≠ -1) = true := by simp [hg]
    have h2 : keepP o = fun x => decide (x ≠ o.g) := by funext x; unfold keepP; simp [hg]
    rw [h2, h1]
    simp only [if_true, List.cons_append, List.nil_append]
    exact foldl_put o.g ys []
theorem reads_eq (o : OpV) : onceL (rawM o) = rdsR o := by
  unfold rawM rdsR restL hasCls
  cases ho : outK o.k
  · cases h1 : oneK o.k
    · rfl
    · have e26 : decide (o.k = 26) = false ∧ decide (o.k = 27) = false ∧ decide (o.k = 28) = false := by
        unfold outK at ho
        simpa [and_assoc] using ho
      have e3 : decide (o.k ≠ 26) = true := by simpa using e26.1
      simp only [Bool.false_eq_true, if_false, if_true, e26.2.1, e26.2.2, e3, Bool.or_self, Bool.or_true, bareL, h1]
      exact once_guard o (operL o)
  · have hk : o.k = 26 ∨ o.k = 27 ∨ o.k = 28 := by
      unfold outK at ho
      simpa [or_assoc] using ho
    rcases hk with h | h | h
    · have e : decide (o.k ≠ 26) = false ∧ decide (o.k = 27) = false ∧ decide (o.k = 28) = false := by rw [h]; decide
      simp only [e.1, e.2.1, e.2.2, if_true, if_false, Bool.false_eq_true, Bool.or_self, Bool.true_or]
      exact once_guard o []
    · have e : decide (o.k ≠ 26) = true ∧ decide (o.k = 27) = true := by rw [h]; decide
      simp only [e.1, e.2, if_true, Bool.true_or]
      exact once_guard o [o.a]
    · have e : decide (o.k ≠ 26) = true ∧ decide (o.k = 28) = true := by rw [h]; decide
      simp only [e.1, e.2, if_true, Bool.true_or, Bool.or_true]
      exact once_guard o [o.a]
theorem c_rem (P : Program) (t : TypeId) (a b : Int) (hb : b ≠ 0) (ox oy : Operand) : closed P (do eqGuard .rem t ox oy (.int .i64 a) (.int .i64 b); binOp .rem t (.int .i64 a) (.int .i64 b)) = some (.int .i64 (Int.tmod a b)) := by
  have : closed P (do eqGuard .rem t ox oy (.int .i64 a) (.int .i64 b); binOp .rem t (.int .i64 a) (.int .i64 b)) = closed P (Op.intDiv .rem .i64 a b) := rfl
  rw [this]
  unfold Op.intDiv
  rw [if_neg hb]
  rfl
theorem c_neqb (a b : Bool) (ox oy : Operand) : closed Tryd.prog (do eqGuard .neq 4 ox oy (.bool a) (.bool b); binOp .neq 4 (.bool a) (.bool b)) = some (.bool (a != b)) := by cases a <;> cases b <;> kernel_rfl
theorem okM_bnd {m : MachV} (h : okM m = true) : (1 ≤ m.u0 ∧ m.u0 ≤ 8) ∧ (1 ≤ m.u1 ∧ m.u1 ≤ 8) ∧ (1 ≤ m.u2 ∧ m.u2 ≤ 8) ∧ (1 ≤ m.u3 ∧ m.u3 ≤ 8) ∧ (1 ≤ m.regs ∧ m.regs ≤ 4096) ∧ (1 ≤ m.banks ∧ m.banks ≤ 8) ∧ (4 ≤ m.ports ∧ m.ports ≤ 32) := by
  unfold okM inB at h
  simp only [Bool.and_eq_true, decide_eq_true_eq] at h
  omega
/-- Is the number one of the registers? -/
def regM (m : MachV) (r : Int) : Bool := decide (0 ≤ r) && decide (r < m.regs)
section
variable {X : Cx} {st : St}
theorem j_machine_Bank (h : On X) (m : MachV) (r : Int) : J X.P X.F X.H (.call 24 [.agg m.row, iA r] st (.ret (.tup [iA (if okM m && regM m r then Int.tmod r m.banks else 0), iA (if okM m && regM m r then 0 else 2)])) st) := by
  refine pure_intro (by rw [h.F]; rfl) rfl ?_
  simp only [v_machine_Bank, MachV.row, kB, kZ, kD, fillA, partsEv, zeroes, Nat.reduceSub, Int.reduceToNat, Nat.reduceMul, asInt?, asNat?, Int.reduceAdd, Int.reduceLE, Int.reduceLT, Int.reduceNeg, Nat.reduceLeDiff, VOpd.ev, Nat.reduceEqDiff, Nat.reduceAdd, reduceIte, reduceCtorEq, splice, resOf, tupOf, cellsV, AV.toV, AV.cell?, cellVal]
  refine callO_same (j_machine_Check h m) ?_
  cases ho : okM m
  · have e : chkM m = 2 := by unfold chkM; rw [ho]; rfl
    simp only [e, Int.reduceEq, Int.reduceNe, kB, kZ, kD, fillA, partsEv, zeroes, Nat.reduceSub, Int.reduceToNat, Nat.reduceMul, asInt?, asNat?, Int.reduceAdd, Int.reduceLE, Int.reduceLT, Int.reduceNeg, Nat.reduceLeDiff, VOpd.ev, Nat.reduceEqDiff, Nat.reduceAdd, reduceIte, reduceCtorEq, splice, resOf, tupOf, cellsV, AV.toV, AV.cell?, cellVal]
    first | exact ⟨_, rfl⟩ | exact ⟨rfl, _, rfl⟩ | exact ⟨trivial, _, rfl⟩ | exact ⟨[], (List.append_nil _).symm⟩
  · have e : chkM m = 0 := by unfold chkM; rw [ho]; rfl
    have hb := okM_bnd ho
    have hw : IntKind.wrap .i64 (m.regs - 1) = m.regs - 1 := wrap_small (by omega) (by omega)
    have hr : inB r 0 (m.regs - 1) = regM m r := by
      unfold inB regM
      congr 1
      exact decide_eq_decide.2 (by omega)
    simp only [e, hw, Int.reduceEq, Int.reduceNe, kB, kZ, kD, fillA, partsEv, zeroes, Nat.reduceSub, Int.reduceToNat, Nat.reduceMul, asInt?, asNat?, Int.reduceAdd, Int.reduceLE, Int.reduceLT, Int.reduceNeg, Nat.reduceLeDiff, VOpd.ev, Nat.reduceEqDiff, Nat.reduceAdd, reduceIte, reduceCtorEq, splice, resOf, tupOf, cellsV, AV.toV, AV.cell?, cellVal]
    refine callO_same (j_machine_in h _ _ _) ?_
    rw [hr]
    cases hq : regM m r
    · simp only [hq, kB, kZ, kD, fillA, partsEv, zeroes, Nat.reduceSub, Int.reduceToNat, Nat.reduceMul, asInt?, asNat?, Int.reduceAdd, Int.reduceLE, Int.reduceLT, Int.reduceNeg, Nat.reduceLeDiff, VOpd.ev, Nat.reduceEqDiff, Nat.reduceAdd, reduceIte, reduceCtorEq, splice, resOf, tupOf, cellsV, AV.toV, AV.cell?, cellVal]
      first | exact ⟨_, rfl⟩ | exact ⟨rfl, _, rfl⟩ | exact ⟨trivial, _, rfl⟩ | exact ⟨[], (List.append_nil _).symm⟩
    · simp only [hq, c_rem _ _ _ m.banks (by omega), kB, kZ, kD, fillA, partsEv, zeroes, Nat.reduceSub, Int.reduceToNat, Nat.reduceMul, asInt?, asNat?, Int.reduceAdd, Int.reduceLE, Int.reduceLT, Int.reduceNeg, Nat.reduceLeDiff, VOpd.ev, Nat.reduceEqDiff, Nat.reduceAdd, reduceIte, reduceCtorEq, splice, resOf, tupOf, cellsV, AV.toV, AV.cell?, cellVal]
      first | exact ⟨_, rfl⟩ | exact ⟨rfl, _, rfl⟩ | exact ⟨trivial, _, rfl⟩ | exact ⟨[], (List.append_nil _).symm⟩
end
end Go.VX.Seat
end
section
set_option linter.unusedVariables false
set_option linter.unusedSimpArgs false
set_option maxRecDepth 4000
/-! The law MachineTells. -/
namespace Go.VX.Seat
open Go.Proofs
section
variable {X : Cx} {st : St}
set_option maxHeartbeats 4000000 in
theorem w_MachineTells (h : OnH X) (hg : GB st) (m : MachV) (o : OpV) (reg : Int) :
    wpF X 8 [.agg m.row, .agg o.row, iA reg] st fun r s => r = .ret (bA true) ∧ ∃ m, s = st ++ m := by
  refine wpF_go (fn := v_l19_MachineTells) (by rw [h.F]; rfl) ?_
  have hrl := rawM_len o
  simp only [v_l19_MachineTells, MachV.row, OpV.row, kB, kZ, kD, fillA, partsEv, zeroes, Nat.reduceSub, Int.reduceToNat, Nat.reduceMul, asInt?, asNat?, Int.reduceAdd, Int.reduceLE, Int.reduceLT, Int.reduceNeg, Nat.reduceLeDiff, VOpd.ev, Nat.reduceEqDiff, Nat.reduceAdd, reduceIte, reduceCtorEq, splice, resOf, tupOf, cellsV, AV.toV, AV.cell?, cellVal]
  refine callO_same (j_r19_Check h.toOn m) ?_
  simp only [kB, kZ, kD, fillA, partsEv, zeroes, Nat.reduceSub, Int.reduceToNat, Nat.reduceMul, asInt?, asNat?, Int.reduceAdd, Int.reduceLE, Int.reduceLT, Int.reduceNeg, Nat.reduceLeDiff, VOpd.ev, Nat.reduceEqDiff, Nat.reduceAdd, reduceIte, reduceCtorEq, splice, resOf, tupOf, cellsV, AV.toV, AV.cell?, cellVal]
  refine callO_same (j_machine_Class h.toOn (hg.glob.ext (Ext.of _ _)) o.k) ?_
  simp only [kB, kZ, kD, fillA, partsEv, zeroes, Nat.reduceSub, Int.reduceToNat, Nat.reduceMul, asInt?, asNat?, Int.reduceAdd, Int.reduceLE, Int.reduceLT, Int.reduceNeg, Nat.reduceLeDiff, VOpd.ev, Nat.reduceEqDiff, Nat.reduceAdd, reduceIte, reduceCtorEq, splice, resOf, tupOf, cellsV, AV.toV, AV.cell?, cellVal]
  refine callO_same (j_r19_Class h.toOn o.k) ?_
  simp only [kB, kZ, kD, fillA, partsEv, zeroes, Nat.reduceSub, Int.reduceToNat, Nat.reduceMul, asInt?, asNat?, Int.reduceAdd, Int.reduceLE, Int.reduceLT, Int.reduceNeg, Nat.reduceLeDiff, VOpd.ev, Nat.reduceEqDiff, Nat.reduceAdd, reduceIte, reduceCtorEq, splice, resOf, tupOf, cellsV, AV.toV, AV.cell?, cellVal]
  refine callO_same (j_machine_Latency h.toOn (hg.glob.ext (Ext.of _ _)) m o.k) ?_
  simp only [kB, kZ, kD, fillA, partsEv, zeroes, Nat.reduceSub, Int.reduceToNat, Nat.reduceMul, asInt?, asNat?, Int.reduceAdd, Int.reduceLE, Int.reduceLT, Int.reduceNeg, Nat.reduceLeDiff, VOpd.ev, Nat.reduceEqDiff, Nat.reduceAdd, reduceIte, reduceCtorEq, splice, resOf, tupOf, cellsV, AV.toV, AV.cell?, cellVal]
  refine callO_same (j_machine_Bank h.toOn m reg) ?_
  simp only [kB, kZ, kD, fillA, partsEv, zeroes, Nat.reduceSub, Int.reduceToNat, Nat.reduceMul, asInt?, asNat?, Int.reduceAdd, Int.reduceLE, Int.reduceLT, Int.reduceNeg, Nat.reduceLeDiff, VOpd.ev, Nat.reduceEqDiff, Nat.reduceAdd, reduceIte, reduceCtorEq, splice, resOf, tupOf, cellsV, AV.toV, AV.cell?, cellVal]
  refine callO_own (w_machine_Reads h.toOn (hg.glob.ext (Ext.of _ _)) o) ?_
  intro w m1 hw
  simp only [List.append_assoc, List.cons_append, List.nil_append, kB, kZ, kD, fillA, partsEv, zeroes, Nat.reduceSub, Int.reduceToNat, Nat.reduceMul, asInt?, asNat?, Int.reduceAdd, Int.reduceLE, Int.reduceLT, Int.reduceNeg, Nat.reduceLeDiff, VOpd.ev, Nat.reduceEqDiff, Nat.reduceAdd, reduceIte, reduceCtorEq, splice, resOf, tupOf, cellsV, AV.toV, AV.cell?, cellVal]
  refine callO_own (w_r19_Reads h.toOn o) ?_
  intro v m2 hv
  rw [reads_eq] at hw
  have hw2 : IntsAt (st ++ (⟨[iA m.u0, iA m.u1, iA m.u2, iA m.u3, iA m.l0, iA m.l1, iA m.l2, iA m.l3, iA m.regs, iA m.banks, iA m.ports], 0, 0⟩ :: ⟨[iA o.k, iA o.d, iA o.a, iA o.b, iA o.c, iA o.n, iA o.g], 0, 0⟩ :: (m1 ++ m2))) (st.length + 2) (st.length + 2 + m1.length) w (rdsR o) := by
    have := (hw.arr.mono m2).wide' (lo' := st.length + 2) (hi' := st.length + 2 + m1.length) (by simp) (by simp; omega)
    simpa using this
  have hv2 : IntsAt (st ++ (⟨[iA m.u0, iA m.u1, iA m.u2, iA m.u3, iA m.l0, iA m.l1, iA m.l2, iA m.l3, iA m.regs, iA m.banks, iA m.ports], 0, 0⟩ :: ⟨[iA o.k, iA o.d, iA o.a, iA o.b, iA o.c, iA o.n, iA o.g], 0, 0⟩ :: (m1 ++ m2))) (st.length + 2) (st.length + 2 + m1.length + m2.length) v (rdsR o) := by
    have := hv.arr.wide' (lo' := st.length + 2) (hi' := st.length + 2 + m1.length + m2.length) (by simp) (by simp; omega)
    simpa using this
  clear hw hv
  have lw := hw2.len
  have lv := hv2.len
  simp only [List.length_map] at lw lv
  have hrl2 : (rdsR o).length ≤ 4 := by
    rw [← reads_eq]
    have := foldl_putL_len (rawM o) []
    unfold onceL
    simp at this
    omega
  generalize rdsR o = rl at *
  simp only [List.append_assoc, List.cons_append, List.nil_append, kB, kZ, kD, fillA, partsEv, zeroes, Nat.reduceSub, Int.reduceToNat, Nat.reduceMul, asInt?, asNat?, Int.reduceAdd, Int.reduceLE, Int.reduceLT, Int.reduceNeg, Nat.reduceLeDiff, VOpd.ev, Nat.reduceEqDiff, Nat.reduceAdd, reduceIte, reduceCtorEq, splice, resOf, tupOf, cellsV, AV.toV, AV.cell?, cellVal]
  refine callO_same (j_machine_Check h.toOn m) ?_
  simp only [h.P, lw, lv, c_neqb, bne_self_eq_false, ne_eq, eq_self, not_true_eq_false, kB, kZ, kD, fillA, partsEv, zeroes, Nat.reduceSub, Int.reduceToNat, Nat.reduceMul, asInt?, asNat?, Int.reduceAdd, Int.reduceLE, Int.reduceLT, Int.reduceNeg, Nat.reduceLeDiff, VOpd.ev, Nat.reduceEqDiff, Nat.reduceAdd, reduceIte, reduceCtorEq, splice, resOf, tupOf, cellsV, AV.toV, AV.cell?, cellVal]
  refine loop_cut [2, 3, 4, 6, 7, 8, 9, 10, 11, 12, 13, 14, 15] (fun _ => True) ?_ ?_
  · refine loop_live [16, 17, 2, 3, 4, 6, 7, 8, 9, 10, 11, 12, 13, 14, 15] (fun mm e => ∃ i : Nat, i + mm = rl.length ∧ e 18 = iA i) rl.length ?_ ?_
    · exact ⟨0, by omega, by simp only [kB, kZ, kD, fillA, partsEv, zeroes, Nat.reduceSub, Int.reduceToNat, Nat.reduceMul, asInt?, asNat?, Int.reduceAdd, Int.reduceLE, Int.reduceLT, Int.reduceNeg, Nat.reduceLeDiff, VOpd.ev, Nat.reduceEqDiff, Nat.reduceAdd, reduceIte, reduceCtorEq, splice, resOf, tupOf, cellsV, AV.toV, AV.cell?, cellVal]⟩
    · intro mm e hL ⟨i, him, q18⟩
      simp only [kB, kZ, kD, fillA, partsEv, zeroes, Nat.reduceSub, Int.reduceToNat, Nat.reduceMul, asInt?, asNat?, Int.reduceAdd, Int.reduceLE, Int.reduceLT, Int.reduceNeg, Nat.reduceLeDiff, VOpd.ev, Nat.reduceEqDiff, Nat.reduceAdd, reduceIte, reduceCtorEq, splice, resOf, tupOf, cellsV, AV.toV, AV.cell?, cellVal] at hL
      obtain ⟨q16, q17, q2, q3, q4, q6, q7, q8, q9, q10, q11, q12, q13, q14, q15⟩ := hL
      simp only [q16, q17, q18, lw, kB, kZ, kD, fillA, partsEv, zeroes, Nat.reduceSub, Int.reduceToNat, Nat.reduceMul, asInt?, asNat?, Int.reduceAdd, Int.reduceLE, Int.reduceLT, Int.reduceNeg, Nat.reduceLeDiff, VOpd.ev, Nat.reduceEqDiff, Nat.reduceAdd, reduceIte, reduceCtorEq, splice, resOf, tupOf, cellsV, AV.toV, AV.cell?, cellVal]
      refine condO_intro ?_ ?_ <;> intro hc
      · have hil : i < rl.length := by have := of_decide_eq_true hc; omega
        obtain ⟨b1, o1, he1, _, ha1, _⟩ := hw2.get i (by simpa using hil)
        obtain ⟨b2, o2, he2, _, ha2, _⟩ := hv2.get i (by simpa using hil)
        have p1 := ha1 [] 0 (by omega)
        have p2 := ha2 [] 0 (by omega)
        simp only [List.append_nil, List.getElem_map, Nat.add_zero, List.getElem?_cons_zero] at p1 p2
        have hwr : IntKind.wrap .i64 ((i : Int) + 1) = ((i + 1 : Nat) : Int) := by rw [wrap_small (by omega) (by omega)]; omega
        simp only [q16, q17, q18, lw, he1, he2, p1, p2, hwr, ne_eq, eq_self, not_true_eq_false, kB, kZ, kD, fillA, partsEv, zeroes, Nat.reduceSub, Int.reduceToNat, Nat.reduceMul, asInt?, asNat?, Int.reduceAdd, Int.reduceLE, Int.reduceLT, Int.reduceNeg, Nat.reduceLeDiff, VOpd.ev, Nat.reduceEqDiff, Nat.reduceAdd, reduceIte, reduceCtorEq, splice, resOf, tupOf, cellsV, AV.toV, AV.cell?, cellVal]
        refine ⟨mm - 1, by omega, ?_⟩
        simp only [q16, q17, q2, q3, q4, q6, q7, q8, q9, q10, q11, q12, q13, q14, q15, kB, kZ, kD, fillA, partsEv, zeroes, Nat.reduceSub, Int.reduceToNat, Nat.reduceMul, asInt?, asNat?, Int.reduceAdd, Int.reduceLE, Int.reduceLT, Int.reduceNeg, Nat.reduceLeDiff, VOpd.ev, Nat.reduceEqDiff, Nat.reduceAdd, reduceIte, reduceCtorEq, splice, resOf, tupOf, cellsV, AV.toV, AV.cell?, cellVal]
        exact ⟨i + 1, by omega, rfl⟩
      · simp only [q16, q17, q18, q2, q3, q4, q6, q7, q8, q9, q10, q11, q12, q13, q14, q15, kB, kZ, kD, fillA, partsEv, zeroes, Nat.reduceSub, Int.reduceToNat, Nat.reduceMul, asInt?, asNat?, Int.reduceAdd, Int.reduceLE, Int.reduceLT, Int.reduceNeg, Nat.reduceLeDiff, VOpd.ev, Nat.reduceEqDiff, Nat.reduceAdd, reduceIte, reduceCtorEq, splice, resOf, tupOf, cellsV, AV.toV, AV.cell?, cellVal]
  intro e hL _
  simp only [kB, kZ, kD, fillA, partsEv, zeroes, Nat.reduceSub, Int.reduceToNat, Nat.reduceMul, asInt?, asNat?, Int.reduceAdd, Int.reduceLE, Int.reduceLT, Int.reduceNeg, Nat.reduceLeDiff, VOpd.ev, Nat.reduceEqDiff, Nat.reduceAdd, reduceIte, reduceCtorEq, splice, resOf, tupOf, cellsV, AV.toV, AV.cell?, cellVal] at hL
  obtain ⟨q2, q3, q4, q6, q7, q8, q9, q10, q11, q12, q13, q14, q15⟩ := hL
  simp only [q2, q3, q4, q6, q7, q8, q9, q10, q11, q12, q13, q14, q15, kB, kZ, kD, fillA, partsEv, zeroes, Nat.reduceSub, Int.reduceToNat, Nat.reduceMul, asInt?, asNat?, Int.reduceAdd, Int.reduceLE, Int.reduceLT, Int.reduceNeg, Nat.reduceLeDiff, VOpd.ev, Nat.reduceEqDiff, Nat.reduceAdd, reduceIte, reduceCtorEq, splice, resOf, tupOf, cellsV, AV.toV, AV.cell?, cellVal]
  cases hok : okM m
  · have e : chkM m = 2 := by unfold chkM; rw [hok]; rfl
    simp only [e, hok, Int.reduceEq, Int.reduceNe, q2, q3, q4, q6, q7, q8, q9, q10, q11, q12, q13, q14, q15, kB, kZ, kD, fillA, partsEv, zeroes, Nat.reduceSub, Int.reduceToNat, Nat.reduceMul, asInt?, asNat?, Int.reduceAdd, Int.reduceLE, Int.reduceLT, Int.reduceNeg, Nat.reduceLeDiff, VOpd.ev, Nat.reduceEqDiff, Nat.reduceAdd, reduceIte, reduceCtorEq, splice, resOf, tupOf, cellsV, AV.toV, AV.cell?, cellVal]
    refine callO_same (.hook (h.alive _ (hg.app _))) ?_
    simp only [kB, kZ, kD, fillA, partsEv, zeroes, Nat.reduceSub, Int.reduceToNat, Nat.reduceMul, asInt?, asNat?, Int.reduceAdd, Int.reduceLE, Int.reduceLT, Int.reduceNeg, Nat.reduceLeDiff, VOpd.ev, Nat.reduceEqDiff, Nat.reduceAdd, reduceIte, reduceCtorEq, splice, resOf, tupOf, cellsV, AV.toV, AV.cell?, cellVal]
    exact ⟨_, rfl⟩
  have e : chkM m = 0 := by unfold chkM; rw [hok]; rfl
  have hbnd := okM_bnd hok
  simp only [e, hok, Int.reduceEq, Int.reduceNe, q2, q3, q4, q6, q7, q8, q9, q10, q11, q12, q13, q14, q15, kB, kZ, kD, fillA, partsEv, zeroes, Nat.reduceSub, Int.reduceToNat, Nat.reduceMul, asInt?, asNat?, Int.reduceAdd, Int.reduceLE, Int.reduceLT, Int.reduceNeg, Nat.reduceLeDiff, VOpd.ev, Nat.reduceEqDiff, Nat.reduceAdd, reduceIte, reduceCtorEq, splice, resOf, tupOf, cellsV, AV.toV, AV.cell?, cellVal]
  cases hk : hasCls o.k
  · simp only [hok, hk, Int.reduceEq, Int.reduceNe, q2, q3, q4, q6, q7, q8, q9, q10, q11, q12, q13, q14, q15, kB, kZ, kD, fillA, partsEv, zeroes, Nat.reduceSub, Int.reduceToNat, Nat.reduceMul, asInt?, asNat?, Int.reduceAdd, Int.reduceLE, Int.reduceLT, Int.reduceNeg, Nat.reduceLeDiff, VOpd.ev, Nat.reduceEqDiff, Nat.reduceAdd, reduceIte, reduceCtorEq, splice, resOf, tupOf, cellsV, AV.toV, AV.cell?, cellVal]
    cases hr : regM m reg
    · cases hd1 : decide (reg < 0)
      · have hd2 : decide (m.regs ≤ reg) = true := by
          have := of_decide_eq_false hd1
          unfold regM at hr
          simp only [Bool.and_eq_false_iff, decide_eq_false_iff_not] at hr
          exact decide_eq_true (by omega)
        simp only [hok, hk, hr, hd1, hd2, Int.reduceEq, Int.reduceNe, ne_eq, eq_self, not_true_eq_false, q2, q3, q4, q6, q7, q8, q9, q10, q11, q12, q13, q14, q15, kB, kZ, kD, fillA, partsEv, zeroes, Nat.reduceSub, Int.reduceToNat, Nat.reduceMul, asInt?, asNat?, Int.reduceAdd, Int.reduceLE, Int.reduceLT, Int.reduceNeg, Nat.reduceLeDiff, VOpd.ev, Nat.reduceEqDiff, Nat.reduceAdd, reduceIte, reduceCtorEq, splice, resOf, tupOf, cellsV, AV.toV, AV.cell?, cellVal]
        refine callO_same (.hook (h.alive _ (hg.app _))) ?_
        simp only [kB, kZ, kD, fillA, partsEv, zeroes, Nat.reduceSub, Int.reduceToNat, Nat.reduceMul, asInt?, asNat?, Int.reduceAdd, Int.reduceLE, Int.reduceLT, Int.reduceNeg, Nat.reduceLeDiff, VOpd.ev, Nat.reduceEqDiff, Nat.reduceAdd, reduceIte, reduceCtorEq, splice, resOf, tupOf, cellsV, AV.toV, AV.cell?, cellVal]
        exact ⟨_, rfl⟩
      · simp only [hok, hk, hr, hd1, Int.reduceEq, Int.reduceNe, ne_eq, eq_self, not_true_eq_false, q2, q3, q4, q6, q7, q8, q9, q10, q11, q12, q13, q14, q15, kB, kZ, kD, fillA, partsEv, zeroes, Nat.reduceSub, Int.reduceToNat, Nat.reduceMul, asInt?, asNat?, Int.reduceAdd, Int.reduceLE, Int.reduceLT, Int.reduceNeg, Nat.reduceLeDiff, VOpd.ev, Nat.reduceEqDiff, Nat.reduceAdd, reduceIte, reduceCtorEq, splice, resOf, tupOf, cellsV, AV.toV, AV.cell?, cellVal]
        refine callO_same (.hook (h.alive _ (hg.app _))) ?_
        simp only [kB, kZ, kD, fillA, partsEv, zeroes, Nat.reduceSub, Int.reduceToNat, Nat.reduceMul, asInt?, asNat?, Int.reduceAdd, Int.reduceLE, Int.reduceLT, Int.reduceNeg, Nat.reduceLeDiff, VOpd.ev, Nat.reduceEqDiff, Nat.reduceAdd, reduceIte, reduceCtorEq, splice, resOf, tupOf, cellsV, AV.toV, AV.cell?, cellVal]
        exact ⟨_, rfl⟩
    · have hr2 : 0 ≤ reg ∧ reg < m.regs := by unfold regM at hr; simpa using hr
      have hd1 : decide (reg < 0) = false := decide_eq_false (by omega)
      have hd2 : decide (m.regs ≤ reg) = false := decide_eq_false (by omega)
      simp only [hok, hk, hr, hd1, hd2, c_rem _ _ _ m.banks (show m.banks ≠ 0 by omega), Int.reduceEq, Int.reduceNe, ne_eq, eq_self, not_true_eq_false, q2, q3, q4, q6, q7, q8, q9, q10, q11, q12, q13, q14, q15, kB, kZ, kD, fillA, partsEv, zeroes, Nat.reduceSub, Int.reduceToNat, Nat.reduceMul, asInt?, asNat?, Int.reduceAdd, Int.reduceLE, Int.reduceLT, Int.reduceNeg, Nat.reduceLeDiff, VOpd.ev, Nat.reduceEqDiff, Nat.reduceAdd, reduceIte, reduceCtorEq, splice, resOf, tupOf, cellsV, AV.toV, AV.cell?, cellVal]
      refine callO_same (.hook (h.alive _ (hg.app _))) ?_
      simp only [kB, kZ, kD, fillA, partsEv, zeroes, Nat.reduceSub, Int.reduceToNat, Nat.reduceMul, asInt?, asNat?, Int.reduceAdd, Int.reduceLE, Int.reduceLT, Int.reduceNeg, Nat.reduceLeDiff, VOpd.ev, Nat.reduceEqDiff, Nat.reduceAdd, reduceIte, reduceCtorEq, splice, resOf, tupOf, cellsV, AV.toV, AV.cell?, cellVal]
      exact ⟨_, rfl⟩
  · simp only [hok, hk, Int.reduceEq, Int.reduceNe, q2, q3, q4, q6, q7, q8, q9, q10, q11, q12, q13, q14, q15, kB, kZ, kD, fillA, partsEv, zeroes, Nat.reduceSub, Int.reduceToNat, Nat.reduceMul, asInt?, asNat?, Int.reduceAdd, Int.reduceLE, Int.reduceLT, Int.reduceNeg, Nat.reduceLeDiff, VOpd.ev, Nat.reduceEqDiff, Nat.reduceAdd, reduceIte, reduceCtorEq, splice, resOf, tupOf, cellsV, AV.toV, AV.cell?, cellVal]
    refine callO_same (j_r19_Latency h.toOn m o.k hk) ?_
    simp only [hok, hk, Int.reduceEq, Int.reduceNe, ne_eq, eq_self, not_true_eq_false, q2, q3, q4, q6, q7, q8, q9, q10, q11, q12, q13, q14, q15, kB, kZ, kD, fillA, partsEv, zeroes, Nat.reduceSub, Int.reduceToNat, Nat.reduceMul, asInt?, asNat?, Int.reduceAdd, Int.reduceLE, Int.reduceLT, Int.reduceNeg, Nat.reduceLeDiff, VOpd.ev, Nat.reduceEqDiff, Nat.reduceAdd, reduceIte, reduceCtorEq, splice, resOf, tupOf, cellsV, AV.toV, AV.cell?, cellVal]
    cases hr : regM m reg
    · cases hd1 : decide (reg < 0)
      · have hd2 : decide (m.regs ≤ reg) = true := by
          have := of_decide_eq_false hd1
          unfold regM at hr
          simp only [Bool.and_eq_false_iff, decide_eq_false_iff_not] at hr
          exact decide_eq_true (by omega)
        simp only [hok, hk, hr, hd1, hd2, Int.reduceEq, Int.reduceNe, ne_eq, eq_self, not_true_eq_false, q2, q3, q4, q6, q7, q8, q9, q10, q11, q12, q13, q14, q15, kB, kZ, kD, fillA, partsEv, zeroes, Nat.reduceSub, Int.reduceToNat, Nat.reduceMul, asInt?, asNat?, Int.reduceAdd, Int.reduceLE, Int.reduceLT, Int.reduceNeg, Nat.reduceLeDiff, VOpd.ev, Nat.reduceEqDiff, Nat.reduceAdd, reduceIte, reduceCtorEq, splice, resOf, tupOf, cellsV, AV.toV, AV.cell?, cellVal]
        refine callO_same (.hook (h.alive _ (hg.app _))) ?_
        simp only [kB, kZ, kD, fillA, partsEv, zeroes, Nat.reduceSub, Int.reduceToNat, Nat.reduceMul, asInt?, asNat?, Int.reduceAdd, Int.reduceLE, Int.reduceLT, Int.reduceNeg, Nat.reduceLeDiff, VOpd.ev, Nat.reduceEqDiff, Nat.reduceAdd, reduceIte, reduceCtorEq, splice, resOf, tupOf, cellsV, AV.toV, AV.cell?, cellVal]
        exact ⟨_, rfl⟩
      · simp only [hok, hk, hr, hd1, Int.reduceEq, Int.reduceNe, ne_eq, eq_self, not_true_eq_false, q2, q3, q4, q6, q7, q8, q9, q10, q11, q12, q13, q14, q15, kB, kZ, kD, fillA, partsEv, zeroes, Nat.reduceSub, Int.reduceToNat, Nat.reduceMul, asInt?, asNat?, Int.reduceAdd, Int.reduceLE, Int.reduceLT, Int.reduceNeg, Nat.reduceLeDiff, VOpd.ev, Nat.reduceEqDiff, Nat.reduceAdd, reduceIte, reduceCtorEq, splice, resOf, tupOf, cellsV, AV.toV, AV.cell?, cellVal]
        refine callO_same (.hook (h.alive _ (hg.app _))) ?_
        simp only [kB, kZ, kD, fillA, partsEv, zeroes, Nat.reduceSub, Int.reduceToNat, Nat.reduceMul, asInt?, asNat?, Int.reduceAdd, Int.reduceLE, Int.reduceLT, Int.reduceNeg, Nat.reduceLeDiff, VOpd.ev, Nat.reduceEqDiff, Nat.reduceAdd, reduceIte, reduceCtorEq, splice, resOf, tupOf, cellsV, AV.toV, AV.cell?, cellVal]
        exact ⟨_, rfl⟩
    · have hr2 : 0 ≤ reg ∧ reg < m.regs := by unfold regM at hr; simpa using hr
      have hd1 : decide (reg < 0) = false := decide_eq_false (by omega)
      have hd2 : decide (m.regs ≤ reg) = false := decide_eq_false (by omega)
      simp only [hok, hk, hr, hd1, hd2, c_rem _ _ _ m.banks (show m.banks ≠ 0 by omega), Int.reduceEq, Int.reduceNe, ne_eq, eq_self, not_true_eq_false, q2, q3, q4, q6, q7, q8, q9, q10, q11, q12, q13, q14, q15, kB, kZ, kD, fillA, partsEv, zeroes, Nat.reduceSub, Int.reduceToNat, Nat.reduceMul, asInt?, asNat?, Int.reduceAdd, Int.reduceLE, Int.reduceLT, Int.reduceNeg, Nat.reduceLeDiff, VOpd.ev, Nat.reduceEqDiff, Nat.reduceAdd, reduceIte, reduceCtorEq, splice, resOf, tupOf, cellsV, AV.toV, AV.cell?, cellVal]
      refine callO_same (.hook (h.alive _ (hg.app _))) ?_
      simp only [kB, kZ, kD, fillA, partsEv, zeroes, Nat.reduceSub, Int.reduceToNat, Nat.reduceMul, asInt?, asNat?, Int.reduceAdd, Int.reduceLE, Int.reduceLT, Int.reduceNeg, Nat.reduceLeDiff, VOpd.ev, Nat.reduceEqDiff, Nat.reduceAdd, reduceIte, reduceCtorEq, splice, resOf, tupOf, cellsV, AV.toV, AV.cell?, cellVal]
      exact ⟨_, rfl⟩
end
end Go.VX.Seat
end
