/- A part of the proofs of the statements of one layer: H3, H4, E2s, E4s, E3s, T5, T6, T7. No condition is added here. -/
import Derived.Shelf.RegionOpenPlain
import Derived.Lib.Walk
import Derived.Lib.Builder
import Derived.Lib.AppendStr
import Derived.Lib.UnsafeStr
import Derived.WalkKit
import Derived.Laws.Externs
import Derived.Test.YtcemloapifojkaaGreatDoorXA11
section
set_option linter.unusedVariables false
set_option linter.unusedSimpArgs false
/-! strings.Builder: what its methods do on the machine (the shelf's proofs, turned to this seat, with what they leave as it was told block by block). -/
namespace Go.Proofs
open Go.RowKit Go.Shelf
namespace VXB
theorem sizeBuilder : (Tryz.prog.info? 81).map (·.size) = some 2 := by kernel_rfl
theorem liesBuilder : liesAt Tryz.prog Tryz.prog.depth 81 (2 / Tryz.prog.cellsOf 81) 0 81 1 = true := by kernel_rfl
set_option maxHeartbeats 1000000 in
set_option maxRecDepth 100000 in
/-- copyCheck at a builder that has been used: nothing turns. -/
theorem copyCheck_used (b : Nat) (w : World) (h0 : w.cell? ⟨b, 0, none⟩ = some (.pointer (some ⟨b, 0, none⟩))) :
    Calls Tryz.prog 72 #[.pointer (some ⟨b, 0, none⟩)] w fun e w' => e = .returned (.tuple #[]) ∧ w' = w := by
  obtain ⟨j, hj, _⟩ := Option.map_eq_some_iff.1 sizeBuilder
  go_enter Tryz.func72, Tryz.ntmps72
  go_wp2
  rw [Lib.run_neq_ptr_same w _ Tryz.underlying79 hj]
  go_wp2
  go_end0
  exact ⟨rfl, rfl⟩
set_option maxHeartbeats 1000000 in
set_option maxRecDepth 100000 in
/-- copyCheck at a fresh builder: it stores its own address. -/
theorem copyCheck_fresh (b : Nat) (w : World) (h0 : w.cell? ⟨b, 0, none⟩ = some (.pointer none)) (hsh : w.shape? b = some (81, 2)) (hfz : w.frozen? ⟨b, 0, none⟩ = false) :
    Calls Tryz.prog 72 #[.pointer (some ⟨b, 0, none⟩)] w fun e w' => e = .returned (.tuple #[]) ∧ w' = w.setCell ⟨b, 0, none⟩ (.pointer (some ⟨b, 0, none⟩)) := by
  obtain ⟨j, hj, hjs⟩ := Option.map_eq_some_iff.1 sizeBuilder
  go_enter Tryz.func72, Tryz.ntmps72
  go_wp2
  rw [Lib.run_to_unsafe w ⟨b, 0, none⟩ Tryz.underlying79 Tryz.underlying143 hj (by rw [hjs]; decide) hsh (Nat.zero_lt_succ 1)]
  simp only [Result.andThen]
  rw [Oper.upon_value]
  go_wp2
  rw [run_callFunc_extern Tryz.func94 (by kernel_rfl) (by kernel_rfl) (by kernel_rfl) (e := Extern.AbiNoEscape.same) (by kernel_rfl)]
  rw [Lib.run_noEscape]
  simp only [Result.andThen]
  rw [Oper.upon_value]
  go_wp2
  rw [Lib.run_from_unsafe w ⟨b, 0, none⟩ Tryz.underlying143 Tryz.underlying79 hj hsh liesBuilder]
  simp only [Result.andThen]
  rw [Oper.upon_value]
  go_wp2
  go_end0
  exact ⟨rfl, rfl⟩
theorem ownsRowF_low {w : World} {base e n : Nat} {v : Value} {xs : List Value} (h : w.ownsRowF base e 1 v n xs) : w.ownsRowF 0 e 1 v n xs :=
  ⟨h.1, h.2.elim .inl fun ⟨g, cap, cur, fz, hv, _, rest⟩ => .inr ⟨g, cap, cur, fz, hv, Nat.zero_le _, rest⟩⟩
/-- Bytes behind a row that is one's own: the row is the old one, or new. -/
theorem run_append3 {P : Program} (w : World) (t u ty e : TypeId) (i : TypeInfo) (ht : P.underlying t = some (.slice e)) (hu : P.underlying u = some .string) (hi : P.info? e = some i) (hz : i.zero = some (.int .u8 0))
    (hsize : i.size = 1) (hby : i.bytes = 1) (v : Value) (n : Nat) (xs : List Value) (hown : w.ownsRowF 0 e 1 v n xs) (s : ByteArray) (h63 : n + s.size ≤ maxLen) (hbytes : n + s.size ≤ 140737488355328) :
    ∃ v' w', (Builtin.append_ #[t, u] ty #[v, .string s]).run P w = .ok v' w' ∧ w'.ownsRowF 0 e 1 v' (n + s.size) (xs ++ Lib.strCells s) ∧ w.grownBy w' v.ownBlock ∧
      (v' = .slice none 0 0 ↔ v = .slice none 0 0 ∧ s.size = 0) ∧ ∀ k, v'.ownBlock = some k → v.ownBlock = some k ∨ w.heap.size ≤ k := by
  rcases hown.2 with ⟨rfl, rfl⟩ | ⟨g, cap, cur, fz, rfl, hbg, hg, hfz, hnc, hcm, hcs, htake⟩
  · obtain ⟨v', w', h1, h2, h3, h4⟩ := Lib.run_append_own_string (P := P) w w.heap.size t u ty e i ht hu hi hz hsize hby (.slice none 0 0) 0 xs ⟨hown.1, .inl ⟨rfl, rfl⟩⟩ s h63 hbytes (Nat.le_refl _)
    exact ⟨v', w', h1, ownsRowF_low (World.ownsRowF_of h2), h3, h4, fun k hk => .inr ((World.ownsRowF_of h2).lt k hk).1⟩
  · have hsmall : n + s.size ≤ 9223372036854775807 := by simp only [maxLen] at h63; omega
    have hxl : xs.length = n := by simpa using hown.1
    have hlen : (xs ++ Lib.strCells s).length = (n + s.size) * 1 := by rw [List.length_append, hxl, Lib.strCells_length, Nat.mul_one]
    by_cases hroom : n + s.size ≤ cap
    · have hcs' : cur.size = cap := by simpa using hcs
      have hr := Lib.run_append_room_stringF (P := P) w t u ty e i ht hu hi hsize g n cap cur fz hg (by simpa using hfz) s hroom (by omega)
      refine ⟨_, _, hr, ⟨hlen, .inr ⟨g, cap, _, fz, rfl, hbg, setRow_heap w g cur _ e _ hg, by omega, hroom, hcm, ?_, ?_⟩⟩, ⟨rfl, rfl, rfl, by simp, fun k _ hk => setRow_other w g k _ (fun e => hk (by simp [Value.ownBlock, e]))⟩, by simp, fun k hk => .inl hk⟩
      · simp only [List.size_toArray, List.length_append, List.length_take, List.length_drop, Array.length_toList, Lib.strCells_length]
        omega
      · have ht' : cur.toList.take n = xs := by simpa using htake
        rw [ht', ← hlen]
        exact List.take_left
    · have holds : ∀ j u, xs[j]? = some u → w.cell? ((⟨g, 0, none⟩ : Addr).add j) = some u := hown.cells (g := g) rfl
      have hr := Lib.run_append_grow_string (P := P) w t u ty e i (.int .u8 0) ht hu hi hz ⟨g, 0, none⟩ n cap xs (by rw [hsize]; simpa using hxl) holds s (by omega) (by omega) (by rw [hby]; exact growslice_fits (by omega) (by omega))
      have hge := grownCap_ge w (n + s.size) cap e
      have hcm2 : grownCap w (n + s.size) cap e ≤ maxLen := grownCap_le_maxLen w (n + s.size) cap e h63
      refine ⟨_, _, hr, ⟨hlen, .inr ⟨w.heap.size, _, _, (0, 0), rfl, Nat.zero_le _, heap_alloc_new w.drew _, Nat.zero_le _, hge, hcm2, ?_, ?_⟩⟩, ⟨rfl, rfl, rfl, by simp, fun k hk _ => heap_alloc_old w.drew _ hk⟩, by simp, fun k hk => .inr ?_⟩
      · have hz1 : (Value.int IntKind.u8 0).cells.size = 1 := rfl
        simp only [Array.size_append, List.size_toArray, size_zeroCells, hz1, hxl, Lib.strCells_length]
        omega
      · simp only [Array.toList_append, List.append_assoc]
        rw [← List.append_assoc, ← hlen]
        exact List.take_left
      · simp [Value.ownBlock] at hk
        omega
theorem wpList_append3 {P : Program} (w : World) {ops : Array Oper} {rest : List Oper} {o : Oper} {a : Act} {Q : Exit → Act → World → Prop} (hgd : o.guard = none) (sl x : Operand) (t u : TypeId)
    (ho : o.op = .call { callee := .builtin .append, args := #[sl, x], argTypes := #[t, u] })
    (e : TypeId) (i : TypeInfo) (ht : P.underlying t = some (.slice e)) (hu : P.underlying u = some .string) (hi : P.info? e = some i) (hz : i.zero = some (.int .u8 0))
    (hsize : i.size = 1) (hby : i.bytes = 1)
    (v : Value) (n : Nat) (xs : List Value) (hs : a.eval sl = v) (hown : w.ownsRowF 0 e 1 v n xs) (s : ByteArray) (hx : a.eval x = .string s)
    (h63 : n + s.size ≤ maxLen) (hbytes : n + s.size ≤ 140737488355328)
    (h : ∀ v' w', w'.ownsRowF 0 e 1 v' (n + s.size) (xs ++ Lib.strCells s) → w.grownBy w' v.ownBlock → (v' = .slice none 0 0 ↔ v = .slice none 0 0 ∧ s.size = 0) → (∀ k, v'.ownBlock = some k → v.ownBlock = some k ∨ w.heap.size ≤ k) → wpList P ops Q rest (a.put o.dst v') w') : wpList P ops Q (o :: rest) a w := by
  refine wpList_plain hgd fun K hK => ?_
  obtain ⟨v', w', hr, h2, h3, h4, h5⟩ := run_append3 (P := P) w t u o.type e i ht hu hi hz hsize hby v n xs hown s h63 hbytes
  unfold Oper.wp execOp
  simp only [ho, resolve, invoke, builtin, Sem.run_bind, Sem.run_pure, Result.andThen_ok, List.map_toArray, List.map_cons, List.map_nil, hs, hx, hr]
  exact hK _ _ (h v' w' h2 h3 h4 h5)
/-- A builder at block b: what it holds, and where. -/
structure BAt (w : World) (b : Nat) (p v : Value) (l : List UInt8) : Prop where
  pt : p = .pointer none ∨ p = .pointer (some ⟨b, 0, none⟩)
  box : w.heap[b]? = some (.cells #[p, v] 81 (0, 0))
  row : w.ownsRowF 0 5 1 v l.length (Lib.byteCells l)
  ne : v.ownBlock ≠ some b
  nil : v = .slice none 0 0 ↔ l = []
theorem infoByte : (Tryz.prog.info? 5).map (fun i => (i.zero, i.size, i.bytes)) = some (some (.int .u8 0), 1, 1) := by kernel_rfl
theorem cellsByte : Tryz.prog.cellsOf 5 = 1 := by kernel_rfl
theorem BAt.lt {w : World} {b : Nat} {p v : Value} {l : List UInt8} (h : BAt w b p v l) : b < w.heap.size := (Array.getElem?_eq_some_iff.1 h.box).1
set_option maxHeartbeats 2000000 in
set_option maxRecDepth 100000 in
theorem write_calls (b : Nat) (p v : Value) (l : List UInt8) (s : ByteArray) (w : World) (h : BAt w b p v l) (hlen : l.length + s.size ≤ 140737488355328) :
    Calls Tryz.prog 39 #[.pointer (some ⟨b, 0, none⟩), .string s] w fun e w' => e = .returned (.tuple #[.int .i64 s.size, .nilIface]) ∧ ∃ v', BAt w' b (.pointer (some ⟨b, 0, none⟩)) v' (l ++ s.data.toList) ∧
      w'.os = w.os ∧ w'.tape = w.tape ∧ w'.output = w.output ∧ w.heap.size ≤ w'.heap.size ∧ (∀ k, k < w.heap.size → k ≠ b → v.ownBlock ≠ some k → w'.heap[k]? = w.heap[k]?) ∧ (∀ k, v'.ownBlock = some k → v.ownBlock = some k ∨ w.heap.size ≤ k) := by
  obtain ⟨i0, hi, hz0, hz1, hz2⟩ := info_parts infoByte
  have hcc : Calls Tryz.prog 72 #[.pointer (some ⟨b, 0, none⟩)] w fun e w' => e = .returned (.tuple #[]) ∧ (w' = w ∨ w' = w.setCell ⟨b, 0, none⟩ (.pointer (some ⟨b, 0, none⟩))) ∧ w'.heap[b]? = some (.cells #[.pointer (some ⟨b, 0, none⟩), v] 81 (0, 0)) := by
    have hbx := h.box
    rcases h.pt with rfl | rfl
    · refine (copyCheck_fresh b w (by simp [World.cell?, hbx]) (by simp [World.shape?, hbx]) (by simp [World.frozen?, hbx])).mono ?_
      rintro e w' ⟨rfl, rfl⟩
      exact ⟨rfl, .inr rfl, by simp [World.setCell, Array.getElem?_modify, hbx]⟩
    · refine (copyCheck_used b w (by simp [World.cell?, hbx])).mono ?_
      rintro e w' ⟨rfl, rfl⟩
      exact ⟨rfl, .inl rfl, hbx⟩
  go_enter Tryz.func39, Tryz.ntmps39
  go_wp2_with (go_at_call 72; refine hcc.mono ?_)
  rintro e w1 ⟨rfl, hw1, hbk⟩
  have hsz : w1.heap.size = w.heap.size := by
    rcases hw1 with rfl | rfl
    · rfl
    · simp [World.setCell]
  have hot : w1.os = w.os ∧ w1.tape = w.tape ∧ w1.output = w.output := by
    rcases hw1 with rfl | rfl <;> exact ⟨rfl, rfl, rfl⟩
  have hoth : ∀ k, k ≠ b → w1.heap[k]? = w.heap[k]? := fun k hk => by
    rcases hw1 with rfl | rfl
    · rfl
    · exact Below.heap_setCell _ _ _ _ hk
  have hown : w1.ownsRowF 0 5 1 v l.length (Lib.byteCells l) := Go.VX.ownsRowF_frame h.row fun i hi => hoth i (fun e => h.ne (by rw [hi, e]))
  have c0 : w1.cell? ⟨b, 0, none⟩ = some (.pointer (some ⟨b, 0, none⟩)) := by rw [Lib.cell_of_heap hbk]; rfl
  have c1 : w1.cell? ⟨b, 1, none⟩ = some v := by rw [Lib.cell_of_heap hbk]; rfl
  go_wp2_with (at_builtin; refine wpList_append3 _ rfl _ _ 62 9 rfl 5 i0 Tryz.underlying62 Tryz.underlying9 hi hz0 hz1 hz2 _ _ _ rfl hown s rfl ?c3 ?c4 ?_)
  case c3 => unfold maxLen; omega
  case c4 => omega
  intro v' w2 hown' hgrow hnil hown2
  have hlt : b < w1.heap.size := by rw [hsz]; exact h.lt
  have hb2 : w2.heap[b]? = some (.cells #[.pointer (some ⟨b, 0, none⟩), v] 81 (0, 0)) := by
    rw [hgrow.block b hlt (fun e => h.ne e.symm)]
    exact hbk
  have d0 : w2.cell? ⟨b, 0, none⟩ = some (.pointer (some ⟨b, 0, none⟩)) := by rw [Lib.cell_of_heap hb2]; rfl
  have d1 : w2.cell? ⟨b, 1, none⟩ = some v := by rw [Lib.cell_of_heap hb2]; rfl
  have f1 : w2.frozen? ⟨b, 1, none⟩ = false := Lib.frozen_of_heap hb2 1
  have hne' : v'.ownBlock ≠ some b := Lib.ownBlock_neF hown' hb2 (by decide)
  obtain ⟨ao, n', cap, rfl⟩ : ∃ ao n' cap, v' = .slice ao n' cap := by
    rcases hown'.2 with ⟨hv, _⟩ | ⟨g, cap, cur, fz, hv, _⟩
    · exact ⟨_, _, _, hv⟩
    · exact ⟨_, _, _, hv⟩
  go_wp2
  go_ret2
  have hlist : Lib.byteCells (l ++ s.data.toList) = Lib.byteCells l ++ Lib.strCells s := by rw [Lib.byteCells_append, Lib.strCells_eq]
  have hsl : (l ++ s.data.toList).length = l.length + s.size := by rw [List.length_append]; rfl
  refine ⟨rfl, _, ⟨.inr rfl, ?_, ?_, hne', ?_⟩, ?_, ?_, ?_, ?_, fun k hk hkb hkv => ?_, fun k hk => ?_⟩
  · simp [World.setCell, Array.getElem?_modify, hb2]
  · rw [hsl, hlist]
    exact Go.VX.ownsRowF_frame hown' fun i hi => Below.heap_setCell _ _ _ _ (fun e => hne' (by rw [hi, e]))
  · rw [hnil, h.nil]
    constructor
    · rintro ⟨rfl, h0⟩
      have h0 : s = ByteArray.empty := h0
      subst h0
      rfl
    · intro he
      have h1 := List.append_eq_nil_iff.1 he
      exact ⟨h1.1, by
        have h2 : s.data = #[] := by simpa using h1.2
        cases s
        cases h2
        rfl⟩
  · exact hgrow.os.trans hot.1
  · exact hgrow.tape.trans hot.2.1
  · exact hgrow.output.trans hot.2.2
  · rw [← hsz]; exact Nat.le_trans hgrow.size (by simp [World.setCell])
  · rw [Below.heap_setCell _ _ _ _ (show k ≠ b from hkb), hgrow.block k (by omega) (fun e => hkv e.symm), hoth k hkb]
  · rcases hown2 k hk with h1 | h1
    · exact .inl h1
    · exact .inr (by omega)
/-- What freezing leaves. -/
theorem freeze_frame (w : World) (g n k : Nat) (hk : k ≠ g) : (w.freeze ⟨g, 0, none⟩ n).heap[k]? = w.heap[k]? := by
  unfold World.freeze
  split
  · rfl
  · simp only [Array.getElem?_modify]
    rw [if_neg (fun e => hk e.symm)]
theorem freeze_rest (w : World) (g n : Nat) : (w.freeze ⟨g, 0, none⟩ n).os = w.os ∧ (w.freeze ⟨g, 0, none⟩ n).tape = w.tape ∧ (w.freeze ⟨g, 0, none⟩ n).output = w.output ∧ (w.freeze ⟨g, 0, none⟩ n).heap.size = w.heap.size := by
  unfold World.freeze
  split
  · exact ⟨rfl, rfl, rfl, rfl⟩
  · exact ⟨rfl, rfl, rfl, by simp⟩
set_option maxHeartbeats 2000000 in
set_option maxRecDepth 100000 in
theorem string_calls (b : Nat) (p v : Value) (l : List UInt8) (w : World) (h : BAt w b p v l) (hlen : l.length ≤ 140737488355328) :
    Calls Tryz.prog 43 #[.pointer (some ⟨b, 0, none⟩)] w fun e w' => e = .returned (.string ⟨l.toArray⟩) ∧ BAt w' b p v l ∧
      w'.os = w.os ∧ w'.tape = w.tape ∧ w'.output = w.output ∧ w.heap.size = w'.heap.size ∧ (∀ k, v.ownBlock ≠ some k → w'.heap[k]? = w.heap[k]?) := by
  have hbx : w.drew.heap[b]? = some (.cells #[p, v] 81 (0, 0)) := h.box
  have c1 : w.drew.cell? ⟨b, 1, none⟩ = some v := by rw [Lib.cell_of_heap hbx]; rfl
  by_cases h0 : l = []
  · have hv := h.nil.2 h0
    subst hv
    subst h0
    have hUS := Lib.run_unsafeString_none (P := Tryz.prog) w.drew 122 3 9 none
    have hSD : (Builtin.unsafeSliceData_ #[62] 122 #[.slice none 0 0]).run Tryz.prog w.drew = .ok (.pointer none) w.drew := rfl
    have mixed : Tryz.prog.follows .mixedOrders = true := by kernel_rfl
    go_enter Tryz.func43, Tryz.ntmps43
    go_wp2
    go_region_o
    all_goals (go_wp2; go_ret; exact ⟨rfl, ⟨h.pt, h.box, h.row, h.ne, h.nil⟩, rfl, rfl, rfl, rfl, fun _ _ => rfl⟩)
  · have hl0 : l.length ≠ 0 := by simpa using h0
    obtain ⟨g, cap, cur, fz, rfl, hbg, hg, hfz, hnc, hcm, hcs, htake⟩ : ∃ g cap cur fz, v = .slice (some ⟨g, 0, none⟩) l.length cap ∧ 0 ≤ g ∧ w.heap[g]? = some (.cells cur 5 fz) ∧ fz.2 ≤ l.length * 1 ∧ l.length ≤ cap ∧ cap ≤ maxLen ∧ cur.size = cap * 1 ∧ cur.toList.take (l.length * 1) = Lib.byteCells l := by
      rcases h.row.2 with ⟨_, hz⟩ | ⟨g, cap, cur, fz, hv, r⟩
      · exact absurd hz hl0
      · exact ⟨g, cap, cur, fz, hv, r⟩
    have hSD : (Builtin.unsafeSliceData_ #[62] 122 #[.slice (some ⟨g, 0, none⟩) l.length cap]).run Tryz.prog w.drew = .ok (.pointer (some ⟨g, 0, none⟩)) w.drew :=
      Lib.run_unsafeSliceData_row _ _ _ _ _ _ (by omega)
    have hUS : (Builtin.unsafeString_ #[122, 3] 9 #[.pointer (some ⟨g, 0, none⟩), .int .i64 l.length]).run Tryz.prog w.drew = .ok (.string ⟨l.toArray⟩) (w.drew.freeze ⟨g, 0, none⟩ l.length) := by
      refine Lib.run_unsafeString_row w.drew 122 3 9 5 Tryz.underlying122 cellsByte g cur.size (by have hg' : w.drew.heap[g]? = some (.cells cur 5 fz) := hg; simp [World.shape?, hg']) l h0 (by omega) (by omega) ?_
      intro j x hx
      have := h.row.cells (g := g) rfl j (.int .u8 x.toNat) (by simp [Lib.byteCells, hx])
      exact this
    have hA : Lib.BuilderAtF 81 5 0 b p (Lib.byteCells l) w.drew := ⟨Nat.zero_le _, _, hbx, by rw [Lib.byteCells_length]; exact h.row, h.ne⟩
    have hF := hA.froze (g := g) (cap := cap) (by rw [Lib.byteCells_length]; exact c1)
    rw [Lib.byteCells_length] at hF
    have hB : BAt (w.drew.freeze ⟨g, 0, none⟩ l.length) b p (.slice (some ⟨g, 0, none⟩) l.length cap) l := by
      obtain ⟨_, v', hb', hr', hn'⟩ := hF
      have hgb : b ≠ g := fun e => h.ne (by simp [Value.ownBlock, e])
      have hb2 := freeze_frame w.drew g l.length b hgb
      rw [hbx] at hb2
      rw [hb2] at hb'
      simp only [Option.some.injEq, Obj.cells.injEq, and_true] at hb'
      have e : Value.slice (some ⟨g, 0, none⟩) l.length cap = v' := by
        have := congrArg (fun a : Array Value => a[1]?) hb'
        simpa using this
      subst e
      exact ⟨h.pt, hb2, by rw [Lib.byteCells_length] at hr'; exact hr', hn', h.nil⟩
    have hrest := freeze_rest w.drew g l.length
    have mixed : Tryz.prog.follows .mixedOrders = true := by kernel_rfl
    go_enter Tryz.func43, Tryz.ntmps43
    go_wp2
    go_region_o
    all_goals (go_wp2; go_ret; exact ⟨rfl, hB, hrest.1, hrest.2.1, hrest.2.2.1, hrest.2.2.2.symm, fun k hk => freeze_frame w.drew g l.length k (fun e => hk (by simp [Value.ownBlock, e]))⟩)
end VXB
end Go.Proofs
end
section
set_option linter.unusedVariables false
set_option linter.unusedSimpArgs false
/-! What is told of strings.Builder's methods, and of what the machine stands in for. -/
namespace Go.VX.Seat
open Go.Proofs
/-- What a builder's box tells. -/
def bldCells (l : List UInt8) : List AV := [iA 1, iA 81, iA 5, .sc (.string ⟨l.toArray⟩)]
def HBld : FuncId → List AV → St → CRes → St → Prop := fun f args st r st' =>
  ∃ (b : Nat) (l : List UInt8) (ver : Nat), st[b]? = some ⟨bldCells l, 3, ver⟩ ∧ l.length ≤ 1000000000 ∧
    ((f = 39 ∧ ∃ s : ByteArray, args = [.ptr b 0, .sc (.string s)] ∧ s.size ≤ 1000000000 ∧ r = .ret (.tup [iA s.size, .sc .nilIface]) ∧ st' = st.set b ⟨bldCells (l ++ s.data.toList), 3, ver + 1⟩) ∨
     (f = 43 ∧ args = [.ptr b 0] ∧ r = .ret (.sc (.string ⟨l.toArray⟩)) ∧ st' = st))
theorem callable_write : Callable Tryz.prog 39 := ⟨Tryz.f39, by kernel_rfl, by kernel_rfl, by kernel_rfl⟩
theorem callable_string : Callable Tryz.prog 43 := ⟨Tryz.f43, by kernel_rfl, by kernel_rfl, by kernel_rfl⟩
theorem bat_of_phi {l : List UInt8} {r : Nat} {S : List Nat} {w : World} (h : Phi (bldCells l) r S w) : ∃ p v, VXB.BAt w r p v l ∧ S = r :: v.ownBlock.toList := by
  obtain ⟨tb, tu, l', p, v, h1, h0, h2, h3, h4, h5, h6, h7⟩ := h
  simp only [bldCells, List.cons.injEq, AV.sc.injEq, Value.int.injEq, Value.string.injEq, ByteArray.mk.injEq, true_and, and_true] at h1
  obtain ⟨e1, e2, e3⟩ := h1
  have e1 : 81 = tb := by omega
  have e2 : 5 = tu := by omega
  have e3 : l = l' := by simpa using e3
  subst e1; subst e2; subst e3
  exact ⟨p, v, ⟨h2, h3, h4, h6, h7⟩, h5⟩
theorem phi_of_bat {l : List UInt8} {r : Nat} {w : World} {p v : Value} (h : VXB.BAt w r p v l) : Phi (bldCells l) r (r :: v.ownBlock.toList) w :=
  ⟨81, 5, l, p, v, rfl, by decide, h.pt, h.box, h.row, rfl, h.ne, h.nil⟩
theorem hbld_sound {f : FuncId} {args : List AV} {st st' : St} {r : CRes} (h : HBld f args st r st') : SoundCall Tryz.prog [1, 0, 2, 3] f args st r st' := by
  obtain ⟨b, l, ver, hx, hl, h⟩ := h
  rcases h with ⟨rfl, s, rfl, hs, rfl, rfl⟩ | ⟨rfl, rfl, rfl, rfl⟩
  · refine SoundC.sound ?_ callable_write
    intro n0 wi K w args' hW hn hargs
    obtain ⟨fp, hfp⟩ := hW.fo
    cases hargs with
    | cons h1 h2 =>
      cases h2 with
      | cons h2 h3 =>
        cases h3
        obtain ⟨kb, hk, rfl⟩ := ptr_inv h1
        have h2 := VRel.sc_eq h2
        subst h2
        obtain ⟨⟨hro, hphi⟩, hf2, hf3, hf4⟩ := hfp b _ kb hx rfl hk
        obtain ⟨p, v, hbat, hS⟩ := bat_of_phi hphi
        rw [hro]
        refine (VXB.write_calls kb.rb p v l s w hbat (by omega)).mono fun e w' he => ?_
        obtain ⟨rfl, v', hb', g1, g2, g3, g4, g5, g6⟩ := he
        refine ⟨K, WRel.setF hW hn hfp hx rfl rfl hk g1 g2 g3 g4 (fun k hk1 hk2 => g5 k hk1 (fun e => hk2 (by rw [hS, e]; simp)) (fun e => hk2 (by rw [hS, e]; simp))) (phi_of_bat hb') (fun k hk1 => ?_), ⟨KM.le_refl K, by simp, fun _ _ => rfl, fun b' hb' hk' => ?_⟩, _, rfl, .tup (.cons (.sc rfl) (.cons (.sc rfl) .nil))⟩
        · have hlt' : ∀ k, v'.ownBlock = some k → k < w'.heap.size := fun k hk => (hb'.row.lt k hk).2
          rw [hS]
          simp at hk1 ⊢
          rcases hk1 with rfl | hk1
          · exact ⟨.inl (.inl rfl), hb'.lt⟩
          · have hk1 : v'.ownBlock = some k := by simpa using hk1
            refine ⟨?_, hlt' k hk1⟩
            rcases g6 k hk1 with h1 | h1
            · exact .inl (.inr h1)
            · exact .inr h1
        · have hne : b' ≠ b := fun e => by rw [e, hk] at hk'; cases hk'
          rw [List.getElem?_set_ne (Ne.symm hne)]
  · refine SoundC.sound ?_ callable_string
    intro n0 wi K w args' hW hn hargs
    obtain ⟨fp, hfp⟩ := hW.fo
    cases hargs with
    | cons h1 h2 =>
      cases h2
      obtain ⟨kb, hk, rfl⟩ := ptr_inv h1
      obtain ⟨⟨hro, hphi⟩, hf2, hf3, hf4⟩ := hfp b _ kb hx rfl hk
      obtain ⟨p, v, hbat, hS⟩ := bat_of_phi hphi
      rw [hro]
      refine (VXB.string_calls kb.rb p v l w hbat (by omega)).mono fun e w' he => ?_
      obtain ⟨rfl, hb', g1, g2, g3, g4, g5⟩ := he
      have hW' := WRel.setF hW hn hfp hx rfl (x' := ⟨bldCells l, 3, ver⟩) rfl hk g1 g2 g3 (by omega) (fun k hk1 hk2 => g5 k (fun e => hk2 (by rw [hS, e]; simp))) (phi_of_bat hb') (fun k hk1 => ⟨.inl (by rw [hS]; exact hk1), by
        have := (hf2 k (by rw [hS]; exact hk1)).2
        omega⟩)
      have hset : st'.set b ⟨bldCells l, 3, ver⟩ = st' := by
        refine List.ext_getElem? fun i => ?_
        by_cases hi : b = i
        · subst hi
          rw [List.getElem?_set_self (List.getElem?_eq_some_iff.1 hx).1, hx]
        · rw [List.getElem?_set_ne hi]
      rw [hset] at hW'
      exact ⟨K, hW', Fr.refl K st', _, rfl, .sc rfl⟩
theorem hbld_evo {f : FuncId} {args : List AV} {st st' : St} {r : CRes} (h : HBld f args st r st') : Evo st st' := by
  obtain ⟨b, l, ver, hx, hl, h⟩ := h
  rcases h with ⟨rfl, s, rfl, hs, rfl, rfl⟩ | ⟨rfl, rfl, rfl, rfl⟩
  · exact Evo.set hx (by simp) (.inl rfl) (fun e => by simp at e)
  · exact Evo.refl _
/-- What the machine stands in for. -/
def natF (f : FuncId) : Option (Array Value → Sem Value) := match f with
  | 144 => some Extern.BytealgIndexByte.indexByte
  | 125 => some Extern.BytealgCount.count
  | _ => none
def HNat : FuncId → List AV → St → CRes → St → Prop := fun f args st r st' =>
  ∃ e vs v, natF f = some e ∧ cellsV args = some vs ∧ closed Tryz.prog (e vs.toArray) = some v ∧ cellVal v = true ∧ r = .ret (.sc v) ∧ st' = st
theorem natF_run {f : FuncId} {e : Array Value → Sem Value} (h : natF f = some e) (args : Array Value) (w : World) : (callFunc f args).run Tryz.prog w = ((e args).run Tryz.prog w).andThen fun v w' => .ok (.value v) w' := by
  unfold natF at h
  split at h
  · cases h
    exact run_callFunc_extern Tryz.func144 (by kernel_rfl) (by kernel_rfl) (by kernel_rfl) (by kernel_rfl) args w
  · cases h
    exact run_callFunc_extern Tryz.func125 (by kernel_rfl) (by kernel_rfl) (by kernel_rfl) (by kernel_rfl) args w
  · cases h
theorem hnat_sound {f : FuncId} {args : List AV} {st st' : St} {r : CRes} (h : HNat f args st r st') : SoundCall Tryz.prog [1, 0, 2, 3] f args st r st' := by
  obtain ⟨e, vs, v, he, hvs, hv, hc, rfl, rfl⟩ := h
  intro n0 wi K w args' hW hn hargs
  have h1 := hargs.cellsV hvs
  subst h1
  refine .inr ⟨v, w, ?_, K, hW, Fr.refl K st', v, rfl, .sc hc⟩
  rw [natF_run he, run_closed _ hv]
  rfl
theorem hnat_evo {f : FuncId} {args : List AV} {st st' : St} {r : CRes} (h : HNat f args st r st') : Evo st st' := by
  obtain ⟨e, vs, v, he, hvs, hv, hc, rfl, rfl⟩ := h
  exact Evo.refl _
end Go.VX.Seat
end
section
set_option linter.unusedVariables false
set_option maxRecDepth 100000
/-! All that is told of, strings.Builder and what the machine stands in for too; closed runs. -/
namespace Go.VX.Seat
open Go.Proofs
def HTold : FuncId → List AV → St → CRes → St → Prop := fun f args st r st' => HFind f args st r st' ∨ HBld f args st r st' ∨ HNat f args st r st'
theorem htold_find {f : FuncId} {args : List AV} {st : St} {r : CRes} {st' : St} (h : HFind f args st r st') : HTold f args st r st' := .inl h
theorem htold_sound {f : FuncId} {args : List AV} {st st' : St} {r : CRes} (h : HTold f args st r st') : SoundCall Go.Proofs.Tryz.prog [1, 0, 2, 3] f args st r st' := by
  rcases h with h | h | h
  · exact hfind_sound h
  · exact hbld_sound h
  · exact hnat_sound h
theorem htold_evo {f : FuncId} {args : List AV} {st st' : St} {r : CRes} (h : HTold f args st r st') : Evo st st' := by
  rcases h with h | h | h
  · exact hfind_evo h
  · exact hbld_evo h
  · exact hnat_evo h
/-- A builder's bytes, out of its box. -/
def bldOfBox : Option Box → Option (List UInt8 × Nat)
  | some ⟨[.sc (.int .i64 a), .sc (.int .i64 b), .sc (.int .i64 c), .sc (.string s)], m, ver⟩ => if a = 1 ∧ b = 81 ∧ c = 5 ∧ m = 3 ∧ s.data.toList.length ≤ 1000000000 then some (s.data.toList, ver) else none
  | _ => none
theorem bldOfBox_ok {x : Option Box} {l : List UInt8} {ver : Nat} (h : bldOfBox x = some (l, ver)) : x = some ⟨bldCells l, 3, ver⟩ ∧ l.length ≤ 1000000000 := by
  unfold bldOfBox at h
  split at h
  · rename_i a b c s m v
    split at h
    · rename_i hc
      obtain ⟨rfl, rfl, rfl, rfl, hl⟩ := hc
      simp only [Option.some.injEq, Prod.mk.injEq] at h
      obtain ⟨rfl, rfl⟩ := h
      refine ⟨?_, hl⟩
      cases s
      simp [bldCells]
    · cases h
  · cases h
noncomputable def evBld (call : EvF) : EvF := fun f args st =>
  match Nat.beq f 39 with
  | true => match args with
    | [.ptr b o, .sc (.string s)] => match Nat.beq o 0, bldOfBox st[b]?, decide (s.size ≤ 1000000000) with
      | true, some (l, ver), true => some (.ret (.tup [iA s.size, .sc .nilIface]), st.set b ⟨bldCells (l ++ s.data.toList), 3, ver + 1⟩)
      | _, _, _ => none
    | _ => none
  | false => match Nat.beq f 43 with
    | true => match args with
      | [.ptr b o] => match Nat.beq o 0, bldOfBox st[b]? with
        | true, some (l, ver) => some (.ret (.sc (.string ⟨l.toArray⟩)), st)
        | _, _ => none
      | _ => none
    | false => call f args st
theorem evBld_ok {call : EvF} (hc : CallOk Go.Proofs.Tryz.prog fnOf HTold call) : CallOk Go.Proofs.Tryz.prog fnOf HTold (evBld call) := by
  intro f args st r st' h
  unfold evBld at h
  split at h
  · rename_i hf
    have hf := Nat.eq_of_beq_eq_true hf
    subst hf
    split at h
    · rename_i b o s
      split at h
      · rename_i l ver ho hb hs
        simp only [Option.some.injEq, Prod.mk.injEq] at h
        obtain ⟨rfl, rfl⟩ := h
        have ho := Nat.eq_of_beq_eq_true ho
        subst ho
        obtain ⟨h1, h2⟩ := bldOfBox_ok hb
        exact .hook (.inr (.inl ⟨b, l, ver, h1, h2, .inl ⟨rfl, s, rfl, of_decide_eq_true hs, rfl, rfl⟩⟩))
      · cases h
    · cases h
  · split at h
    · rename_i hf
      have hf := Nat.eq_of_beq_eq_true hf
      subst hf
      split at h
      · rename_i b o
        split at h
        · rename_i l ver ho hb
          simp only [Option.some.injEq, Prod.mk.injEq] at h
          obtain ⟨rfl, rfl⟩ := h
          have ho := Nat.eq_of_beq_eq_true ho
          subst ho
          obtain ⟨h1, h2⟩ := bldOfBox_ok hb
          exact .hook (.inr (.inl ⟨b, l, ver, h1, h2, .inr ⟨rfl, rfl, rfl, rfl⟩⟩))
        · cases h
      · cases h
    · exact hc _ _ _ _ _ h
noncomputable def evNat (call : EvF) : EvF := fun f args st =>
  match natF f with
  | some e => match cellsV args with
    | some vs => match closed Go.Proofs.Tryz.prog (e vs.toArray) with
      | some v => match cellVal v with
        | true => some (.ret (.sc v), st)
        | false => none
      | none => none
    | none => none
  | none => call f args st
theorem evNat_ok {call : EvF} (hc : CallOk Go.Proofs.Tryz.prog fnOf HTold call) : CallOk Go.Proofs.Tryz.prog fnOf HTold (evNat call) := by
  intro f args st r st' h
  unfold evNat at h
  split at h
  · rename_i e he
    split at h
    · rename_i vs hvs
      split at h
      · rename_i v hv
        split at h
        · rename_i hcv
          simp only [Option.some.injEq, Prod.mk.injEq] at h
          obtain ⟨rfl, rfl⟩ := h
          exact .hook (.inr (.inr ⟨e, vs, v, he, hvs, hv, hcv, rfl, rfl⟩))
        · cases h
      · cases h
    · cases h
  · exact hc _ _ _ _ _ h
/-- A closed call, worked out. -/
noncomputable def runClosed (n : Nat) (f : FuncId) (st : St) : Option (CRes × St) := evF fnOf (evC Go.Proofs.Tryz.prog fnOf (fun call => evNat (evBld (evFind n call))) n) f [] st
theorem runClosed_ok {n : Nat} {f : FuncId} {st st' : St} {r : CRes} (h : runClosed n f st = some (r, st')) : J Go.Proofs.Tryz.prog fnOf HTold (.call f [] st r st') :=
  evF_ok (fun _ _ _ _ _ h => htold_evo h) (evC_ok (fun _ _ _ _ _ h => htold_evo h) (fun _ h => evNat_ok (evBld_ok (evFind_ok (fun _ _ _ _ _ h => .inl h) n h))) n) _ _ _ _ _ h
end Go.VX.Seat
end
section
set_option maxRecDepth 1000000
/-! The law's own example: a closed call, worked out by the kernel. -/
namespace Go.VX.Seat
def okTrue : Option (CRes × St) → Bool
  | some (.ret (.sc (.bool true)), _) => true
  | _ => false
theorem alive_run : okTrue (runClosed 1000 12 glS) = true := by kernel_rfl
end Go.VX.Seat
end
section
set_option linter.unusedVariables false
set_option linter.unusedSimpArgs false
set_option maxRecDepth 1000000
/-! What is told of in all: the law's own example too. -/
namespace Go.VX
open Go.RowKit (Below)
theorem WRel.keep {n0 : Nat} {wi : World} {gl : List Nat} {K : KM} {st : St} {w w' : World} (h : WRel n0 wi gl K st w) (hn : n0 ≤ w.heap.size) (hb : Below w.heap.size w w') : WRel n0 wi gl K st w' := by
  have hc : ∀ a : Addr, a.block < w.heap.size → w'.cell? a = w.cell? a := fun a ha => by
    unfold World.cell?
    rw [hb.block _ ha]
  exact {
    below := h.below.trans ⟨hb.os, hb.tape, hb.output, hb.size, fun k hk => hb.block k (by omega)⟩
    dom := h.dom
    lt := fun b x kb h1 h2 h3 => Nat.lt_of_lt_of_le (h.lt b x kb h1 h2 h3) hb.size
    cell := fun b x kb h1 h2 h3 o a h4 => by
      obtain ⟨v, hv, hr⟩ := h.cell b x kb h1 h2 h3 o a h4
      exact ⟨v, by rw [hc _ (h.lt b x kb h1 (fun e => h2 (by rw [e]; exact Nat.le_refl _)) h3)]; exact hv, hr⟩
    live := fun b x kb h1 h2 h3 => by
      obtain ⟨g1, c, el, g2, g3⟩ := h.live b x kb h1 h2 h3
      exact ⟨g1, c, el, by rw [hb.block _ (h.lt b x kb h1 (by rw [h2]; decide) h3)]; exact g2, g3⟩
    excl := h.excl
    fit := h.fit
    glob := h.glob
    fo := h.fo.step (fun _ _ _ h1 _ h3 => ⟨h1, h3⟩) (fun b x kb h1 h2 h3 h4 => .inl ⟨b, x, kb, h1, h2, h3, h4, rfl⟩) hb.size (fun i hi => .inl (hb.block i hi)) }
namespace Seat
open Go.Proofs
theorem okTrue_inv : ∀ {r : Option (CRes × St)}, okTrue r = true → ∃ st', r = some (.ret (bA true), st')
  | some (.ret (.sc (.bool true)), st'), _ => ⟨st', rfl⟩
/-- The variables lie where they must. -/
def GB (st : St) : Prop := ∀ (j : Nat) (x : Box), glS[j]? = some x → st[j]? = some x
theorem GB.app {st : St} (h : GB st) (L : St) : GB (st ++ L) := fun j x hx => by
  have := h j x hx
  rw [List.getElem?_append_left (List.getElem?_eq_some_iff.1 this).1]; exact this
theorem GB.glob {st : St} (h : GB st) : GlobAt st := BoxAt.of (m := 1) (v := 0) (h 0 formBox rfl) (by decide)
theorem glS_flat : (glS.all fun x => Nat.beq x.mode 1 && x.cells.all AV.flat) = true := by decide +kernel
theorem glS_len : ([1, 0, 2, 3] : List Nat).length = glS.length := rfl
theorem glS_in {j : Nat} {x : Box} (h : glS[j]? = some x) : x.mode = 1 ∧ ∀ a ∈ x.cells, a.flat = true := by
  have := List.all_eq_true.1 glS_flat x (List.mem_of_getElem? h)
  simp only [Bool.and_eq_true] at this
  exact ⟨Nat.eq_of_beq_eq_true this.1, fun a ha => List.all_eq_true.1 this.2 a ha⟩
theorem alive_J : ∃ st', J Go.Proofs.Tryz.prog fnOf HTold (.call 12 [] glS (.ret (bA true)) st') :=
  let ⟨st', he⟩ := okTrue_inv alive_run
  ⟨st', runClosed_ok he⟩
theorem callable_alive : Callable Go.Proofs.Tryz.prog 12 := ⟨Go.Proofs.Tryz.f12, by kernel_rfl, by kernel_rfl, by kernel_rfl⟩
theorem alive_sound {st : St} (hg : GB st) : SoundCall Go.Proofs.Tryz.prog [1, 0, 2, 3] 12 [] st (.ret (bA true)) st := by
  obtain ⟨st', j⟩ := alive_J
  have S := (sound (P := Go.Proofs.Tryz.prog) (gl := [1, 0, 2, 3]) mixed (fun f fn h => fn_ok f fn h) (fun _ _ _ _ _ h => htold_sound h) (fun _ _ _ _ _ h => htold_evo h) j).c callable_alive
  refine SoundC.sound ?_ callable_alive
  intro n0 wi K w args' hW hn hargs
  cases hargs
  have hlt : ∀ {b : Nat} {x : Box}, glS[b]? = some x → b < glS.length := fun h => (List.getElem?_eq_some_iff.1 h).1
  have hkk : ∀ {b : Nat} {kb : KB}, (if b < glS.length then K b else none) = some kb → b < glS.length ∧ K b = some kb := fun {b kb} h => by
    split at h
    · exact ⟨by assumption, h⟩
    · cases h
  have hW0 : WRel w.heap.size w [1, 0, 2, 3] (fun b => if b < glS.length then K b else none) glS w := {
    below := ⟨rfl, rfl, rfl, Nat.le_refl _, fun _ _ => rfl⟩
    dom := fun b kb h => (hkk h).1
    lt := fun b x kb h1 h2 h3 => hW.lt b x kb (hg b x h1) h2 (hkk h3).2
    cell := fun b x kb h1 h2 h3 o a h4 => by
      obtain ⟨v, hv, hr⟩ := hW.cell b x kb (hg b x h1) h2 (hkk h3).2 o a h4
      exact ⟨v, hv, hr.flat ((glS_in h1).2 a (List.mem_of_getElem? h4))⟩
    live := fun b x kb h1 h2 h3 => by rw [(glS_in h1).1] at h2; cases h2
    excl := fun b x kb b' x' kb' h1 h2 h3 h4 h5 h6 h7 => by rw [(glS_in h1).1] at h2; cases h2
    fit := fun b x kb h1 h2 h3 => hW.fit b x kb (hg b x h1) h2 (hkk h3).2
    glob := fun j g h => by
      obtain ⟨kb, h1, h2⟩ := hW.glob j g h
      have hj : j < glS.length := by rw [← glS_len]; exact (List.getElem?_eq_some_iff.1 h).1
      exact ⟨kb, by simp only [if_pos hj]; exact h1, h2⟩
    fo := Fo.none fun b x h => by rw [(glS_in h).1]; decide }
  refine (S w.heap.size w _ w [] hW0 (Nat.le_refl _) .nil).mono fun e w' hp => ?_
  obtain ⟨K', hW', _, v', rfl, hv⟩ := hp
  exact ⟨K, hW.keep (hW.size hn) hW'.below, Fr.refl K st, v', rfl, hv.flat rfl⟩
/-- All that is told of. -/
def HAll : FuncId → List AV → St → CRes → St → Prop := fun f args st r st' => HTold f args st r st' ∨ (f = 12 ∧ args = [] ∧ r = .ret (bA true) ∧ st' = st ∧ GB st)
theorem hall_sound {f : FuncId} {args : List AV} {st st' : St} {r : CRes} (h : HAll f args st r st') : SoundCall Go.Proofs.Tryz.prog [1, 0, 2, 3] f args st r st' := by
  rcases h with h | ⟨rfl, rfl, rfl, rfl, hg⟩
  · exact htold_sound h
  · exact alive_sound hg
theorem hall_evo {f : FuncId} {args : List AV} {st st' : St} {r : CRes} (h : HAll f args st r st') : Evo st st' := by
  rcases h with h | ⟨rfl, rfl, rfl, rfl, hg⟩
  · exact htold_evo h
  · exact Evo.refl _
/-- The seat's own context. -/
noncomputable def XS : Cx := ⟨Go.Proofs.Tryz.prog, fnOf, HAll⟩
theorem onXS : On XS := ⟨rfl, rfl⟩
/-- A J-run of a call holds of the machine's call. -/
theorem seat_sound {f : FuncId} {args : List AV} {st st' : St} {r : CRes} (h : J XS.P XS.F XS.H (.call f args st r st')) : SoundCall Go.Proofs.Tryz.prog [1, 0, 2, 3] f args st r st' :=
  sound (P := Go.Proofs.Tryz.prog) (gl := [1, 0, 2, 3]) mixed (fun f fn h => fn_ok f fn h) (fun _ _ _ _ _ h => hall_sound h) (fun _ _ _ _ _ h => hall_evo h) h
/-- The functions of the seat, and what is told of. -/
structure OnH (X : Cx) : Prop extends On X where
  told : ∀ f args st r st', HTold f args st r st' → X.H f args st r st'
  alive : ∀ st : St, GB st → X.H 12 [] st (.ret (bA true)) st
theorem onH : OnH XS := { onXS with told := fun _ _ _ _ _ h => .inl h, alive := fun st h => .inr ⟨rfl, rfl, rfl, rfl, h⟩ }
end Seat
end Go.VX
end
section
set_option linter.unusedVariables false
set_option linter.unusedSimpArgs false
set_option maxRecDepth 4000
/-! What an operation reads, writes; its class and its name. -/
namespace Go.VX.Seat
open Go.Proofs
theorem c_eqb (a b : Bool) (ox oy : Operand) : closed Tryz.prog (do eqGuard .eql 4 ox oy (.bool a) (.bool b); binOp .eql 4 (.bool a) (.bool b)) = some (.bool (a == b)) := by cases a <;> cases b <;> kernel_rfl
theorem c_eqs (P : Program) (t : TypeId) (a b : ByteArray) (ox oy : Operand) : closed P (do eqGuard .eql t ox oy (.string a) (.string b); binOp .eql t (.string a) (.string b)) = some (.bool (a.toList == b.toList)) := rfl
abbrev rowsI (l : List Int) : List (List AV) := l.map fun n => [iA n]
/-- What an operation reads but its Guard; with it. -/
def operL (o : OpV) : List Int := (if hasA o.k then [o.a] else []) ++ (if hasB o.k then [o.b] else []) ++ (if hasC o.k then [o.c] else [])
def readL (o : OpV) : List Int := (if decide (o.g ≠ -1) then [o.g] else []) ++ operL o
theorem operL_len (o : OpV) : (operL o).length ≤ 3 := by
  unfold operL
  cases hasA o.k <;> cases hasB o.k <;> cases hasC o.k <;> simp
section
variable {X : Cx} {st : St}
theorem j_l07_same (h : On X) {lo hi lo' hi' : Nat} {v w : AV} {xs ys : List Int} (hv : IntsAt st lo hi v xs) (hw : IntsAt st lo' hi' w ys) (hlen : (xs.length : Int) < 4611686018427387904) :
    J X.P X.F X.H (.call 28 [v, w] st (.ret (bA (decide (xs = ys)))) st) := by
  refine pure_intro (by rw [h.F]; rfl) rfl ?_
  have l1 := hv.len
  have l2 := hw.len
  simp only [List.length_map] at l1 l2
  simp only [v_l07_same, l1, l2, kB, kC, cellsOf, fillA, partsEv, zeroes, Nat.reduceSub, Int.reduceToNat, Nat.reduceMul, asInt?, asNat?, Int.reduceAdd, Int.reduceLE, Int.reduceLT, Int.reduceNeg, Nat.reduceLeDiff, VOpd.ev, Nat.reduceEqDiff, Nat.reduceAdd, reduceIte, reduceCtorEq, splice, resOf, tupOf, cellsV, AV.toV, AV.cell?, cellVal]
  by_cases hne : xs.length = ys.length
  case neg =>
    have : xs ≠ ys := fun e => hne (by rw [e])
    have h3 : ((xs.length : Int) ≠ (ys.length : Int)) := by omega
    simp only [h3, this, ne_eq, not_false_eq_true, kB, kC, cellsOf, fillA, partsEv, zeroes, Nat.reduceSub, Int.reduceToNat, Nat.reduceMul, asInt?, asNat?, Int.reduceAdd, Int.reduceLE, Int.reduceLT, Int.reduceNeg, Nat.reduceLeDiff, VOpd.ev, Nat.reduceEqDiff, Nat.reduceAdd, reduceIte, reduceCtorEq, splice, resOf, tupOf, cellsV, AV.toV, AV.cell?, cellVal]
    first | exact ⟨_, rfl⟩ | exact ⟨rfl, _, rfl⟩ | exact ⟨trivial, _, rfl⟩ | exact ⟨[], (List.append_nil _).symm⟩
  have h3 : ¬ ((xs.length : Int) ≠ (ys.length : Int)) := by omega
  simp only [h3, kB, kC, cellsOf, fillA, partsEv, zeroes, Nat.reduceSub, Int.reduceToNat, Nat.reduceMul, asInt?, asNat?, Int.reduceAdd, Int.reduceLE, Int.reduceLT, Int.reduceNeg, Nat.reduceLeDiff, VOpd.ev, Nat.reduceEqDiff, Nat.reduceAdd, reduceIte, reduceCtorEq, splice, resOf, tupOf, cellsV, AV.toV, AV.cell?, cellVal]
  refine loop_live [0, 1] (fun m e => ∃ i : Nat, i + m = xs.length ∧ e 5 = iA i ∧ ∀ j (h1 : j < xs.length) (h2 : j < ys.length), j < i → xs[j] = ys[j]) xs.length ?_ ?_
  · exact ⟨0, by omega, by simp only [kB, kC, cellsOf, fillA, partsEv, zeroes, Nat.reduceSub, Int.reduceToNat, Nat.reduceMul, asInt?, asNat?, Int.reduceAdd, Int.reduceLE, Int.reduceLT, Int.reduceNeg, Nat.reduceLeDiff, VOpd.ev, Nat.reduceEqDiff, Nat.reduceAdd, reduceIte, reduceCtorEq, splice, resOf, tupOf, cellsV, AV.toV, AV.cell?, cellVal], fun j _ _ hj => absurd hj (by omega)⟩
  · intro m e hL ⟨i, him, h5, hpre⟩
    simp only [kB, kC, cellsOf, fillA, partsEv, zeroes, Nat.reduceSub, Int.reduceToNat, Nat.reduceMul, asInt?, asNat?, Int.reduceAdd, Int.reduceLE, Int.reduceLT, Int.reduceNeg, Nat.reduceLeDiff, VOpd.ev, Nat.reduceEqDiff, Nat.reduceAdd, reduceIte, reduceCtorEq, splice, resOf, tupOf, cellsV, AV.toV, AV.cell?, cellVal] at hL
    obtain ⟨h0, h1⟩ := hL
    simp only [*, kB, kC, cellsOf, fillA, partsEv, zeroes, Nat.reduceSub, Int.reduceToNat, Nat.reduceMul, asInt?, asNat?, Int.reduceAdd, Int.reduceLE, Int.reduceLT, Int.reduceNeg, Nat.reduceLeDiff, VOpd.ev, Nat.reduceEqDiff, Nat.reduceAdd, reduceIte, reduceCtorEq, splice, resOf, tupOf, cellsV, AV.toV, AV.cell?, cellVal]
    refine condO_intro ?_ ?_ <;> intro hc <;> simp only [kB, kC, cellsOf, fillA, partsEv, zeroes, Nat.reduceSub, Int.reduceToNat, Nat.reduceMul, asInt?, asNat?, Int.reduceAdd, Int.reduceLE, Int.reduceLT, Int.reduceNeg, Nat.reduceLeDiff, VOpd.ev, Nat.reduceEqDiff, Nat.reduceAdd, reduceIte, reduceCtorEq, splice, resOf, tupOf, cellsV, AV.toV, AV.cell?, cellVal]
    · have hi : i < xs.length := by have := of_decide_eq_true hc; omega
      obtain ⟨b1, o1, he1, hn1, ha1, _⟩ := hv.get i (by simpa using hi)
      obtain ⟨b2, o2, he2, hn2, ha2, _⟩ := hw.get i (by simpa using (by omega : i < ys.length))
      have p1 := fun L => ha1 L 0 (by omega)
      have p2 := fun L => ha2 L 0 (by omega)
      simp only [List.getElem_map, Nat.add_zero, kB, kC, cellsOf, fillA, partsEv, zeroes, Nat.reduceSub, Int.reduceToNat, Nat.reduceMul, asInt?, asNat?, Int.reduceAdd, Int.reduceLE, Int.reduceLT, Int.reduceNeg, Nat.reduceLeDiff, VOpd.ev, Nat.reduceEqDiff, Nat.reduceAdd, reduceIte, reduceCtorEq, splice, resOf, tupOf, cellsV, AV.toV, AV.cell?, cellVal] at p1 p2
      simp only [h0, h1, h5, l1, l2, he1, he2, p1, p2, kB, kC, cellsOf, fillA, partsEv, zeroes, Nat.reduceSub, Int.reduceToNat, Nat.reduceMul, asInt?, asNat?, Int.reduceAdd, Int.reduceLE, Int.reduceLT, Int.reduceNeg, Nat.reduceLeDiff, VOpd.ev, Nat.reduceEqDiff, Nat.reduceAdd, reduceIte, reduceCtorEq, splice, resOf, tupOf, cellsV, AV.toV, AV.cell?, cellVal]
      refine condO_intro ?_ ?_ <;> intro hq <;> simp only [*, kB, kC, cellsOf, fillA, partsEv, zeroes, Nat.reduceSub, Int.reduceToNat, Nat.reduceMul, asInt?, asNat?, Int.reduceAdd, Int.reduceLE, Int.reduceLT, Int.reduceNeg, Nat.reduceLeDiff, VOpd.ev, Nat.reduceEqDiff, Nat.reduceAdd, reduceIte, reduceCtorEq, splice, resOf, tupOf, cellsV, AV.toV, AV.cell?, cellVal]
      · have : xs ≠ ys := by
          rintro rfl
          exact of_decide_eq_true hq rfl
        simp only [this, kB, kC, cellsOf, fillA, partsEv, zeroes, Nat.reduceSub, Int.reduceToNat, Nat.reduceMul, asInt?, asNat?, Int.reduceAdd, Int.reduceLE, Int.reduceLT, Int.reduceNeg, Nat.reduceLeDiff, VOpd.ev, Nat.reduceEqDiff, Nat.reduceAdd, reduceIte, reduceCtorEq, splice, resOf, tupOf, cellsV, AV.toV, AV.cell?, cellVal]
        first | exact ⟨_, rfl⟩ | exact ⟨rfl, _, rfl⟩ | exact ⟨trivial, _, rfl⟩ | exact ⟨[], (List.append_nil _).symm⟩
      · have he : xs[i] = ys[i] := by
          have := of_decide_eq_false hq
          simpa using this
        rw [wrap_small (by omega) (by omega)]
        refine ⟨m - 1, by omega, i + 1, by omega, by simp, fun j h1 h2 hj => ?_⟩
        by_cases hji : j = i
        · subst hji; exact he
        · exact hpre j (by omega) h2 (by omega)
    · have hi : i = xs.length := by have := of_decide_eq_false hc; omega
      have : xs = ys := List.ext_getElem hne fun j h1 h2 => hpre j h1 h2 (by omega)
      simp only [this, kB, kC, cellsOf, fillA, partsEv, zeroes, Nat.reduceSub, Int.reduceToNat, Nat.reduceMul, asInt?, asNat?, Int.reduceAdd, Int.reduceLE, Int.reduceLT, Int.reduceNeg, Nat.reduceLeDiff, VOpd.ev, Nat.reduceEqDiff, Nat.reduceAdd, reduceIte, reduceCtorEq, splice, resOf, tupOf, cellsV, AV.toV, AV.cell?, cellVal]
      first | exact ⟨_, rfl⟩ | exact ⟨rfl, _, rfl⟩ | exact ⟨trivial, _, rfl⟩ | exact ⟨[], (List.append_nil _).symm⟩
theorem own_frame {s : St} {lo esz : Nat} {w : AV} {rows : List (List AV)} (h : OwnS s lo w esz rows) (L : St) : OwnS (s ++ L) lo w esz rows := h.agree (Agree.app (fun _ => False) s L) fun _ _ h => h
/-- One number more at the end of an own list, behind some boxes. -/
theorem opR_app1 {K : Env → St → Post3 → Prop} {Q : Post3} {d : Option Nat} {k : List VOpd} {env : Env} (M : St) {L : St} {w : AV} {xs : List Int} {n : Int} {N : Nat} {x y : VOpd} (ex : x.ev env = w) (ey : y.ev env = .sl N 0 1 1 true) (hN : N = st.length + (M.length + L.length))
    (own : OwnS (st ++ (M ++ L)) (st.length + M.length) w 1 (rowsI xs)) (hl : xs.length ≤ 1000000)
    (h : ∀ (w' : AV) (L' : St), OwnS (st ++ (M ++ L')) (st.length + M.length) w' 1 (rowsI (xs ++ [n])) → keptA env (st ++ (M ++ (L ++ [⟨[iA n], 0, 0⟩]))) (st ++ (M ++ L')) k = true ∧ K (env.put d w') (st ++ (M ++ L')) Q) :
    opR X K d k env (st ++ (M ++ (L ++ [⟨[iA n], 0, 0⟩]))) Q (vop X.P (.append 1 8 x y) env (st ++ (M ++ (L ++ [⟨[iA n], 0, 0⟩])))) := by
  subst hN
  have own' : OwnS (st ++ (M ++ (L ++ [⟨[iA n], 0, 0⟩]))) (st.length + M.length) w 1 (rowsI xs) := by simpa using own_frame own [⟨[iA n], 0, 0⟩]
  refine opR_append (vx := w) (lo := st.length + M.length) (lo' := st.length + (M.length + L.length)) (hi' := st.length + (M.length + L.length) + 1) (rows := rowsI xs) (rows2 := [[iA n]]) ex ey own' (by simp) (ArrAt.ofBox (mode := 0) (ver := 0) ?_ (by decide) (by simp) rfl) (by simp; omega) (by rfl) ?_
  · have e : st ++ (M ++ (L ++ [⟨[iA n], 0, 0⟩])) = (st ++ (M ++ L)) ++ [⟨[iA n], 0, 0⟩] := by simp
    rw [e, List.getElem?_append_right (by simp)]
    simp
  intro w' s' hag hown _
  obtain ⟨L', rfl⟩ := Agree.shape (st := st) (M := M) (N := L ++ [⟨[iA n], 0, 0⟩]) (hag.mono (Y := fun b => boxOf w = some b) fun _ _ h => h.2) (fun b hb => by have := (own.bnd b hb).1; omega)
  exact h w' L' (by simpa using hown)
theorem w_r07_Operands (h : On X) (o : OpV) :
    wpF X 58 [.agg o.row] st fun r s => ∃ w m, r = .ret w ∧ s = st ++ m ∧ OwnS s st.length w 1 (rowsI (operL o)) := by
  refine wpF_go (fn := v_r07_Operands) (by rw [h.F]; rfl) ?_
  simp only [v_r07_Operands, OpV.row, kB, kZ, kD, fillA, partsEv, zeroes, Nat.reduceSub, Int.reduceToNat, Nat.reduceMul, asInt?, asNat?, Int.reduceAdd, Int.reduceLE, Int.reduceLT, Int.reduceNeg, Nat.reduceLeDiff, VOpd.ev, Nat.reduceEqDiff, Nat.reduceAdd, reduceIte, reduceCtorEq, splice, resOf, tupOf, cellsV, AV.toV, AV.cell?, cellVal]
  refine callO_same (j_r07_HasA h _) ?_
  simp only [kB, kZ, kD, fillA, partsEv, zeroes, Nat.reduceSub, Int.reduceToNat, Nat.reduceMul, asInt?, asNat?, Int.reduceAdd, Int.reduceLE, Int.reduceLT, Int.reduceNeg, Nat.reduceLeDiff, VOpd.ev, Nat.reduceEqDiff, Nat.reduceAdd, reduceIte, reduceCtorEq, splice, resOf, tupOf, cellsV, AV.toV, AV.cell?, cellVal]
  refine anyCond m0 (fun e s => ∃ (L : St) (w : AV), s = st ++ (⟨[iA o.k, iA o.d, iA o.a, iA o.b, iA o.c, iA o.n, iA o.g], 0, 0⟩ :: L) ∧ e 1 = .ptr (st.length + 0) 0 ∧ e 3 = w ∧ OwnS s (st.length + 1) w 1 (rowsI (if hasA o.k then [o.a] else []))) ?_ ?_
  · refine condO_intro ?_ ?_ <;> intro hc
    · simp only [kB, kZ, kD, fillA, partsEv, zeroes, Nat.reduceSub, Int.reduceToNat, Nat.reduceMul, asInt?, asNat?, Int.reduceAdd, Int.reduceLE, Int.reduceLT, Int.reduceNeg, Nat.reduceLeDiff, VOpd.ev, Nat.reduceEqDiff, Nat.reduceAdd, reduceIte, reduceCtorEq, splice, resOf, tupOf, cellsV, AV.toV, AV.cell?, cellVal]
      refine opR_app1 [⟨[iA o.k, iA o.d, iA o.a, iA o.b, iA o.c, iA o.n, iA o.g], 0, 0⟩] (L := ([] : St)) (w := (.sc (.slice none 0 0))) (xs := []) (by simp only [kB, kZ, kD, fillA, partsEv, zeroes, Nat.reduceSub, Int.reduceToNat, Nat.reduceMul, asInt?, asNat?, Int.reduceAdd, Int.reduceLE, Int.reduceLT, Int.reduceNeg, Nat.reduceLeDiff, VOpd.ev, Nat.reduceEqDiff, Nat.reduceAdd, reduceIte, reduceCtorEq, splice, resOf, tupOf, cellsV, AV.toV, AV.cell?, cellVal]) (by simp only [kB, kZ, kD, fillA, partsEv, zeroes, Nat.reduceSub, Int.reduceToNat, Nat.reduceMul, asInt?, asNat?, Int.reduceAdd, Int.reduceLE, Int.reduceLT, Int.reduceNeg, Nat.reduceLeDiff, VOpd.ev, Nat.reduceEqDiff, Nat.reduceAdd, reduceIte, reduceCtorEq, splice, resOf, tupOf, cellsV, AV.toV, AV.cell?, cellVal]; rfl) (by simp) (own_nil _ _ _) (by simp) ?_
      intro w' L' hown'
      simp only [kB, kZ, kD, fillA, partsEv, zeroes, Nat.reduceSub, Int.reduceToNat, Nat.reduceMul, asInt?, asNat?, Int.reduceAdd, Int.reduceLE, Int.reduceLT, Int.reduceNeg, Nat.reduceLeDiff, VOpd.ev, Nat.reduceEqDiff, Nat.reduceAdd, reduceIte, reduceCtorEq, splice, resOf, tupOf, cellsV, AV.toV, AV.cell?, cellVal]
      refine ⟨L', w', rfl, rfl, ?_⟩
      simpa [hc] using hown'
    · simp only [hc, kB, kZ, kD, fillA, partsEv, zeroes, Nat.reduceSub, Int.reduceToNat, Nat.reduceMul, asInt?, asNat?, Int.reduceAdd, Int.reduceLE, Int.reduceLT, Int.reduceNeg, Nat.reduceLeDiff, VOpd.ev, Nat.reduceEqDiff, Nat.reduceAdd, reduceIte, reduceCtorEq, splice, resOf, tupOf, cellsV, AV.toV, AV.cell?, cellVal]
      exact ⟨[], _, rfl, rfl, own_nil _ _ _⟩
  rintro e s ⟨L, w, rfl, k1, k3, hown⟩
  have hlen : (if hasA o.k then [o.a] else []).length ≤ 1000000 := by cases hasA o.k <;> simp
  simp only [k1, k3, kB, kZ, kD, fillA, partsEv, zeroes, Nat.reduceSub, Int.reduceToNat, Nat.reduceMul, asInt?, asNat?, Int.reduceAdd, Int.reduceLE, Int.reduceLT, Int.reduceNeg, Nat.reduceLeDiff, VOpd.ev, Nat.reduceEqDiff, Nat.reduceAdd, reduceIte, reduceCtorEq, splice, resOf, tupOf, cellsV, AV.toV, AV.cell?, cellVal]
  refine callO_same (j_r07_HasB h _) ?_
  simp only [k1, k3, kB, kZ, kD, fillA, partsEv, zeroes, Nat.reduceSub, Int.reduceToNat, Nat.reduceMul, asInt?, asNat?, Int.reduceAdd, Int.reduceLE, Int.reduceLT, Int.reduceNeg, Nat.reduceLeDiff, VOpd.ev, Nat.reduceEqDiff, Nat.reduceAdd, reduceIte, reduceCtorEq, splice, resOf, tupOf, cellsV, AV.toV, AV.cell?, cellVal]
  refine anyCond m0 (fun e s => ∃ (L : St) (w : AV), s = st ++ (⟨[iA o.k, iA o.d, iA o.a, iA o.b, iA o.c, iA o.n, iA o.g], 0, 0⟩ :: L) ∧ e 1 = .ptr (st.length + 0) 0 ∧ e 3 = w ∧ OwnS s (st.length + 1) w 1 (rowsI ((if hasA o.k then [o.a] else []) ++ (if hasB o.k then [o.b] else [])))) ?_ ?_
  · refine condO_intro ?_ ?_ <;> intro hc
    · simp only [k1, k3, List.append_nil, kB, kZ, kD, fillA, partsEv, zeroes, Nat.reduceSub, Int.reduceToNat, Nat.reduceMul, asInt?, asNat?, Int.reduceAdd, Int.reduceLE, Int.reduceLT, Int.reduceNeg, Nat.reduceLeDiff, VOpd.ev, Nat.reduceEqDiff, Nat.reduceAdd, reduceIte, reduceCtorEq, splice, resOf, tupOf, cellsV, AV.toV, AV.cell?, cellVal]
      refine opR_app1 [⟨[iA o.k, iA o.d, iA o.a, iA o.b, iA o.c, iA o.n, iA o.g], 0, 0⟩] (L := L) (w := w) (xs := (if hasA o.k then [o.a] else [])) (by simp only [k3, kB, kZ, kD, fillA, partsEv, zeroes, Nat.reduceSub, Int.reduceToNat, Nat.reduceMul, asInt?, asNat?, Int.reduceAdd, Int.reduceLE, Int.reduceLT, Int.reduceNeg, Nat.reduceLeDiff, VOpd.ev, Nat.reduceEqDiff, Nat.reduceAdd, reduceIte, reduceCtorEq, splice, resOf, tupOf, cellsV, AV.toV, AV.cell?, cellVal]) (by simp only [kB, kZ, kD, fillA, partsEv, zeroes, Nat.reduceSub, Int.reduceToNat, Nat.reduceMul, asInt?, asNat?, Int.reduceAdd, Int.reduceLE, Int.reduceLT, Int.reduceNeg, Nat.reduceLeDiff, VOpd.ev, Nat.reduceEqDiff, Nat.reduceAdd, reduceIte, reduceCtorEq, splice, resOf, tupOf, cellsV, AV.toV, AV.cell?, cellVal]; rfl) (by simp; omega) (hown) (hlen) ?_
      intro w' L' hown'
      simp only [k1, kB, kZ, kD, fillA, partsEv, zeroes, Nat.reduceSub, Int.reduceToNat, Nat.reduceMul, asInt?, asNat?, Int.reduceAdd, Int.reduceLE, Int.reduceLT, Int.reduceNeg, Nat.reduceLeDiff, VOpd.ev, Nat.reduceEqDiff, Nat.reduceAdd, reduceIte, reduceCtorEq, splice, resOf, tupOf, cellsV, AV.toV, AV.cell?, cellVal]
      refine ⟨L', w', rfl, rfl, ?_⟩
      simpa [hc] using hown'
    · simp only [k1, k3, List.append_nil, hc, kB, kZ, kD, fillA, partsEv, zeroes, Nat.reduceSub, Int.reduceToNat, Nat.reduceMul, asInt?, asNat?, Int.reduceAdd, Int.reduceLE, Int.reduceLT, Int.reduceNeg, Nat.reduceLeDiff, VOpd.ev, Nat.reduceEqDiff, Nat.reduceAdd, reduceIte, reduceCtorEq, splice, resOf, tupOf, cellsV, AV.toV, AV.cell?, cellVal]
      exact ⟨L, w, rfl, rfl, by simpa [hc] using hown⟩
  rintro e s ⟨L, w, rfl, k1, k3, hown⟩
  have hlen : ((if hasA o.k then [o.a] else []) ++ (if hasB o.k then [o.b] else [])).length ≤ 1000000 := by cases hasA o.k <;> cases hasB o.k <;> simp
  simp only [k1, k3, kB, kZ, kD, fillA, partsEv, zeroes, Nat.reduceSub, Int.reduceToNat, Nat.reduceMul, asInt?, asNat?, Int.reduceAdd, Int.reduceLE, Int.reduceLT, Int.reduceNeg, Nat.reduceLeDiff, VOpd.ev, Nat.reduceEqDiff, Nat.reduceAdd, reduceIte, reduceCtorEq, splice, resOf, tupOf, cellsV, AV.toV, AV.cell?, cellVal]
  refine callO_same (j_r07_HasC h _) ?_
  simp only [k1, k3, kB, kZ, kD, fillA, partsEv, zeroes, Nat.reduceSub, Int.reduceToNat, Nat.reduceMul, asInt?, asNat?, Int.reduceAdd, Int.reduceLE, Int.reduceLT, Int.reduceNeg, Nat.reduceLeDiff, VOpd.ev, Nat.reduceEqDiff, Nat.reduceAdd, reduceIte, reduceCtorEq, splice, resOf, tupOf, cellsV, AV.toV, AV.cell?, cellVal]
  refine anyCond m0 (fun e s => ∃ (L : St) (w : AV), s = st ++ (⟨[iA o.k, iA o.d, iA o.a, iA o.b, iA o.c, iA o.n, iA o.g], 0, 0⟩ :: L) ∧ e 1 = .ptr (st.length + 0) 0 ∧ e 3 = w ∧ OwnS s (st.length + 1) w 1 (rowsI ((if hasA o.k then [o.a] else []) ++ (if hasB o.k then [o.b] else []) ++ (if hasC o.k then [o.c] else [])))) ?_ ?_
  · refine condO_intro ?_ ?_ <;> intro hc
    · simp only [k1, k3, List.append_nil, kB, kZ, kD, fillA, partsEv, zeroes, Nat.reduceSub, Int.reduceToNat, Nat.reduceMul, asInt?, asNat?, Int.reduceAdd, Int.reduceLE, Int.reduceLT, Int.reduceNeg, Nat.reduceLeDiff, VOpd.ev, Nat.reduceEqDiff, Nat.reduceAdd, reduceIte, reduceCtorEq, splice, resOf, tupOf, cellsV, AV.toV, AV.cell?, cellVal]
      refine opR_app1 [⟨[iA o.k, iA o.d, iA o.a, iA o.b, iA o.c, iA o.n, iA o.g], 0, 0⟩] (L := L) (w := w) (xs := ((if hasA o.k then [o.a] else []) ++ (if hasB o.k then [o.b] else []))) (by simp only [k3, kB, kZ, kD, fillA, partsEv, zeroes, Nat.reduceSub, Int.reduceToNat, Nat.reduceMul, asInt?, asNat?, Int.reduceAdd, Int.reduceLE, Int.reduceLT, Int.reduceNeg, Nat.reduceLeDiff, VOpd.ev, Nat.reduceEqDiff, Nat.reduceAdd, reduceIte, reduceCtorEq, splice, resOf, tupOf, cellsV, AV.toV, AV.cell?, cellVal]) (by simp only [kB, kZ, kD, fillA, partsEv, zeroes, Nat.reduceSub, Int.reduceToNat, Nat.reduceMul, asInt?, asNat?, Int.reduceAdd, Int.reduceLE, Int.reduceLT, Int.reduceNeg, Nat.reduceLeDiff, VOpd.ev, Nat.reduceEqDiff, Nat.reduceAdd, reduceIte, reduceCtorEq, splice, resOf, tupOf, cellsV, AV.toV, AV.cell?, cellVal]; rfl) (by simp; omega) (hown) (hlen) ?_
      intro w' L' hown'
      simp only [k1, kB, kZ, kD, fillA, partsEv, zeroes, Nat.reduceSub, Int.reduceToNat, Nat.reduceMul, asInt?, asNat?, Int.reduceAdd, Int.reduceLE, Int.reduceLT, Int.reduceNeg, Nat.reduceLeDiff, VOpd.ev, Nat.reduceEqDiff, Nat.reduceAdd, reduceIte, reduceCtorEq, splice, resOf, tupOf, cellsV, AV.toV, AV.cell?, cellVal]
      refine ⟨L', w', rfl, rfl, ?_⟩
      simpa [hc] using hown'
    · simp only [k1, k3, List.append_nil, hc, kB, kZ, kD, fillA, partsEv, zeroes, Nat.reduceSub, Int.reduceToNat, Nat.reduceMul, asInt?, asNat?, Int.reduceAdd, Int.reduceLE, Int.reduceLT, Int.reduceNeg, Nat.reduceLeDiff, VOpd.ev, Nat.reduceEqDiff, Nat.reduceAdd, reduceIte, reduceCtorEq, splice, resOf, tupOf, cellsV, AV.toV, AV.cell?, cellVal]
      exact ⟨L, w, rfl, rfl, by simpa [hc] using hown⟩
  rintro e s ⟨L, w, rfl, k1, k3, hown⟩
  simp only [k1, k3, kB, kZ, kD, fillA, partsEv, zeroes, Nat.reduceSub, Int.reduceToNat, Nat.reduceMul, asInt?, asNat?, Int.reduceAdd, Int.reduceLE, Int.reduceLT, Int.reduceNeg, Nat.reduceLeDiff, VOpd.ev, Nat.reduceEqDiff, Nat.reduceAdd, reduceIte, reduceCtorEq, splice, resOf, tupOf, cellsV, AV.toV, AV.cell?, cellVal]
  exact ⟨_, _, rfl, rfl, hown.low (by omega)⟩
theorem c_shl0 (P : Program) (t : TypeId) (ox oy : Operand) : closed P (do eqGuard .shl t ox oy (.int .i64 2) (.int .i64 0); binOp .shl t (.int .i64 2) (.int .i64 0)) = some (.int .i64 2) := rfl
theorem c_shl1 (P : Program) (t : TypeId) (ox oy : Operand) : closed P (do eqGuard .shl t ox oy (.int .i64 2) (.int .i64 1); binOp .shl t (.int .i64 2) (.int .i64 1)) = some (.int .i64 4) := rfl
theorem c_shl2 (P : Program) (t : TypeId) (ox oy : Operand) : closed P (do eqGuard .shl t ox oy (.int .i64 2) (.int .i64 2); binOp .shl t (.int .i64 2) (.int .i64 2)) = some (.int .i64 8) := rfl
theorem w_code_Read (h : On X) (hg : GlobAt st) (o : OpV) (ho : oneK o.k = true) :
    wpF X 56 [.agg o.row] st fun r s => ∃ w m, r = .ret w ∧ s = st ++ m ∧ OwnS s st.length w 1 (rowsI (operL o)) := by
  refine wpF_go (fn := v_code_Read) (by rw [h.F]; rfl) ?_
  obtain ⟨_, t2, t3, t4, _, _, _, _⟩ := bits ho
  have w1 : IntKind.wrap .i64 (0 + 1) = 1 := rfl
  have w2 : IntKind.wrap .i64 (1 + 1) = 2 := rfl
  have w3 : IntKind.wrap .i64 (2 + 1) = 3 := rfl
  simp only [v_code_Read, OpV.row, kB, kZ, kD, fillA, partsEv, zeroes, Nat.reduceSub, Int.reduceToNat, Nat.reduceMul, asInt?, asNat?, Int.reduceAdd, Int.reduceLE, Int.reduceLT, Int.reduceNeg, Nat.reduceLeDiff, VOpd.ev, Nat.reduceEqDiff, Nat.reduceAdd, reduceIte, reduceCtorEq, splice, resOf, tupOf, cellsV, AV.toV, AV.cell?, cellVal]
  refine callO_same (j_code_of h (hg.ext (Ext.of _ _)) o.k) ?_
  simp only [kB, kZ, kD, fillA, partsEv, zeroes, Nat.reduceSub, Int.reduceToNat, Nat.reduceMul, asInt?, asNat?, Int.reduceAdd, Int.reduceLE, Int.reduceLT, Int.reduceNeg, Nat.reduceLeDiff, VOpd.ev, Nat.reduceEqDiff, Nat.reduceAdd, reduceIte, reduceCtorEq, splice, resOf, tupOf, cellsV, AV.toV, AV.cell?, cellVal]
  refine loop_unroll ?_
  simp only [c_shl0, c_and, t2, kB, kZ, kD, fillA, partsEv, zeroes, Nat.reduceSub, Int.reduceToNat, Nat.reduceMul, asInt?, asNat?, Int.reduceAdd, Int.reduceLE, Int.reduceLT, Int.reduceNeg, Nat.reduceLeDiff, VOpd.ev, Nat.reduceEqDiff, Nat.reduceAdd, reduceIte, reduceCtorEq, splice, resOf, tupOf, cellsV, AV.toV, AV.cell?, cellVal]
  refine anyCond (mB m0) (fun e s => ∃ (L : St) (w : AV), s = st ++ (⟨[iA o.k, iA o.d, iA o.a, iA o.b, iA o.c, iA o.n, iA o.g], 0, 0⟩ :: ⟨[iA (usesK o.k), iA (classK o.k), .sc (.string (nameK o.k))], 0, 1⟩ :: L) ∧ e 3 = .ptr (st.length + 1) 0 ∧ e 5 = w ∧ e 20 = .agg [iA o.a, iA o.b, iA o.c] ∧ e 21 = iA 0 ∧ OwnS s (st.length + 2) w 1 (rowsI (if hasA o.k then [o.a] else []))) ?_ ?_
  · refine condO_intro ?_ ?_ <;> intro hc
    · simp only [kB, kZ, kD, fillA, partsEv, zeroes, Nat.reduceSub, Int.reduceToNat, Nat.reduceMul, asInt?, asNat?, Int.reduceAdd, Int.reduceLE, Int.reduceLT, Int.reduceNeg, Nat.reduceLeDiff, VOpd.ev, Nat.reduceEqDiff, Nat.reduceAdd, reduceIte, reduceCtorEq, splice, resOf, tupOf, cellsV, AV.toV, AV.cell?, cellVal]
      refine opR_app1 [⟨[iA o.k, iA o.d, iA o.a, iA o.b, iA o.c, iA o.n, iA o.g], 0, 0⟩, ⟨[iA (usesK o.k), iA (classK o.k), .sc (.string (nameK o.k))], 0, 1⟩] (L := ([] : St)) (w := (.sc (.slice none 0 0))) (xs := []) (by simp only [kB, kZ, kD, fillA, partsEv, zeroes, Nat.reduceSub, Int.reduceToNat, Nat.reduceMul, asInt?, asNat?, Int.reduceAdd, Int.reduceLE, Int.reduceLT, Int.reduceNeg, Nat.reduceLeDiff, VOpd.ev, Nat.reduceEqDiff, Nat.reduceAdd, reduceIte, reduceCtorEq, splice, resOf, tupOf, cellsV, AV.toV, AV.cell?, cellVal]) (by simp only [kB, kZ, kD, fillA, partsEv, zeroes, Nat.reduceSub, Int.reduceToNat, Nat.reduceMul, asInt?, asNat?, Int.reduceAdd, Int.reduceLE, Int.reduceLT, Int.reduceNeg, Nat.reduceLeDiff, VOpd.ev, Nat.reduceEqDiff, Nat.reduceAdd, reduceIte, reduceCtorEq, splice, resOf, tupOf, cellsV, AV.toV, AV.cell?, cellVal]; rfl) (by simp) (own_nil _ _ _) (by simp) ?_
      intro w' L' hown'
      simp only [kB, kZ, kD, fillA, partsEv, zeroes, Nat.reduceSub, Int.reduceToNat, Nat.reduceMul, asInt?, asNat?, Int.reduceAdd, Int.reduceLE, Int.reduceLT, Int.reduceNeg, Nat.reduceLeDiff, VOpd.ev, Nat.reduceEqDiff, Nat.reduceAdd, reduceIte, reduceCtorEq, splice, resOf, tupOf, cellsV, AV.toV, AV.cell?, cellVal]
      first | exact ⟨L', w', rfl, rfl, by simpa [hc] using hown'⟩ | exact ⟨L', w', rfl, rfl, rfl, by simpa [hc] using hown'⟩ | exact ⟨L', w', rfl, rfl, rfl, rfl, by simpa [hc] using hown'⟩
    · simp only [hc, kB, kZ, kD, fillA, partsEv, zeroes, Nat.reduceSub, Int.reduceToNat, Nat.reduceMul, asInt?, asNat?, Int.reduceAdd, Int.reduceLE, Int.reduceLT, Int.reduceNeg, Nat.reduceLeDiff, VOpd.ev, Nat.reduceEqDiff, Nat.reduceAdd, reduceIte, reduceCtorEq, splice, resOf, tupOf, cellsV, AV.toV, AV.cell?, cellVal]
      exact ⟨([] : St), _, rfl, rfl, own_nil _ _ _⟩
  rintro e s ⟨L, w, rfl, k3, k5, k20, k21, hown⟩
  have hlen : (if hasA o.k then [o.a] else []).length ≤ 1000000 := by cases hasA o.k <;> simp
  simp only [k3, k5, k20, k21, w1, kB, kZ, kD, fillA, partsEv, zeroes, Nat.reduceSub, Int.reduceToNat, Nat.reduceMul, asInt?, asNat?, Int.reduceAdd, Int.reduceLE, Int.reduceLT, Int.reduceNeg, Nat.reduceLeDiff, VOpd.ev, Nat.reduceEqDiff, Nat.reduceAdd, reduceIte, reduceCtorEq, splice, resOf, tupOf, cellsV, AV.toV, AV.cell?, cellVal]
  refine loop_unroll ?_
  simp only [k3, k5, k20, k21, c_shl1, c_and, t3, kB, kZ, kD, fillA, partsEv, zeroes, Nat.reduceSub, Int.reduceToNat, Nat.reduceMul, asInt?, asNat?, Int.reduceAdd, Int.reduceLE, Int.reduceLT, Int.reduceNeg, Nat.reduceLeDiff, VOpd.ev, Nat.reduceEqDiff, Nat.reduceAdd, reduceIte, reduceCtorEq, splice, resOf, tupOf, cellsV, AV.toV, AV.cell?, cellVal]
  refine anyCond (mB m0) (fun e s => ∃ (L : St) (w : AV), s = st ++ (⟨[iA o.k, iA o.d, iA o.a, iA o.b, iA o.c, iA o.n, iA o.g], 0, 0⟩ :: ⟨[iA (usesK o.k), iA (classK o.k), .sc (.string (nameK o.k))], 0, 1⟩ :: L) ∧ e 3 = .ptr (st.length + 1) 0 ∧ e 5 = w ∧ e 20 = .agg [iA o.a, iA o.b, iA o.c] ∧ e 21 = iA 1 ∧ OwnS s (st.length + 2) w 1 (rowsI ((if hasA o.k then [o.a] else []) ++ (if hasB o.k then [o.b] else [])))) ?_ ?_
  · refine condO_intro ?_ ?_ <;> intro hc
    · simp only [k3, k5, k20, k21, kB, kZ, kD, fillA, partsEv, zeroes, Nat.reduceSub, Int.reduceToNat, Nat.reduceMul, asInt?, asNat?, Int.reduceAdd, Int.reduceLE, Int.reduceLT, Int.reduceNeg, Nat.reduceLeDiff, VOpd.ev, Nat.reduceEqDiff, Nat.reduceAdd, reduceIte, reduceCtorEq, splice, resOf, tupOf, cellsV, AV.toV, AV.cell?, cellVal]
      refine opR_app1 [⟨[iA o.k, iA o.d, iA o.a, iA o.b, iA o.c, iA o.n, iA o.g], 0, 0⟩, ⟨[iA (usesK o.k), iA (classK o.k), .sc (.string (nameK o.k))], 0, 1⟩] (L := L) (w := w) (xs := (if hasA o.k then [o.a] else [])) (by simp only [k3, k5, k20, k21, kB, kZ, kD, fillA, partsEv, zeroes, Nat.reduceSub, Int.reduceToNat, Nat.reduceMul, asInt?, asNat?, Int.reduceAdd, Int.reduceLE, Int.reduceLT, Int.reduceNeg, Nat.reduceLeDiff, VOpd.ev, Nat.reduceEqDiff, Nat.reduceAdd, reduceIte, reduceCtorEq, splice, resOf, tupOf, cellsV, AV.toV, AV.cell?, cellVal]) (by simp only [kB, kZ, kD, fillA, partsEv, zeroes, Nat.reduceSub, Int.reduceToNat, Nat.reduceMul, asInt?, asNat?, Int.reduceAdd, Int.reduceLE, Int.reduceLT, Int.reduceNeg, Nat.reduceLeDiff, VOpd.ev, Nat.reduceEqDiff, Nat.reduceAdd, reduceIte, reduceCtorEq, splice, resOf, tupOf, cellsV, AV.toV, AV.cell?, cellVal]; rfl) (by simp; omega) (hown) (hlen) ?_
      intro w' L' hown'
      simp only [k3, k5, k20, k21, kB, kZ, kD, fillA, partsEv, zeroes, Nat.reduceSub, Int.reduceToNat, Nat.reduceMul, asInt?, asNat?, Int.reduceAdd, Int.reduceLE, Int.reduceLT, Int.reduceNeg, Nat.reduceLeDiff, VOpd.ev, Nat.reduceEqDiff, Nat.reduceAdd, reduceIte, reduceCtorEq, splice, resOf, tupOf, cellsV, AV.toV, AV.cell?, cellVal]
      first | exact ⟨L', w', rfl, rfl, by simpa [hc] using hown'⟩ | exact ⟨L', w', rfl, rfl, rfl, by simpa [hc] using hown'⟩ | exact ⟨L', w', rfl, rfl, rfl, rfl, by simpa [hc] using hown'⟩
    · simp only [k3, k5, k20, k21, hc, kB, kZ, kD, fillA, partsEv, zeroes, Nat.reduceSub, Int.reduceToNat, Nat.reduceMul, asInt?, asNat?, Int.reduceAdd, Int.reduceLE, Int.reduceLT, Int.reduceNeg, Nat.reduceLeDiff, VOpd.ev, Nat.reduceEqDiff, Nat.reduceAdd, reduceIte, reduceCtorEq, splice, resOf, tupOf, cellsV, AV.toV, AV.cell?, cellVal]
      first | exact ⟨L, w, by simp, rfl, by simpa [hc] using hown⟩ | exact ⟨L, w, by simp, rfl, rfl, by simpa [hc] using hown⟩ | exact ⟨L, w, by simp, rfl, rfl, rfl, by simpa [hc] using hown⟩ | exact ⟨L, w, by simp, rfl, rfl, rfl, rfl, by simpa [hc] using hown⟩
  rintro e s ⟨L, w, rfl, k3, k5, k20, k21, hown⟩
  have hlen : ((if hasA o.k then [o.a] else []) ++ (if hasB o.k then [o.b] else [])).length ≤ 1000000 := by cases hasA o.k <;> cases hasB o.k <;> simp
  simp only [k3, k5, k20, k21, w2, kB, kZ, kD, fillA, partsEv, zeroes, Nat.reduceSub, Int.reduceToNat, Nat.reduceMul, asInt?, asNat?, Int.reduceAdd, Int.reduceLE, Int.reduceLT, Int.reduceNeg, Nat.reduceLeDiff, VOpd.ev, Nat.reduceEqDiff, Nat.reduceAdd, reduceIte, reduceCtorEq, splice, resOf, tupOf, cellsV, AV.toV, AV.cell?, cellVal]
  refine loop_unroll ?_
  simp only [k3, k5, k20, k21, c_shl2, c_and, t4, kB, kZ, kD, fillA, partsEv, zeroes, Nat.reduceSub, Int.reduceToNat, Nat.reduceMul, asInt?, asNat?, Int.reduceAdd, Int.reduceLE, Int.reduceLT, Int.reduceNeg, Nat.reduceLeDiff, VOpd.ev, Nat.reduceEqDiff, Nat.reduceAdd, reduceIte, reduceCtorEq, splice, resOf, tupOf, cellsV, AV.toV, AV.cell?, cellVal]
  refine anyCond (mB m0) (fun e s => ∃ (L : St) (w : AV), s = st ++ (⟨[iA o.k, iA o.d, iA o.a, iA o.b, iA o.c, iA o.n, iA o.g], 0, 0⟩ :: ⟨[iA (usesK o.k), iA (classK o.k), .sc (.string (nameK o.k))], 0, 1⟩ :: L) ∧ e 3 = .ptr (st.length + 1) 0 ∧ e 5 = w ∧ e 20 = .agg [iA o.a, iA o.b, iA o.c] ∧ e 21 = iA 2 ∧ OwnS s (st.length + 2) w 1 (rowsI ((if hasA o.k then [o.a] else []) ++ (if hasB o.k then [o.b] else []) ++ (if hasC o.k then [o.c] else [])))) ?_ ?_
  · refine condO_intro ?_ ?_ <;> intro hc
    · simp only [k3, k5, k20, k21, kB, kZ, kD, fillA, partsEv, zeroes, Nat.reduceSub, Int.reduceToNat, Nat.reduceMul, asInt?, asNat?, Int.reduceAdd, Int.reduceLE, Int.reduceLT, Int.reduceNeg, Nat.reduceLeDiff, VOpd.ev, Nat.reduceEqDiff, Nat.reduceAdd, reduceIte, reduceCtorEq, splice, resOf, tupOf, cellsV, AV.toV, AV.cell?, cellVal]
      refine opR_app1 [⟨[iA o.k, iA o.d, iA o.a, iA o.b, iA o.c, iA o.n, iA o.g], 0, 0⟩, ⟨[iA (usesK o.k), iA (classK o.k), .sc (.string (nameK o.k))], 0, 1⟩] (L := L) (w := w) (xs := ((if hasA o.k then [o.a] else []) ++ (if hasB o.k then [o.b] else []))) (by simp only [k3, k5, k20, k21, kB, kZ, kD, fillA, partsEv, zeroes, Nat.reduceSub, Int.reduceToNat, Nat.reduceMul, asInt?, asNat?, Int.reduceAdd, Int.reduceLE, Int.reduceLT, Int.reduceNeg, Nat.reduceLeDiff, VOpd.ev, Nat.reduceEqDiff, Nat.reduceAdd, reduceIte, reduceCtorEq, splice, resOf, tupOf, cellsV, AV.toV, AV.cell?, cellVal]) (by simp only [kB, kZ, kD, fillA, partsEv, zeroes, Nat.reduceSub, Int.reduceToNat, Nat.reduceMul, asInt?, asNat?, Int.reduceAdd, Int.reduceLE, Int.reduceLT, Int.reduceNeg, Nat.reduceLeDiff, VOpd.ev, Nat.reduceEqDiff, Nat.reduceAdd, reduceIte, reduceCtorEq, splice, resOf, tupOf, cellsV, AV.toV, AV.cell?, cellVal]; rfl) (by simp; omega) (hown) (hlen) ?_
      intro w' L' hown'
      simp only [k3, k5, k20, k21, kB, kZ, kD, fillA, partsEv, zeroes, Nat.reduceSub, Int.reduceToNat, Nat.reduceMul, asInt?, asNat?, Int.reduceAdd, Int.reduceLE, Int.reduceLT, Int.reduceNeg, Nat.reduceLeDiff, VOpd.ev, Nat.reduceEqDiff, Nat.reduceAdd, reduceIte, reduceCtorEq, splice, resOf, tupOf, cellsV, AV.toV, AV.cell?, cellVal]
      first | exact ⟨L', w', rfl, rfl, by simpa [hc] using hown'⟩ | exact ⟨L', w', rfl, rfl, rfl, by simpa [hc] using hown'⟩ | exact ⟨L', w', rfl, rfl, rfl, rfl, by simpa [hc] using hown'⟩
    · simp only [k3, k5, k20, k21, hc, kB, kZ, kD, fillA, partsEv, zeroes, Nat.reduceSub, Int.reduceToNat, Nat.reduceMul, asInt?, asNat?, Int.reduceAdd, Int.reduceLE, Int.reduceLT, Int.reduceNeg, Nat.reduceLeDiff, VOpd.ev, Nat.reduceEqDiff, Nat.reduceAdd, reduceIte, reduceCtorEq, splice, resOf, tupOf, cellsV, AV.toV, AV.cell?, cellVal]
      first | exact ⟨L, w, by simp, rfl, by simpa [hc] using hown⟩ | exact ⟨L, w, by simp, rfl, rfl, by simpa [hc] using hown⟩ | exact ⟨L, w, by simp, rfl, rfl, rfl, by simpa [hc] using hown⟩ | exact ⟨L, w, by simp, rfl, rfl, rfl, rfl, by simpa [hc] using hown⟩
  rintro e s ⟨L, w, rfl, k3, k5, k20, k21, hown⟩
  have hlen : ((if hasA o.k then [o.a] else []) ++ (if hasB o.k then [o.b] else []) ++ (if hasC o.k then [o.c] else [])).length ≤ 1000000 := by cases hasA o.k <;> cases hasB o.k <;> cases hasC o.k <;> simp
  simp only [k3, k5, k20, k21, w3, kB, kZ, kD, fillA, partsEv, zeroes, Nat.reduceSub, Int.reduceToNat, Nat.reduceMul, asInt?, asNat?, Int.reduceAdd, Int.reduceLE, Int.reduceLT, Int.reduceNeg, Nat.reduceLeDiff, VOpd.ev, Nat.reduceEqDiff, Nat.reduceAdd, reduceIte, reduceCtorEq, splice, resOf, tupOf, cellsV, AV.toV, AV.cell?, cellVal]
  refine loop_unroll ?_
  simp only [k3, k5, k20, k21, kB, kZ, kD, fillA, partsEv, zeroes, Nat.reduceSub, Int.reduceToNat, Nat.reduceMul, asInt?, asNat?, Int.reduceAdd, Int.reduceLE, Int.reduceLT, Int.reduceNeg, Nat.reduceLeDiff, VOpd.ev, Nat.reduceEqDiff, Nat.reduceAdd, reduceIte, reduceCtorEq, splice, resOf, tupOf, cellsV, AV.toV, AV.cell?, cellVal]
  exact ⟨_, _, rfl, rfl, hown.low (by omega)⟩
end
end Go.VX.Seat
end
section
set_option linter.unusedVariables false
set_option linter.unusedSimpArgs false
set_option maxRecDepth 4000
/-! The law CodeTells. -/
namespace Go.VX.Seat
open Go.Proofs
def errK (k : Int) : Int := if oneK k then 0 else 4
def rclsK (k : Int) : Int := if decide (k ≤ 12) then 0 else if decide (k ≤ 15) || decide (k = 23) || decide (k = 24) then 1 else if decide (k ≤ 19) || decide (k = 25) then 2 else 3
theorem rcls_all : ∀ j : Fin 25, (rclsK ((j.val : Int) + 1) == classK ((j.val : Int) + 1)) = true := by decide +kernel
theorem oneK_bnd {k : Int} (h : oneK k = true) : 1 ≤ k ∧ k ≤ 25 := by
  unfold oneK at h
  simpa using h
theorem rcls_eq {k : Int} (h : oneK k = true) : rclsK k = classK k := by
  have hk := oneK_bnd h
  have := rcls_all ⟨(k - 1).toNat, by omega⟩
  simp only at this
  rw [show (((k - 1).toNat : Nat) : Int) + 1 = k by omega] at this
  simpa using this
theorem callO_own {X : Cx} {env : Env} {st : St} {Q : Post3} {K : Env → St → Post3 → Prop} {f : FuncId} {args : List AV} {dst : Option Nat} {keep : List VOpd} {esz : Nat} {rows : List (List AV)} (hw : wpF X f args st fun r s => ∃ w m, r = .ret w ∧ s = st ++ m ∧ OwnS s st.length w esz rows)
    (h : ∀ w m, OwnS (st ++ m) st.length w esz rows → K (env.put dst w) (st ++ m) Q) : callO X f args dst keep K env st Q := by
  refine wpF.mono hw ?_
  rintro r s ⟨w, m, rfl, rfl, h1⟩
  exact ⟨kept_app _ _ _ _, h w m h1⟩
theorem own_one (st M m : St) (n : Int) {N : Nat} (hN : N = st.length + M.length) : OwnS (st ++ (M ++ (⟨[iA n], 0, 0⟩ :: m))) N (.sl N 0 1 1 true) 1 (rowsI [n]) := by
  subst hN
  have hb : (st ++ (M ++ (⟨[iA n], 0, 0⟩ :: m)))[st.length + M.length]? = some ⟨(rowsI [n]).flatten, 0, 0⟩ := by
    rw [← List.append_assoc, List.getElem?_append_right (by simp)]; simp
  exact {
    arr := (ArrAt.ofBox hb (by decide) (by simp) rfl).wide' (by omega) (by simp; omega)
    bnd := fun b h => by cases h; simp
    app := fun b o n e full h => by cases h; exact .inl rfl }
section
variable {X : Cx} {st : St}
theorem j_code_Writes (h : On X) (hg : GlobAt st) (o : OpV) :
    J X.P X.F X.H (.call 23 [.agg o.row] st (.ret (.tup [iA (if oneK o.k && hasDst o.k then o.d else 0), bA (oneK o.k && hasDst o.k), iA (errK o.k)])) st) := by
  refine pure_intro (by rw [h.F]; rfl) rfl ?_
  simp only [v_code_Writes, OpV.row, kB, kZ, kD, fillA, partsEv, zeroes, Nat.reduceSub, Int.reduceToNat, Nat.reduceMul, asInt?, asNat?, Int.reduceAdd, Int.reduceLE, Int.reduceLT, Int.reduceNeg, Nat.reduceLeDiff, VOpd.ev, Nat.reduceEqDiff, Nat.reduceAdd, reduceIte, reduceCtorEq, splice, resOf, tupOf, cellsV, AV.toV, AV.cell?, cellVal]
  refine callO_same (j_code_of h (hg.ext (Ext.of _ _)) o.k) ?_
  simp only [kB, kZ, kD, fillA, partsEv, zeroes, Nat.reduceSub, Int.reduceToNat, Nat.reduceMul, asInt?, asNat?, Int.reduceAdd, Int.reduceLE, Int.reduceLT, Int.reduceNeg, Nat.reduceLeDiff, VOpd.ev, Nat.reduceEqDiff, Nat.reduceAdd, reduceIte, reduceCtorEq, splice, resOf, tupOf, cellsV, AV.toV, AV.cell?, cellVal]
  unfold errK
  refine condO_intro ?_ ?_ <;> intro hc
  · have ho : oneK o.k = false := by simpa using hc
    simp only [ho, kB, kZ, kD, fillA, partsEv, zeroes, Nat.reduceSub, Int.reduceToNat, Nat.reduceMul, asInt?, asNat?, Int.reduceAdd, Int.reduceLE, Int.reduceLT, Int.reduceNeg, Nat.reduceLeDiff, VOpd.ev, Nat.reduceEqDiff, Nat.reduceAdd, reduceIte, reduceCtorEq, splice, resOf, tupOf, cellsV, AV.toV, AV.cell?, cellVal]
    first | exact ⟨_, rfl⟩ | exact ⟨rfl, _, rfl⟩ | exact ⟨trivial, _, rfl⟩ | exact ⟨[], (List.append_nil _).symm⟩
  · have ho : oneK o.k = true := by simpa using hc
    obtain ⟨t1, _⟩ := bits ho
    simp only [ho, c_and, t1, kB, kZ, kD, fillA, partsEv, zeroes, Nat.reduceSub, Int.reduceToNat, Nat.reduceMul, asInt?, asNat?, Int.reduceAdd, Int.reduceLE, Int.reduceLT, Int.reduceNeg, Nat.reduceLeDiff, VOpd.ev, Nat.reduceEqDiff, Nat.reduceAdd, reduceIte, reduceCtorEq, splice, resOf, tupOf, cellsV, AV.toV, AV.cell?, cellVal]
    refine condO_intro ?_ ?_ <;> intro hd <;> simp only [hd, kB, kZ, kD, fillA, partsEv, zeroes, Nat.reduceSub, Int.reduceToNat, Nat.reduceMul, asInt?, asNat?, Int.reduceAdd, Int.reduceLE, Int.reduceLT, Int.reduceNeg, Nat.reduceLeDiff, VOpd.ev, Nat.reduceEqDiff, Nat.reduceAdd, reduceIte, reduceCtorEq, splice, resOf, tupOf, cellsV, AV.toV, AV.cell?, cellVal]
    all_goals first | exact ⟨_, rfl⟩ | exact ⟨rfl, _, rfl⟩ | exact ⟨trivial, _, rfl⟩ | exact ⟨[], (List.append_nil _).symm⟩
theorem j_code_Class (h : On X) (hg : GlobAt st) (k : Int) :
    J X.P X.F X.H (.call 24 [iA k] st (.ret (.tup [iA (classK k), iA (errK k)])) st) := by
  refine pure_intro (by rw [h.F]; rfl) rfl ?_
  simp only [v_code_Class, kB, kZ, kD, fillA, partsEv, zeroes, Nat.reduceSub, Int.reduceToNat, Nat.reduceMul, asInt?, asNat?, Int.reduceAdd, Int.reduceLE, Int.reduceLT, Int.reduceNeg, Nat.reduceLeDiff, VOpd.ev, Nat.reduceEqDiff, Nat.reduceAdd, reduceIte, reduceCtorEq, splice, resOf, tupOf, cellsV, AV.toV, AV.cell?, cellVal]
  refine callO_same (j_code_of h (hg.ext (Ext.of _ [])) k) ?_
  simp only [kB, kZ, kD, fillA, partsEv, zeroes, Nat.reduceSub, Int.reduceToNat, Nat.reduceMul, asInt?, asNat?, Int.reduceAdd, Int.reduceLE, Int.reduceLT, Int.reduceNeg, Nat.reduceLeDiff, VOpd.ev, Nat.reduceEqDiff, Nat.reduceAdd, reduceIte, reduceCtorEq, splice, resOf, tupOf, cellsV, AV.toV, AV.cell?, cellVal]
  unfold errK
  refine condO_intro ?_ ?_ <;> intro hc
  · have ho : oneK k = false := by simpa using hc
    simp only [ho, classK, kB, kZ, kD, fillA, partsEv, zeroes, Nat.reduceSub, Int.reduceToNat, Nat.reduceMul, asInt?, asNat?, Int.reduceAdd, Int.reduceLE, Int.reduceLT, Int.reduceNeg, Nat.reduceLeDiff, VOpd.ev, Nat.reduceEqDiff, Nat.reduceAdd, reduceIte, reduceCtorEq, splice, resOf, tupOf, cellsV, AV.toV, AV.cell?, cellVal]
    first | exact ⟨_, rfl⟩ | exact ⟨rfl, _, rfl⟩ | exact ⟨trivial, _, rfl⟩ | exact ⟨[], (List.append_nil _).symm⟩
  · have ho : oneK k = true := by simpa using hc
    simp only [ho, kB, kZ, kD, fillA, partsEv, zeroes, Nat.reduceSub, Int.reduceToNat, Nat.reduceMul, asInt?, asNat?, Int.reduceAdd, Int.reduceLE, Int.reduceLT, Int.reduceNeg, Nat.reduceLeDiff, VOpd.ev, Nat.reduceEqDiff, Nat.reduceAdd, reduceIte, reduceCtorEq, splice, resOf, tupOf, cellsV, AV.toV, AV.cell?, cellVal]
    first | exact ⟨_, rfl⟩ | exact ⟨rfl, _, rfl⟩ | exact ⟨trivial, _, rfl⟩ | exact ⟨[], (List.append_nil _).symm⟩
theorem j_code_Name (h : On X) (hg : GlobAt st) (k : Int) :
    J X.P X.F X.H (.call 25 [iA k] st (.ret (.tup [.sc (.string (nameK k)), iA (errK k)])) st) := by
  refine pure_intro (by rw [h.F]; rfl) rfl ?_
  simp only [v_code_Name, kB, kZ, kD, fillA, partsEv, zeroes, Nat.reduceSub, Int.reduceToNat, Nat.reduceMul, asInt?, asNat?, Int.reduceAdd, Int.reduceLE, Int.reduceLT, Int.reduceNeg, Nat.reduceLeDiff, VOpd.ev, Nat.reduceEqDiff, Nat.reduceAdd, reduceIte, reduceCtorEq, splice, resOf, tupOf, cellsV, AV.toV, AV.cell?, cellVal]
  refine callO_same (j_code_of h (hg.ext (Ext.of _ [])) k) ?_
  simp only [kB, kZ, kD, fillA, partsEv, zeroes, Nat.reduceSub, Int.reduceToNat, Nat.reduceMul, asInt?, asNat?, Int.reduceAdd, Int.reduceLE, Int.reduceLT, Int.reduceNeg, Nat.reduceLeDiff, VOpd.ev, Nat.reduceEqDiff, Nat.reduceAdd, reduceIte, reduceCtorEq, splice, resOf, tupOf, cellsV, AV.toV, AV.cell?, cellVal]
  unfold errK
  refine condO_intro ?_ ?_ <;> intro hc
  · have ho : oneK k = false := by simpa using hc
    simp only [ho, nameK, kB, kZ, kD, fillA, partsEv, zeroes, Nat.reduceSub, Int.reduceToNat, Nat.reduceMul, asInt?, asNat?, Int.reduceAdd, Int.reduceLE, Int.reduceLT, Int.reduceNeg, Nat.reduceLeDiff, VOpd.ev, Nat.reduceEqDiff, Nat.reduceAdd, reduceIte, reduceCtorEq, splice, resOf, tupOf, cellsV, AV.toV, AV.cell?, cellVal]
    first | exact ⟨_, rfl⟩ | exact ⟨rfl, _, rfl⟩ | exact ⟨trivial, _, rfl⟩ | exact ⟨[], (List.append_nil _).symm⟩
  · have ho : oneK k = true := by simpa using hc
    simp only [ho, kB, kZ, kD, fillA, partsEv, zeroes, Nat.reduceSub, Int.reduceToNat, Nat.reduceMul, asInt?, asNat?, Int.reduceAdd, Int.reduceLE, Int.reduceLT, Int.reduceNeg, Nat.reduceLeDiff, VOpd.ev, Nat.reduceEqDiff, Nat.reduceAdd, reduceIte, reduceCtorEq, splice, resOf, tupOf, cellsV, AV.toV, AV.cell?, cellVal]
    first | exact ⟨_, rfl⟩ | exact ⟨rfl, _, rfl⟩ | exact ⟨trivial, _, rfl⟩ | exact ⟨[], (List.append_nil _).symm⟩
theorem j_r07_Writes (h : On X) (o : OpV) :
    J X.P X.F X.H (.call 27 [.agg o.row] st (.ret (.tup [iA (if hasDst o.k then o.d else 0), bA (hasDst o.k)])) st) := by
  refine pure_intro (by rw [h.F]; rfl) rfl ?_
  simp only [v_r07_Writes, OpV.row, kB, kZ, kD, fillA, partsEv, zeroes, Nat.reduceSub, Int.reduceToNat, Nat.reduceMul, asInt?, asNat?, Int.reduceAdd, Int.reduceLE, Int.reduceLT, Int.reduceNeg, Nat.reduceLeDiff, VOpd.ev, Nat.reduceEqDiff, Nat.reduceAdd, reduceIte, reduceCtorEq, splice, resOf, tupOf, cellsV, AV.toV, AV.cell?, cellVal]
  refine callO_same (j_r07_HasDst h _) ?_
  simp only [kB, kZ, kD, fillA, partsEv, zeroes, Nat.reduceSub, Int.reduceToNat, Nat.reduceMul, asInt?, asNat?, Int.reduceAdd, Int.reduceLE, Int.reduceLT, Int.reduceNeg, Nat.reduceLeDiff, VOpd.ev, Nat.reduceEqDiff, Nat.reduceAdd, reduceIte, reduceCtorEq, splice, resOf, tupOf, cellsV, AV.toV, AV.cell?, cellVal]
  refine condO_intro ?_ ?_ <;> intro hc
  · have ho : hasDst o.k = false := by simpa using hc
    simp only [ho, kB, kZ, kD, fillA, partsEv, zeroes, Nat.reduceSub, Int.reduceToNat, Nat.reduceMul, asInt?, asNat?, Int.reduceAdd, Int.reduceLE, Int.reduceLT, Int.reduceNeg, Nat.reduceLeDiff, VOpd.ev, Nat.reduceEqDiff, Nat.reduceAdd, reduceIte, reduceCtorEq, splice, resOf, tupOf, cellsV, AV.toV, AV.cell?, cellVal]
    first | exact ⟨_, rfl⟩ | exact ⟨rfl, _, rfl⟩ | exact ⟨trivial, _, rfl⟩ | exact ⟨[], (List.append_nil _).symm⟩
  · have ho : hasDst o.k = true := by simpa using hc
    simp only [ho, kB, kZ, kD, fillA, partsEv, zeroes, Nat.reduceSub, Int.reduceToNat, Nat.reduceMul, asInt?, asNat?, Int.reduceAdd, Int.reduceLE, Int.reduceLT, Int.reduceNeg, Nat.reduceLeDiff, VOpd.ev, Nat.reduceEqDiff, Nat.reduceAdd, reduceIte, reduceCtorEq, splice, resOf, tupOf, cellsV, AV.toV, AV.cell?, cellVal]
    first | exact ⟨_, rfl⟩ | exact ⟨rfl, _, rfl⟩ | exact ⟨trivial, _, rfl⟩ | exact ⟨[], (List.append_nil _).symm⟩
theorem j_r07_Class (h : On X) (k : Int) :
    J X.P X.F X.H (.call 30 [iA k] st (.ret (iA (rclsK k))) st) := by
  refine pure_intro (by rw [h.F]; rfl) rfl ?_
  unfold rclsK
  simp only [v_r07_Class, kB, kZ, kD, fillA, partsEv, zeroes, Nat.reduceSub, Int.reduceToNat, Nat.reduceMul, asInt?, asNat?, Int.reduceAdd, Int.reduceLE, Int.reduceLT, Int.reduceNeg, Nat.reduceLeDiff, VOpd.ev, Nat.reduceEqDiff, Nat.reduceAdd, reduceIte, reduceCtorEq, splice, resOf, tupOf, cellsV, AV.toV, AV.cell?, cellVal]
  cases ha : decide (k ≤ 12)
  · cases hb : decide (k ≤ 15)
    · cases hc : decide (k = 23)
      · cases hd : decide (k = 24)
        · cases he : decide (k ≤ 19)
          · cases hf : decide (k = 25) <;> simp only [ha, hb, hc, hd, he, hf, kB, kZ, kD, fillA, partsEv, zeroes, Nat.reduceSub, Int.reduceToNat, Nat.reduceMul, asInt?, asNat?, Int.reduceAdd, Int.reduceLE, Int.reduceLT, Int.reduceNeg, Nat.reduceLeDiff, VOpd.ev, Nat.reduceEqDiff, Nat.reduceAdd, reduceIte, reduceCtorEq, splice, resOf, tupOf, cellsV, AV.toV, AV.cell?, cellVal]
            all_goals first | exact ⟨_, rfl⟩ | exact ⟨rfl, _, rfl⟩ | exact ⟨trivial, _, rfl⟩ | exact ⟨[], (List.append_nil _).symm⟩
          · simp only [ha, hb, hc, hd, he, kB, kZ, kD, fillA, partsEv, zeroes, Nat.reduceSub, Int.reduceToNat, Nat.reduceMul, asInt?, asNat?, Int.reduceAdd, Int.reduceLE, Int.reduceLT, Int.reduceNeg, Nat.reduceLeDiff, VOpd.ev, Nat.reduceEqDiff, Nat.reduceAdd, reduceIte, reduceCtorEq, splice, resOf, tupOf, cellsV, AV.toV, AV.cell?, cellVal]
            first | exact ⟨_, rfl⟩ | exact ⟨rfl, _, rfl⟩ | exact ⟨trivial, _, rfl⟩ | exact ⟨[], (List.append_nil _).symm⟩
        · simp only [ha, hb, hc, hd, kB, kZ, kD, fillA, partsEv, zeroes, Nat.reduceSub, Int.reduceToNat, Nat.reduceMul, asInt?, asNat?, Int.reduceAdd, Int.reduceLE, Int.reduceLT, Int.reduceNeg, Nat.reduceLeDiff, VOpd.ev, Nat.reduceEqDiff, Nat.reduceAdd, reduceIte, reduceCtorEq, splice, resOf, tupOf, cellsV, AV.toV, AV.cell?, cellVal]
          first | exact ⟨_, rfl⟩ | exact ⟨rfl, _, rfl⟩ | exact ⟨trivial, _, rfl⟩ | exact ⟨[], (List.append_nil _).symm⟩
      · simp only [ha, hb, hc, kB, kZ, kD, fillA, partsEv, zeroes, Nat.reduceSub, Int.reduceToNat, Nat.reduceMul, asInt?, asNat?, Int.reduceAdd, Int.reduceLE, Int.reduceLT, Int.reduceNeg, Nat.reduceLeDiff, VOpd.ev, Nat.reduceEqDiff, Nat.reduceAdd, reduceIte, reduceCtorEq, splice, resOf, tupOf, cellsV, AV.toV, AV.cell?, cellVal]
        first | exact ⟨_, rfl⟩ | exact ⟨rfl, _, rfl⟩ | exact ⟨trivial, _, rfl⟩ | exact ⟨[], (List.append_nil _).symm⟩
    · simp only [ha, hb, kB, kZ, kD, fillA, partsEv, zeroes, Nat.reduceSub, Int.reduceToNat, Nat.reduceMul, asInt?, asNat?, Int.reduceAdd, Int.reduceLE, Int.reduceLT, Int.reduceNeg, Nat.reduceLeDiff, VOpd.ev, Nat.reduceEqDiff, Nat.reduceAdd, reduceIte, reduceCtorEq, splice, resOf, tupOf, cellsV, AV.toV, AV.cell?, cellVal]
      first | exact ⟨_, rfl⟩ | exact ⟨rfl, _, rfl⟩ | exact ⟨trivial, _, rfl⟩ | exact ⟨[], (List.append_nil _).symm⟩
  · simp only [ha, kB, kZ, kD, fillA, partsEv, zeroes, Nat.reduceSub, Int.reduceToNat, Nat.reduceMul, asInt?, asNat?, Int.reduceAdd, Int.reduceLE, Int.reduceLT, Int.reduceNeg, Nat.reduceLeDiff, VOpd.ev, Nat.reduceEqDiff, Nat.reduceAdd, reduceIte, reduceCtorEq, splice, resOf, tupOf, cellsV, AV.toV, AV.cell?, cellVal]
    first | exact ⟨_, rfl⟩ | exact ⟨rfl, _, rfl⟩ | exact ⟨trivial, _, rfl⟩ | exact ⟨[], (List.append_nil _).symm⟩
theorem w_r07_Names (h : On X) : wpF X 31 [] st fun r s => r = .ret (.sl st.length 0 25 1 true) ∧ s = st ++ [⟨nameL.map fun b => .sc (.string b), 0, 0⟩] := by
  refine wpF_go (fn := v_r07_Names) (by rw [h.F]; rfl) ?_
  simp only [v_r07_Names, nameL, kB, kZ, kD, fillA, partsEv, zeroes, Nat.reduceSub, Int.reduceToNat, Nat.reduceMul, asInt?, asNat?, Int.reduceAdd, Int.reduceLE, Int.reduceLT, Int.reduceNeg, Nat.reduceLeDiff, VOpd.ev, Nat.reduceEqDiff, Nat.reduceAdd, reduceIte, reduceCtorEq, splice, resOf, tupOf, cellsV, AV.toV, AV.cell?, cellVal]
  trivial
theorem w_code_Reads (h : On X) (hg : GlobAt st) (o : OpV) (ho : oneK o.k = true) :
    wpF X 22 [.agg o.row] st fun r s => ∃ w m, r = .ret (.tup [w, iA 0]) ∧ s = st ++ m ∧ OwnS s st.length w 1 (rowsI (readL o)) := by
  refine wpF_go (fn := v_code_Reads) (by rw [h.F]; rfl) ?_
  simp only [v_code_Reads, OpV.row, kB, kZ, kD, fillA, partsEv, zeroes, Nat.reduceSub, Int.reduceToNat, Nat.reduceMul, asInt?, asNat?, Int.reduceAdd, Int.reduceLE, Int.reduceLT, Int.reduceNeg, Nat.reduceLeDiff, VOpd.ev, Nat.reduceEqDiff, Nat.reduceAdd, reduceIte, reduceCtorEq, splice, resOf, tupOf, cellsV, AV.toV, AV.cell?, cellVal]
  refine callO_same (j_code_of h (hg.ext (Ext.of _ _)) o.k) ?_
  simp only [ho, kB, kZ, kD, fillA, partsEv, zeroes, Nat.reduceSub, Int.reduceToNat, Nat.reduceMul, asInt?, asNat?, Int.reduceAdd, Int.reduceLE, Int.reduceLT, Int.reduceNeg, Nat.reduceLeDiff, VOpd.ev, Nat.reduceEqDiff, Nat.reduceAdd, reduceIte, reduceCtorEq, splice, resOf, tupOf, cellsV, AV.toV, AV.cell?, cellVal]
  refine condO_intro ?_ ?_ <;> intro hc
  · simp only [kB, kZ, kD, fillA, partsEv, zeroes, Nat.reduceSub, Int.reduceToNat, Nat.reduceMul, asInt?, asNat?, Int.reduceAdd, Int.reduceLE, Int.reduceLT, Int.reduceNeg, Nat.reduceLeDiff, VOpd.ev, Nat.reduceEqDiff, Nat.reduceAdd, reduceIte, reduceCtorEq, splice, resOf, tupOf, cellsV, AV.toV, AV.cell?, cellVal]
    refine callO_own (w_code_Read h (hg.ext (Ext.of _ _)) o ho) ?_
    intro w m hown
    simp only [List.append_assoc, List.cons_append, List.nil_append, kB, kZ, kD, fillA, partsEv, zeroes, Nat.reduceSub, Int.reduceToNat, Nat.reduceMul, asInt?, asNat?, Int.reduceAdd, Int.reduceLE, Int.reduceLT, Int.reduceNeg, Nat.reduceLeDiff, VOpd.ev, Nat.reduceEqDiff, Nat.reduceAdd, reduceIte, reduceCtorEq, splice, resOf, tupOf, cellsV, AV.toV, AV.cell?, cellVal]
    have hown2 : OwnS (st ++ ([⟨[iA o.k, iA o.d, iA o.a, iA o.b, iA o.c, iA o.n, iA o.g], 0, 0⟩, ⟨[iA (usesK o.k), iA (classK o.k), .sc (.string (nameK o.k))], 0, 1⟩] ++ (⟨[iA o.g], 0, 0⟩ :: m))) (st.length + 3) w 1 (rowsI (operL o)) := by simpa using hown
    have hl := operL_len o
    refine opR_append (vx := .sl (st.length + 2) 0 1 1 true) (vy := w) (lo := st.length + 2) (rows := rowsI [o.g]) (rows2 := rowsI (operL o)) (by simp only [kB, kZ, kD, fillA, partsEv, zeroes, Nat.reduceSub, Int.reduceToNat, Nat.reduceMul, asInt?, asNat?, Int.reduceAdd, Int.reduceLE, Int.reduceLT, Int.reduceNeg, Nat.reduceLeDiff, VOpd.ev, Nat.reduceEqDiff, Nat.reduceAdd, reduceIte, reduceCtorEq, splice, resOf, tupOf, cellsV, AV.toV, AV.cell?, cellVal]) (by simp only [kB, kZ, kD, fillA, partsEv, zeroes, Nat.reduceSub, Int.reduceToNat, Nat.reduceMul, asInt?, asNat?, Int.reduceAdd, Int.reduceLE, Int.reduceLT, Int.reduceNeg, Nat.reduceLeDiff, VOpd.ev, Nat.reduceEqDiff, Nat.reduceAdd, reduceIte, reduceCtorEq, splice, resOf, tupOf, cellsV, AV.toV, AV.cell?, cellVal]) (own_one st [⟨[iA o.k, iA o.d, iA o.a, iA o.b, iA o.c, iA o.n, iA o.g], 0, 0⟩, ⟨[iA (usesK o.k), iA (classK o.k), .sc (.string (nameK o.k))], 0, 1⟩] m o.g rfl) (by simp) hown2.arr (by simp; omega) (intRow_cells _) ?_
    intro w' s' hag hown' _
    obtain ⟨L', rfl⟩ := Agree.shape (st := st) (M := [⟨[iA o.k, iA o.d, iA o.a, iA o.b, iA o.c, iA o.n, iA o.g], 0, 0⟩, ⟨[iA (usesK o.k), iA (classK o.k), .sc (.string (nameK o.k))], 0, 1⟩]) (N := ⟨[iA o.g], 0, 0⟩ :: m) (hag.mono (Y := fun b => b = st.length + 2) fun _ _ h => by have := h.2; simpa [boxOf] using this.symm) (fun b hb => by simp [hb])
    simp only [kB, kZ, kD, fillA, partsEv, zeroes, Nat.reduceSub, Int.reduceToNat, Nat.reduceMul, asInt?, asNat?, Int.reduceAdd, Int.reduceLE, Int.reduceLT, Int.reduceNeg, Nat.reduceLeDiff, VOpd.ev, Nat.reduceEqDiff, Nat.reduceAdd, reduceIte, reduceCtorEq, splice, resOf, tupOf, cellsV, AV.toV, AV.cell?, cellVal]
    refine ⟨w', _, rfl, rfl, ?_⟩
    have : readL o = [o.g] ++ operL o := by unfold readL; simp only [hc, if_true]
    rw [this]
    exact (by simpa using hown' : OwnS _ _ w' 1 (rowsI ([o.g] ++ operL o))).low (by omega)
  · simp only [kB, kZ, kD, fillA, partsEv, zeroes, Nat.reduceSub, Int.reduceToNat, Nat.reduceMul, asInt?, asNat?, Int.reduceAdd, Int.reduceLE, Int.reduceLT, Int.reduceNeg, Nat.reduceLeDiff, VOpd.ev, Nat.reduceEqDiff, Nat.reduceAdd, reduceIte, reduceCtorEq, splice, resOf, tupOf, cellsV, AV.toV, AV.cell?, cellVal]
    refine callO_own (w_code_Read h (hg.ext (Ext.of _ _)) o ho) ?_
    intro w m hown
    simp only [List.append_assoc, List.cons_append, List.nil_append, kB, kZ, kD, fillA, partsEv, zeroes, Nat.reduceSub, Int.reduceToNat, Nat.reduceMul, asInt?, asNat?, Int.reduceAdd, Int.reduceLE, Int.reduceLT, Int.reduceNeg, Nat.reduceLeDiff, VOpd.ev, Nat.reduceEqDiff, Nat.reduceAdd, reduceIte, reduceCtorEq, splice, resOf, tupOf, cellsV, AV.toV, AV.cell?, cellVal]
    refine ⟨w, _, rfl, rfl, ?_⟩
    have : readL o = operL o := by unfold readL; simp only [hc, Bool.false_eq_true, if_false, List.nil_append]
    rw [this]
    exact (by simpa using hown : OwnS _ _ w 1 (rowsI (operL o))).low (by simp)
theorem w_r07_Reads (h : On X) (o : OpV) :
    wpF X 29 [.agg o.row] st fun r s => ∃ w m, r = .ret w ∧ s = st ++ m ∧ OwnS s st.length w 1 (rowsI (readL o)) := by
  refine wpF_go (fn := v_r07_Reads) (by rw [h.F]; rfl) ?_
  have hl := operL_len o
  simp only [v_r07_Reads, OpV.row, kB, kZ, kD, fillA, partsEv, zeroes, Nat.reduceSub, Int.reduceToNat, Nat.reduceMul, asInt?, asNat?, Int.reduceAdd, Int.reduceLE, Int.reduceLT, Int.reduceNeg, Nat.reduceLeDiff, VOpd.ev, Nat.reduceEqDiff, Nat.reduceAdd, reduceIte, reduceCtorEq, splice, resOf, tupOf, cellsV, AV.toV, AV.cell?, cellVal]
  refine anyCond m0 (fun e s => ∃ (L : St) (w : AV), s = st ++ (⟨[iA o.k, iA o.d, iA o.a, iA o.b, iA o.c, iA o.n, iA o.g], 0, 0⟩ :: L) ∧ e 1 = .ptr (st.length + 0) 0 ∧ e 3 = w ∧ OwnS s (st.length + 1) w 1 (rowsI (if decide (o.g ≠ -1) then [o.g] else []))) ?_ ?_
  · refine condO_intro ?_ ?_ <;> intro hc
    · simp only [kB, kZ, kD, fillA, partsEv, zeroes, Nat.reduceSub, Int.reduceToNat, Nat.reduceMul, asInt?, asNat?, Int.reduceAdd, Int.reduceLE, Int.reduceLT, Int.reduceNeg, Nat.reduceLeDiff, VOpd.ev, Nat.reduceEqDiff, Nat.reduceAdd, reduceIte, reduceCtorEq, splice, resOf, tupOf, cellsV, AV.toV, AV.cell?, cellVal]
      refine opR_app1 [⟨[iA o.k, iA o.d, iA o.a, iA o.b, iA o.c, iA o.n, iA o.g], 0, 0⟩] (L := ([] : St)) (w := (.sc (.slice none 0 0))) (xs := []) (by simp only [kB, kZ, kD, fillA, partsEv, zeroes, Nat.reduceSub, Int.reduceToNat, Nat.reduceMul, asInt?, asNat?, Int.reduceAdd, Int.reduceLE, Int.reduceLT, Int.reduceNeg, Nat.reduceLeDiff, VOpd.ev, Nat.reduceEqDiff, Nat.reduceAdd, reduceIte, reduceCtorEq, splice, resOf, tupOf, cellsV, AV.toV, AV.cell?, cellVal]) (by simp only [kB, kZ, kD, fillA, partsEv, zeroes, Nat.reduceSub, Int.reduceToNat, Nat.reduceMul, asInt?, asNat?, Int.reduceAdd, Int.reduceLE, Int.reduceLT, Int.reduceNeg, Nat.reduceLeDiff, VOpd.ev, Nat.reduceEqDiff, Nat.reduceAdd, reduceIte, reduceCtorEq, splice, resOf, tupOf, cellsV, AV.toV, AV.cell?, cellVal]; rfl) (by simp) (own_nil _ _ _) (by simp) ?_
      intro w' L' hown'
      simp only [kB, kZ, kD, fillA, partsEv, zeroes, Nat.reduceSub, Int.reduceToNat, Nat.reduceMul, asInt?, asNat?, Int.reduceAdd, Int.reduceLE, Int.reduceLT, Int.reduceNeg, Nat.reduceLeDiff, VOpd.ev, Nat.reduceEqDiff, Nat.reduceAdd, reduceIte, reduceCtorEq, splice, resOf, tupOf, cellsV, AV.toV, AV.cell?, cellVal]
      refine ⟨L', w', rfl, rfl, ?_⟩
      simpa [hc] using hown'
    · simp only [hc, kB, kZ, kD, fillA, partsEv, zeroes, Nat.reduceSub, Int.reduceToNat, Nat.reduceMul, asInt?, asNat?, Int.reduceAdd, Int.reduceLE, Int.reduceLT, Int.reduceNeg, Nat.reduceLeDiff, VOpd.ev, Nat.reduceEqDiff, Nat.reduceAdd, reduceIte, reduceCtorEq, splice, resOf, tupOf, cellsV, AV.toV, AV.cell?, cellVal]
      exact ⟨([] : St), _, rfl, rfl, own_nil _ _ _⟩
  rintro e s ⟨L, w, rfl, k1, k3, hown⟩
  simp only [k1, k3, kB, kZ, kD, fillA, partsEv, zeroes, Nat.reduceSub, Int.reduceToNat, Nat.reduceMul, asInt?, asNat?, Int.reduceAdd, Int.reduceLE, Int.reduceLT, Int.reduceNeg, Nat.reduceLeDiff, VOpd.ev, Nat.reduceEqDiff, Nat.reduceAdd, reduceIte, reduceCtorEq, splice, resOf, tupOf, cellsV, AV.toV, AV.cell?, cellVal]
  refine callO_own (w_r07_Operands h o) ?_
  intro v m hv
  simp only [k1, k3, List.append_assoc, List.cons_append, List.nil_append, kB, kZ, kD, fillA, partsEv, zeroes, Nat.reduceSub, Int.reduceToNat, Nat.reduceMul, asInt?, asNat?, Int.reduceAdd, Int.reduceLE, Int.reduceLT, Int.reduceNeg, Nat.reduceLeDiff, VOpd.ev, Nat.reduceEqDiff, Nat.reduceAdd, reduceIte, reduceCtorEq, splice, resOf, tupOf, cellsV, AV.toV, AV.cell?, cellVal]
  have hown2 : OwnS (st ++ (⟨[iA o.k, iA o.d, iA o.a, iA o.b, iA o.c, iA o.n, iA o.g], 0, 0⟩ :: (L ++ m))) (st.length + 1) w 1 (rowsI (if decide (o.g ≠ -1) then [o.g] else [])) := by simpa using own_frame hown m
  have hv2 : ArrAt (st ++ (⟨[iA o.k, iA o.d, iA o.a, iA o.b, iA o.c, iA o.n, iA o.g], 0, 0⟩ :: (L ++ m))) (st.length + 1) (st ++ (⟨[iA o.k, iA o.d, iA o.a, iA o.b, iA o.c, iA o.n, iA o.g], 0, 0⟩ :: (L ++ m))).length v 1 (rowsI (operL o)) := by
    have := hv.arr.wide' (lo' := st.length + 1) (by simp) (Nat.le_refl _)
    simpa using this
  refine opR_append (vx := w) (vy := v) (lo := st.length + 1) (rows := rowsI (if decide (o.g ≠ -1) then [o.g] else [])) (rows2 := rowsI (operL o)) (by simp only [k3, kB, kZ, kD, fillA, partsEv, zeroes, Nat.reduceSub, Int.reduceToNat, Nat.reduceMul, asInt?, asNat?, Int.reduceAdd, Int.reduceLE, Int.reduceLT, Int.reduceNeg, Nat.reduceLeDiff, VOpd.ev, Nat.reduceEqDiff, Nat.reduceAdd, reduceIte, reduceCtorEq, splice, resOf, tupOf, cellsV, AV.toV, AV.cell?, cellVal]) (by simp only [kB, kZ, kD, fillA, partsEv, zeroes, Nat.reduceSub, Int.reduceToNat, Nat.reduceMul, asInt?, asNat?, Int.reduceAdd, Int.reduceLE, Int.reduceLT, Int.reduceNeg, Nat.reduceLeDiff, VOpd.ev, Nat.reduceEqDiff, Nat.reduceAdd, reduceIte, reduceCtorEq, splice, resOf, tupOf, cellsV, AV.toV, AV.cell?, cellVal]) hown2 (by simp) hv2 (by cases decide (o.g ≠ -1) <;> simp <;> omega) (intRow_cells _) ?_
  intro w' s' hag hown' _
  obtain ⟨L', rfl⟩ := Agree.shape (st := st) (M := [⟨[iA o.k, iA o.d, iA o.a, iA o.b, iA o.c, iA o.n, iA o.g], 0, 0⟩]) (N := L ++ m) (hag.mono (Y := fun b => boxOf w = some b) fun _ _ h => h.2) (fun b hb => by have := (hown.bnd b hb).1; simp; omega)
  simp only [kB, kZ, kD, fillA, partsEv, zeroes, Nat.reduceSub, Int.reduceToNat, Nat.reduceMul, asInt?, asNat?, Int.reduceAdd, Int.reduceLE, Int.reduceLT, Int.reduceNeg, Nat.reduceLeDiff, VOpd.ev, Nat.reduceEqDiff, Nat.reduceAdd, reduceIte, reduceCtorEq, splice, resOf, tupOf, cellsV, AV.toV, AV.cell?, cellVal]
  refine ⟨w', _, rfl, rfl, ?_⟩
  unfold readL
  exact (by simpa using hown' : OwnS _ _ w' 1 (rowsI ((if decide (o.g ≠ -1) then [o.g] else []) ++ operL o))).low (by omega)
end
end Go.VX.Seat
end
section
set_option linter.unusedVariables false
set_option linter.unusedSimpArgs false
set_option maxRecDepth 4000
/-! The law CodeTells. -/
namespace Go.VX.Seat
open Go.Proofs
section
variable {X : Cx} {st : St}
theorem j_code_Reads_bad (h : On X) (hg : GlobAt st) (o : OpV) (ho : oneK o.k = false) :
    J X.P X.F X.H (.call 22 [.agg o.row] st (.ret (.tup [.sc (.slice none 0 0), iA 4])) st) := by
  refine pure_intro (by rw [h.F]; rfl) rfl ?_
  simp only [v_code_Reads, OpV.row, kB, kZ, kD, fillA, partsEv, zeroes, Nat.reduceSub, Int.reduceToNat, Nat.reduceMul, asInt?, asNat?, Int.reduceAdd, Int.reduceLE, Int.reduceLT, Int.reduceNeg, Nat.reduceLeDiff, VOpd.ev, Nat.reduceEqDiff, Nat.reduceAdd, reduceIte, reduceCtorEq, splice, resOf, tupOf, cellsV, AV.toV, AV.cell?, cellVal]
  refine callO_same (j_code_of h (hg.ext (Ext.of _ _)) o.k) ?_
  simp only [ho, kB, kZ, kD, fillA, partsEv, zeroes, Nat.reduceSub, Int.reduceToNat, Nat.reduceMul, asInt?, asNat?, Int.reduceAdd, Int.reduceLE, Int.reduceLT, Int.reduceNeg, Nat.reduceLeDiff, VOpd.ev, Nat.reduceEqDiff, Nat.reduceAdd, reduceIte, reduceCtorEq, splice, resOf, tupOf, cellsV, AV.toV, AV.cell?, cellVal]
  first | exact ⟨_, rfl⟩ | exact ⟨rfl, _, rfl⟩ | exact ⟨trivial, _, rfl⟩ | exact ⟨[], (List.append_nil _).symm⟩
theorem w_code_Reads' (h : On X) (hg : GlobAt st) (o : OpV) :
    wpF X 22 [.agg o.row] st fun r s => ∃ w m, r = .ret (.tup [w, iA (errK o.k)]) ∧ s = st ++ m ∧ OwnS s st.length w 1 (rowsI (if oneK o.k then readL o else [])) := by
  cases ho : oneK o.k
  · refine ⟨_, _, j_code_Reads_bad h hg o ho, _, [], by simp only [errK, ho]; rfl, by simp, own_nil _ _ _⟩
  · refine wpF.mono (w_code_Reads h hg o ho) ?_
    rintro r s ⟨w, m, rfl, rfl, h1⟩
    exact ⟨w, m, by simp only [errK, ho]; rfl, rfl, h1⟩
set_option maxHeartbeats 2000000 in
theorem w_CodeTells (h : OnH X) (hg : GB st) (o : OpV) :
    wpF X 6 [.agg o.row] st fun r s => r = .ret (bA true) ∧ ∃ m, s = st ++ m := by
  refine wpF_go (fn := v_l07_CodeTells) (by rw [h.F]; rfl) ?_
  have hl := operL_len o
  simp only [v_l07_CodeTells, OpV.row, kB, kZ, kD, fillA, partsEv, zeroes, Nat.reduceSub, Int.reduceToNat, Nat.reduceMul, asInt?, asNat?, Int.reduceAdd, Int.reduceLE, Int.reduceLT, Int.reduceNeg, Nat.reduceLeDiff, VOpd.ev, Nat.reduceEqDiff, Nat.reduceAdd, reduceIte, reduceCtorEq, splice, resOf, tupOf, cellsV, AV.toV, AV.cell?, cellVal]
  refine wpF.mono (w_code_Reads' h.toOn (hg.glob.ext (Ext.of _ _)) o) ?_
  rintro r s ⟨w, m, rfl, rfl, hown⟩
  refine ⟨kept_app _ _ _ _, ?_⟩
  have hown2 : OwnS (st ++ (⟨[iA o.k, iA o.d, iA o.a, iA o.b, iA o.c, iA o.n, iA o.g], 0, 0⟩ :: m)) (st.length + 1) w 1 (rowsI (if oneK o.k then readL o else [])) := by simpa using hown
  clear hown
  have hlw := hown2.arr.len
  simp only [List.length_map] at hlw
  simp only [List.append_assoc, List.cons_append, List.nil_append, kB, kZ, kD, fillA, partsEv, zeroes, Nat.reduceSub, Int.reduceToNat, Nat.reduceMul, asInt?, asNat?, Int.reduceAdd, Int.reduceLE, Int.reduceLT, Int.reduceNeg, Nat.reduceLeDiff, VOpd.ev, Nat.reduceEqDiff, Nat.reduceAdd, reduceIte, reduceCtorEq, splice, resOf, tupOf, cellsV, AV.toV, AV.cell?, cellVal]
  refine callO_same (j_code_Writes h.toOn (hg.glob.ext (Ext.of _ _)) o) ?_
  simp only [kB, kZ, kD, fillA, partsEv, zeroes, Nat.reduceSub, Int.reduceToNat, Nat.reduceMul, asInt?, asNat?, Int.reduceAdd, Int.reduceLE, Int.reduceLT, Int.reduceNeg, Nat.reduceLeDiff, VOpd.ev, Nat.reduceEqDiff, Nat.reduceAdd, reduceIte, reduceCtorEq, splice, resOf, tupOf, cellsV, AV.toV, AV.cell?, cellVal]
  refine callO_same (j_code_Class h.toOn (hg.glob.ext (Ext.of _ _)) o.k) ?_
  simp only [kB, kZ, kD, fillA, partsEv, zeroes, Nat.reduceSub, Int.reduceToNat, Nat.reduceMul, asInt?, asNat?, Int.reduceAdd, Int.reduceLE, Int.reduceLT, Int.reduceNeg, Nat.reduceLeDiff, VOpd.ev, Nat.reduceEqDiff, Nat.reduceAdd, reduceIte, reduceCtorEq, splice, resOf, tupOf, cellsV, AV.toV, AV.cell?, cellVal]
  refine callO_same (j_code_Name h.toOn (hg.glob.ext (Ext.of _ _)) o.k) ?_
  simp only [kB, kZ, kD, fillA, partsEv, zeroes, Nat.reduceSub, Int.reduceToNat, Nat.reduceMul, asInt?, asNat?, Int.reduceAdd, Int.reduceLE, Int.reduceLT, Int.reduceNeg, Nat.reduceLeDiff, VOpd.ev, Nat.reduceEqDiff, Nat.reduceAdd, reduceIte, reduceCtorEq, splice, resOf, tupOf, cellsV, AV.toV, AV.cell?, cellVal]
  refine callO_same (j_r07_One h.toOn o.k) ?_
  simp only [kB, kZ, kD, fillA, partsEv, zeroes, Nat.reduceSub, Int.reduceToNat, Nat.reduceMul, asInt?, asNat?, Int.reduceAdd, Int.reduceLE, Int.reduceLT, Int.reduceNeg, Nat.reduceLeDiff, VOpd.ev, Nat.reduceEqDiff, Nat.reduceAdd, reduceIte, reduceCtorEq, splice, resOf, tupOf, cellsV, AV.toV, AV.cell?, cellVal]
  cases ho : oneK o.k
  · have e1 : errK o.k = 4 := by unfold errK; simp only [ho]; rfl
    have e2 : classK o.k = 0 := by unfold classK; simp only [ho]; rfl
    have e3 : nameK o.k = ⟨#[]⟩ := by unfold nameK; simp only [ho]; rfl
    simp only [ho, Bool.false_eq_true, if_false, List.length_nil] at hlw
    simp only [h.P, e1, e2, e3, hlw, c_eqs, beq_self_eq_true, Int.natCast_zero, eq_self, kB, kZ, kD, fillA, partsEv, zeroes, Nat.reduceSub, Int.reduceToNat, Nat.reduceMul, asInt?, asNat?, Int.reduceAdd, Int.reduceLE, Int.reduceLT, Int.reduceNeg, Nat.reduceLeDiff, VOpd.ev, Nat.reduceEqDiff, Nat.reduceAdd, reduceIte, reduceCtorEq, splice, resOf, tupOf, cellsV, AV.toV, AV.cell?, cellVal]
    refine callO_same (.hook (h.alive _ (hg.app _))) ?_
    simp only [kB, kZ, kD, fillA, partsEv, zeroes, Nat.reduceSub, Int.reduceToNat, Nat.reduceMul, asInt?, asNat?, Int.reduceAdd, Int.reduceLE, Int.reduceLT, Int.reduceNeg, Nat.reduceLeDiff, VOpd.ev, Nat.reduceEqDiff, Nat.reduceAdd, reduceIte, reduceCtorEq, splice, resOf, tupOf, cellsV, AV.toV, AV.cell?, cellVal]
    exact ⟨_, rfl⟩
  · have e1 : errK o.k = 0 := by unfold errK; simp only [ho]; rfl
    simp only [ho, if_true] at hlw hown2
    simp only [e1, kB, kZ, kD, fillA, partsEv, zeroes, Nat.reduceSub, Int.reduceToNat, Nat.reduceMul, asInt?, asNat?, Int.reduceAdd, Int.reduceLE, Int.reduceLT, Int.reduceNeg, Nat.reduceLeDiff, VOpd.ev, Nat.reduceEqDiff, Nat.reduceAdd, reduceIte, reduceCtorEq, splice, resOf, tupOf, cellsV, AV.toV, AV.cell?, cellVal]
    refine callO_same (j_r07_Writes h.toOn o) ?_
    simp only [kB, kZ, kD, fillA, partsEv, zeroes, Nat.reduceSub, Int.reduceToNat, Nat.reduceMul, asInt?, asNat?, Int.reduceAdd, Int.reduceLE, Int.reduceLT, Int.reduceNeg, Nat.reduceLeDiff, VOpd.ev, Nat.reduceEqDiff, Nat.reduceAdd, reduceIte, reduceCtorEq, splice, resOf, tupOf, cellsV, AV.toV, AV.cell?, cellVal]
    refine callO_own (w_r07_Reads h.toOn o) ?_
    intro v m2 hv
    have hown3 : OwnS (st ++ (⟨[iA o.k, iA o.d, iA o.a, iA o.b, iA o.c, iA o.n, iA o.g], 0, 0⟩ :: (m ++ m2))) (st.length + 1) w 1 (rowsI (readL o)) := by simpa using own_frame hown2 m2
    have hlr : (readL o).length ≤ 4 := by
      unfold readL
      cases decide (o.g ≠ -1) <;> simp <;> omega
    simp only [List.append_assoc, List.cons_append, List.nil_append, kB, kZ, kD, fillA, partsEv, zeroes, Nat.reduceSub, Int.reduceToNat, Nat.reduceMul, asInt?, asNat?, Int.reduceAdd, Int.reduceLE, Int.reduceLT, Int.reduceNeg, Nat.reduceLeDiff, VOpd.ev, Nat.reduceEqDiff, Nat.reduceAdd, reduceIte, reduceCtorEq, splice, resOf, tupOf, cellsV, AV.toV, AV.cell?, cellVal]
    refine callO_same (j_l07_same h.toOn hown3.arr (by simpa using hv.arr) (by omega)) ?_
    simp only [h.P, c_eqb, beq_self_eq_true, eq_self, kB, kZ, kD, fillA, partsEv, zeroes, Nat.reduceSub, Int.reduceToNat, Nat.reduceMul, asInt?, asNat?, Int.reduceAdd, Int.reduceLE, Int.reduceLT, Int.reduceNeg, Nat.reduceLeDiff, VOpd.ev, Nat.reduceEqDiff, Nat.reduceAdd, reduceIte, reduceCtorEq, splice, resOf, tupOf, cellsV, AV.toV, AV.cell?, cellVal]
    refine callO_same (j_r07_Class h.toOn o.k) ?_
    simp only [rcls_eq ho, eq_self, kB, kZ, kD, fillA, partsEv, zeroes, Nat.reduceSub, Int.reduceToNat, Nat.reduceMul, asInt?, asNat?, Int.reduceAdd, Int.reduceLE, Int.reduceLT, Int.reduceNeg, Nat.reduceLeDiff, VOpd.ev, Nat.reduceEqDiff, Nat.reduceAdd, reduceIte, reduceCtorEq, splice, resOf, tupOf, cellsV, AV.toV, AV.cell?, cellVal]
    have hk := oneK_bnd ho
    refine wpF.mono (w_r07_Names h.toOn) ?_
    rintro r s ⟨rfl, rfl⟩
    refine ⟨kept_app _ _ _ _, ?_⟩
    have hj : (0 : Int) ≤ ((o.k - 1).toNat : Int) ∧ ((o.k - 1).toNat : Int) < 25 := by omega
    have hnm : (nameL.map fun b => AV.sc (.string b))[(o.k - 1).toNat]? = some (.sc (.string (nameK o.k))) := by
      rw [List.getElem?_map]
      unfold nameK
      rw [if_pos ho, List.getD_eq_getElem?_getD, List.getElem?_eq_getElem (show (o.k - 1).toNat < nameL.length by show _ < 25; omega)]
      rfl
    have hw1 : IntKind.wrap .i64 (o.k - 1) = ((o.k - 1).toNat : Int) := by rw [wrap_small (by omega) (by omega)]; omega
    simp only [hw1, if_pos hj, hnm, h.P, c_eqs, beq_self_eq_true, eq_self, List.append_assoc, List.cons_append, List.nil_append, kB, kZ, kD, fillA, partsEv, zeroes, Nat.reduceSub, Int.reduceToNat, Nat.reduceMul, asInt?, asNat?, Int.reduceAdd, Int.reduceLE, Int.reduceLT, Int.reduceNeg, Nat.reduceLeDiff, VOpd.ev, Nat.reduceEqDiff, Nat.reduceAdd, reduceIte, reduceCtorEq, splice, resOf, tupOf, cellsV, AV.toV, AV.cell?, cellVal]
    refine callO_same (.hook (h.alive _ (hg.app _))) ?_
    simp only [kB, kZ, kD, fillA, partsEv, zeroes, Nat.reduceSub, Int.reduceToNat, Nat.reduceMul, asInt?, asNat?, Int.reduceAdd, Int.reduceLE, Int.reduceLT, Int.reduceNeg, Nat.reduceLeDiff, VOpd.ev, Nat.reduceEqDiff, Nat.reduceAdd, reduceIte, reduceCtorEq, splice, resOf, tupOf, cellsV, AV.toV, AV.cell?, cellVal]
    exact ⟨_, rfl⟩
end
end Go.VX.Seat
end
