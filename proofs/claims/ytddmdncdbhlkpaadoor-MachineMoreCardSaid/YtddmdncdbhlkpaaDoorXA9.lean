/- A part of the proofs of the statements of one layer: S1, S2, S3, S4, S5, S6, S7, S8, S9, S10, S11, S12, S13, S14, S15, S16, S17, S18, S19, S20, S21, S22, S24, S23, E1, H2n, E2n, G1. No condition is added here. -/
import Derived.Test.YtddmdncdbhlkpaaDoorXA8
section
set_option linter.unusedVariables false
set_option linter.unusedSimpArgs false
namespace Go.VX.Seat
def oneK (k : Int) : Bool := decide (1 ≤ k) && decide (k ≤ 25)
def hasDst (k : Int) : Bool := decide (k ≠ 17) && decide (k ≠ 19) && decide (k ≠ 20) && decide (k ≠ 21) && decide (k ≠ 22)
def hasA (k : Int) : Bool := decide (k ≠ 1) && decide (k ≠ 18)
def hasB (k : Int) : Bool := decide (3 ≤ k) && decide (k ≤ 15) || decide (k = 17) || decide (k = 23) || decide (k = 24)
def hasC (k : Int) : Bool := decide (k = 12)
def arrK (k : Int) : Bool := decide (k = 16) || decide (k = 17) || decide (k = 25)
def cellK (k : Int) : Bool := decide (k = 18) || decide (k = 19)
def endA (k : Int) : Bool := decide (k ≠ 1)
def endTo (k : Int) : Bool := decide (k = 1) || decide (k = 2)
def endElse (k : Int) : Bool := decide (k = 2)
section
variable {X : Cx} {st : St}
end
end Go.VX.Seat
end
section
set_option linter.unusedVariables false
set_option linter.unusedSimpArgs false
namespace Go.VX.Seat
def regOkA (regs r : Int) : Bool := decide (0 ≤ r) && decide (r < regs)
section
variable {X : Cx} {st : St}
def hasN (k : Int) : Bool := decide (k = 1) || arrK k || cellK k || decide (k = 21)
def manyOf (ns nb : Nat) (spill k : Int) : Int := if arrK k then ns else if cellK k then spill else if decide (k = 21) then nb else -1
/-- The error of an operation. -/
def opErr (ns nb : Nat) (regs spill k d a b c n g : Int) : Int :=
  if oneK k = false then 4 else
  if (hasDst k && !regOkA regs d) || (hasA k && !regOkA regs a) || (hasB k && !regOkA regs b) || (hasC k && !regOkA regs c) then 2 else
  if decide (g ≠ -1) && !regOkA regs g then 2 else
  if decide (0 ≤ manyOf ns nb spill k) && (decide (n < 0) || decide (manyOf ns nb spill k ≤ n)) then 5 else
  if (!hasDst k && decide (d ≠ 0)) || (!hasA k && decide (a ≠ 0)) || (!hasB k && decide (b ≠ 0)) || (!hasC k && decide (c ≠ 0)) then 4 else
  if !hasN k && decide (n ≠ 0) then 4 else 0
end
end Go.VX.Seat
end
section
set_option linter.unusedVariables false
set_option linter.unusedSimpArgs false
set_option maxRecDepth 4000
namespace Go.VX.Seat
open Go.Proofs
theorem eq_int (d : Nat) (a b : Int) : closed Tryd.prog (Op.equalIn (d + 1) 3 (.int .i64 a) (.int .i64 b)) = some (a == b) := by kernel_rfl
theorem eq_int2 (d : Nat) (a b : Int) : closed Tryd.prog (Op.equalIn (d + 1) 2 (.int .i64 a) (.int .i64 b)) = some (a == b) := by kernel_rfl
def opEq (k d a b c n g k' d' a' b' c' n' g' : Int) : Bool := if k == k' then if d == d' then if a == a' then if b == b' then if c == c' then if n == n' then if g == g' then true else false else false else false else false else false else false else false
def endEq (k a t e k' a' t' e' : Int) : Bool := if k == k' then if a == a' then if t == t' then if e == e' then true else false else false else false else false
theorem opEq_iff (k d a b c n g k' d' a' b' c' n' g' : Int) : opEq k d a b c n g k' d' a' b' c' n' g' = true ↔ (k = k' ∧ d = d' ∧ a = a' ∧ b = b' ∧ c = c' ∧ n = n' ∧ g = g') := by
  unfold opEq
  repeat' split
  all_goals simp_all
theorem endEq_iff (k a t e k' a' t' e' : Int) : endEq k a t e k' a' t' e' = true ↔ (k = k' ∧ a = a' ∧ t = t' ∧ e = e') := by
  unfold endEq
  repeat' split
  all_goals simp_all
noncomputable def fl_op : List Field := (Tryd.prog.fieldsOf 33).toList
theorem fl_op_eq : fl_op = [fl_op.getD 0 default, fl_op.getD 1 default, fl_op.getD 2 default, fl_op.getD 3 default, fl_op.getD 4 default, fl_op.getD 5 default, fl_op.getD 6 default] := by kernel_rfl
theorem op_fields (k d a b c n g k' d' a' b' c' n' g' : Int) : closed Tryd.prog (Op.eqFields 9999 #[.int .i64 k, .int .i64 d, .int .i64 a, .int .i64 b, .int .i64 c, .int .i64 n, .int .i64 g] #[.int .i64 k', .int .i64 d', .int .i64 a', .int .i64 b', .int .i64 c', .int .i64 n', .int .i64 g'] fl_op) = some (opEq k d a b c n g k' d' a' b' c' n' g') := by
  rw [fl_op_eq]
  rw [closed_fields (a := .int .i64 k) (b := .int .i64 k') (r := k == k') (by kernel_rfl) (by kernel_rfl) (by kernel_rfl) (by kernel_rfl)]
  rw [closed_fields (a := .int .i64 d) (b := .int .i64 d') (r := d == d') (by kernel_rfl) (by kernel_rfl) (by kernel_rfl) (by kernel_rfl)]
  rw [closed_fields (a := .int .i64 a) (b := .int .i64 a') (r := a == a') (by kernel_rfl) (by kernel_rfl) (by kernel_rfl) (by kernel_rfl)]
  rw [closed_fields (a := .int .i64 b) (b := .int .i64 b') (r := b == b') (by kernel_rfl) (by kernel_rfl) (by kernel_rfl) (by kernel_rfl)]
  rw [closed_fields (a := .int .i64 c) (b := .int .i64 c') (r := c == c') (by kernel_rfl) (by kernel_rfl) (by kernel_rfl) (by kernel_rfl)]
  rw [closed_fields (a := .int .i64 n) (b := .int .i64 n') (r := n == n') (by kernel_rfl) (by kernel_rfl) (by kernel_rfl) (by kernel_rfl)]
  rw [closed_fields (a := .int .i64 g) (b := .int .i64 g') (r := g == g') (by kernel_rfl) (by kernel_rfl) (by kernel_rfl) (by kernel_rfl)]
  rw [closed_fields_nil]
  unfold opEq
  repeat' split
  all_goals rfl
theorem op_equal (k d a b c n g k' d' a' b' c' n' g' : Int) : closed Tryd.prog (Op.equal 33 (.agg #[.int .i64 k, .int .i64 d, .int .i64 a, .int .i64 b, .int .i64 c, .int .i64 n, .int .i64 g]) (.agg #[.int .i64 k', .int .i64 d', .int .i64 a', .int .i64 b', .int .i64 c', .int .i64 n', .int .i64 g'])) = some (opEq k d a b c n g k' d' a' b' c' n' g') := by
  unfold Op.equal Op.maxDepth
  rw [closed_struct (P := Tryd.prog) 9999 33 _ _ (fs := Tryd.prog.fieldsOf 33) (by kernel_rfl) (by kernel_rfl)]
  exact op_fields k d a b c n g k' d' a' b' c' n' g'
theorem c_neq_op (ox oy : Operand) (k d a b c n g k' d' a' b' c' n' g' : Int) :
    closed Tryd.prog (do eqGuard .neq 33 ox oy (.agg #[.int .i64 k, .int .i64 d, .int .i64 a, .int .i64 b, .int .i64 c, .int .i64 n, .int .i64 g]) (.agg #[.int .i64 k', .int .i64 d', .int .i64 a', .int .i64 b', .int .i64 c', .int .i64 n', .int .i64 g']); binOp .neq 33 (.agg #[.int .i64 k, .int .i64 d, .int .i64 a, .int .i64 b, .int .i64 c, .int .i64 n, .int .i64 g]) (.agg #[.int .i64 k', .int .i64 d', .int .i64 a', .int .i64 b', .int .i64 c', .int .i64 n', .int .i64 g'])) = some (.bool (!opEq k d a b c n g k' d' a' b' c' n' g')) := by
  rw [closed_bind]
  have h1 : closed Tryd.prog (eqGuard .neq 33 ox oy (.agg #[.int .i64 k, .int .i64 d, .int .i64 a, .int .i64 b, .int .i64 c, .int .i64 n, .int .i64 g]) (.agg #[.int .i64 k', .int .i64 d', .int .i64 a', .int .i64 b', .int .i64 c', .int .i64 n', .int .i64 g'])) = some () := by kernel_rfl
  rw [h1]
  simp only [Option.bind_some]
  have h2 : binOp .neq 33 (.agg #[.int .i64 k, .int .i64 d, .int .i64 a, .int .i64 b, .int .i64 c, .int .i64 n, .int .i64 g]) (.agg #[.int .i64 k', .int .i64 d', .int .i64 a', .int .i64 b', .int .i64 c', .int .i64 n', .int .i64 g']) = (do pure (Value.bool (!(← Op.equal 33 (.agg #[.int .i64 k, .int .i64 d, .int .i64 a, .int .i64 b, .int .i64 c, .int .i64 n, .int .i64 g]) (.agg #[.int .i64 k', .int .i64 d', .int .i64 a', .int .i64 b', .int .i64 c', .int .i64 n', .int .i64 g']))))) := rfl
  rw [h2, closed_bind, op_equal]
  rfl
end Go.VX.Seat
end
section
set_option linter.unusedVariables false
set_option linter.unusedSimpArgs false
set_option maxRecDepth 4000
namespace Go.VX.Seat
/-- The error of an End. -/
def endErr (nb : Nat) (regs k a t e : Int) : Int :=
  if decide (k < 1) || decide (4 < k) then 4 else
  if endA k && !regOkA regs a then 2 else
  if (endTo k && !regOkA nb t) || (endElse k && !regOkA nb e) then 5 else
  if (!endA k && decide (a ≠ 0)) || (!endTo k && decide (t ≠ 0)) || (!endElse k && decide (e ≠ 0)) then 4 else 0
section
variable {X : Cx} {st : St}
end
end Go.VX.Seat
end
section
set_option linter.unusedVariables false
set_option linter.unusedSimpArgs false
set_option maxRecDepth 4000
namespace Go.VX.Seat
section
variable {X : Cx} {st : St}
end
end Go.VX.Seat
end
section
set_option linter.unusedVariables false
set_option linter.unusedSimpArgs false
set_option maxRecDepth 4000
/-! Units as they lie in memory; when two are the same. -/
namespace Go.VX.Seat
open Go.Proofs
structure OpV where
  k : Int
  d : Int
  a : Int
  b : Int
  c : Int
  n : Int
  g : Int
  deriving DecidableEq
structure EndV where
  k : Int
  a : Int
  t : Int
  e : Int
  deriving DecidableEq
structure BlkV where
  ops : List OpV
  e : EndV
  catch_ : Int
  deriving DecidableEq
structure UnitV where
  sizes : List Int
  params : Int
  regs : Int
  code : Int
  spill : Int
  blocks : List BlkV
  deriving DecidableEq
def OpV.row (o : OpV) : List AV := [iA o.k, iA o.d, iA o.a, iA o.b, iA o.c, iA o.n, iA o.g]
def BlkV.row (b : BlkV) (v : AV) : List AV := [v, iA b.e.k, iA b.e.a, iA b.e.t, iA b.e.e, iA b.catch_]
abbrev OpsAt (st : St) (lo hi : Nat) (v : AV) (l : List OpV) : Prop := ArrAt st lo hi v 7 (l.map OpV.row)
abbrev IntsAt (st : St) (lo hi : Nat) (v : AV) (l : List Int) : Prop := ArrAt st lo hi v 1 (l.map fun n => [iA n])
def BlksAt (st : St) (lo hi : Nat) (v : AV) (l : List BlkV) : Prop := ∃ f : Nat → AV, ArrAt st lo hi v 6 (l.mapIdx fun i b => b.row (f i)) ∧ ∀ i (h : i < l.length), OpsAt st lo hi (f i) l[i].ops
def UnitAt (st : St) (lo hi : Nat) (v : AV) (u : UnitV) : Prop := ∃ s bl, v = .agg [s, iA u.params, iA u.regs, iA u.code, iA u.spill, bl] ∧ IntsAt st lo hi s u.sizes ∧ BlksAt st lo hi bl u.blocks
section
variable {X : Cx} {st : St}
end
end Go.VX.Seat
end
section
set_option linter.unusedVariables false
set_option linter.unusedSimpArgs false
set_option maxRecDepth 4000
namespace Go.VX.Seat
open Go.Proofs
section
variable {X : Cx} {st : St}
end
end Go.VX.Seat
end
section
set_option linter.unusedVariables false
set_option linter.unusedSimpArgs false
set_option maxRecDepth 4000
namespace Go.VX.Seat
open Go.Proofs
theorem unit_ext {U V : UnitV} (h1 : U.sizes = V.sizes) (h2 : U.params = V.params) (h3 : U.regs = V.regs) (h4 : U.code = V.code) (h5 : U.spill = V.spill) (h6 : U.blocks = V.blocks) : U = V := by
  cases U; cases V; simp_all
/-- Nothing is out of all measure. -/
def Fits (U : UnitV) : Prop := (U.sizes.length : Int) < 4611686018427387904 ∧ (U.blocks.length : Int) < 4611686018427387904 ∧ ∀ b ∈ U.blocks, (b.ops.length : Int) < 4611686018427387904
theorem BlksAt.mono {st : St} {lo hi : Nat} {v : AV} {l : List BlkV} (h : BlksAt st lo hi v l) (m : St) : BlksAt (st ++ m) lo hi v l :=
  let ⟨f, h1, h2⟩ := h; ⟨f, h1.mono m, fun i hi => (h2 i hi).mono m⟩
theorem UnitAt.mono {st : St} {lo hi : Nat} {v : AV} {U : UnitV} (h : UnitAt st lo hi v U) (m : St) : UnitAt (st ++ m) lo hi v U :=
  let ⟨s, bl, h1, h2, h3⟩ := h; ⟨s, bl, h1, h2.mono m, h3.mono m⟩
theorem BlksAt.ext {st s : St} {lo hi : Nat} {v : AV} {l : List BlkV} (h : BlksAt st lo hi v l) (he : Ext st s) : BlksAt s lo hi v l := by obtain ⟨L, rfl⟩ := he; exact h.mono L
theorem UnitAt.ext {st s : St} {lo hi : Nat} {v : AV} {U : UnitV} (h : UnitAt st lo hi v U) (he : Ext st s) : UnitAt s lo hi v U := by obtain ⟨L, rfl⟩ := he; exact h.mono L
theorem isCell_len {v : AV} {n : Nat} (h : lenA v = some n) : AV.isCell v = true := by
  unfold lenA at h
  split at h
  · rfl
  · rfl
  · cases h
section
variable {X : Cx} {st : St}
end
end Go.VX.Seat
end
section
set_option linter.unusedVariables false
set_option linter.unusedSimpArgs false
set_option maxRecDepth 4000
/-! The first error of a unit. -/
namespace Go.VX.Seat
open Go.Proofs
def opErrU (U : UnitV) (o : OpV) : Int := opErr U.sizes.length U.blocks.length U.regs U.spill o.k o.d o.a o.b o.c o.n o.g
def endErrU (U : UnitV) (e : EndV) : Int := endErr U.blocks.length U.regs e.k e.a e.t e.e
def opsFind (U : UnitV) (i : Nat) : Nat → List OpV → Option (Int × Int × Int)
  | _, [] => none
  | k, o :: r => if decide (opErrU U o ≠ 0) then some (opErrU U o, i, k) else opsFind U i (k + 1) r
def blkFind (U : UnitV) : Nat → List BlkV → Option (Int × Int × Int)
  | _, [] => none
  | i, b :: r =>
    if decide (b.catch_ < -1) || decide ((U.blocks.length : Int) ≤ b.catch_) then some (2, i, b.ops.length) else
    if decide (400 < (b.ops.length : Int)) then some (3, i, b.ops.length) else
    match opsFind U i 0 b.ops with
    | some x => some x
    | none => if decide (endErrU U b.e ≠ 0) then some (endErrU U b.e, i, b.ops.length) else blkFind U (i + 1) r
def total (l : List BlkV) : Nat := (l.map (·.ops.length)).sum
def badSize (n : Int) : Bool := decide (n < 1) || decide (65536 < n)
def limitsU (U : UnitV) : Bool := decide (16 < (U.sizes.length : Int)) || decide (2000 < (U.blocks.length : Int)) || decide ((U.blocks.length : Int) = 0) || decide (4096 < U.regs) || decide (4096 < U.spill)
def headU (U : UnitV) : Bool := decide (U.regs < 1) || decide (U.spill < 0) || decide (U.params < 0) || decide (8 < U.params) || decide (U.regs < U.params) || !regOkA U.regs U.code
def findU (U : UnitV) : Int × Int × Int :=
  if limitsU U then (3, 0, 0) else
  if U.sizes.any badSize then (2, 0, 0) else
  if headU U then (2, 0, 0) else
  match blkFind U 0 U.blocks with
  | some x => x
  | none => if decide (20000 < (total U.blocks : Int)) then (3, 0, 0) else (0, 0, 0)
abbrev triA (x : Int × Int × Int) : AV := .tup [iA x.1, iA x.2.1, iA x.2.2]
section
variable {X : Cx} {st : St}
end
end Go.VX.Seat
end
section
set_option linter.unusedVariables false
set_option linter.unusedSimpArgs false
set_option maxRecDepth 4000
namespace Go.VX.Seat
open Go.Proofs
section
variable {X : Cx} {st : St}
/-- What Check says of a unit. -/
def chkU (U : UnitV) : Int := (findU U).1
end
end Go.VX.Seat
end
section
set_option linter.unusedVariables false
set_option linter.unusedSimpArgs false
set_option maxRecDepth 4000
/-! The program's own checker: its small functions. -/
namespace Go.VX.Seat
open Go.Proofs
/-- A function that leaves memory as it was, however it ends. -/
theorem out_intro {X : Cx} {st : St} {f : FuncId} {fn : VFun} {args : List AV} {r : CRes} (hF : X.F f = some fn) (hr : r.flat = true) (h : xC X fn.body (envOf args) (st ++ []) (bodK fn.res fun r' s => r' = r ∧ ∃ m, s = st ++ m)) : J X.P X.F X.H (.call f args st r st) := by
  rw [List.append_nil] at h
  obtain ⟨r', s, j, rfl, m, rfl⟩ := wpF_intro hF h
  exact .forget j hr
section
variable {X : Cx} {st : St}
end
end Go.VX.Seat
end
section
set_option linter.unusedVariables false
set_option linter.unusedSimpArgs false
set_option maxRecDepth 4000
/-! The table of the forms. (The lists are written by forms.py.) -/
namespace Go.VX.Seat
open Go.Proofs
def usesL : List Int := [17, 3, 7, 7, 7, 7, 7, 7, 7, 7, 7, 15, 7, 7, 7, 35, 38, 65, 66, 2, 130, 2, 7, 7, 35]
def classL : List Int := [0, 0, 0, 0, 0, 0, 0, 0, 0, 0, 0, 0, 1, 1, 1, 2, 2, 2, 2, 3, 3, 3, 1, 1, 2]
def nameL : List ByteArray := [⟨#[99, 111, 110, 115, 116]⟩, ⟨#[109, 111, 118, 101]⟩, ⟨#[97, 100, 100]⟩, ⟨#[115, 117, 98]⟩, ⟨#[97, 110, 100]⟩, ⟨#[111, 114]⟩, ⟨#[120, 111, 114]⟩, ⟨#[115, 104, 108]⟩, ⟨#[115, 104, 114]⟩, ⟨#[108, 101, 115, 115]⟩, ⟨#[101, 113, 117, 97, 108]⟩, ⟨#[112, 105, 99, 107]⟩, ⟨#[109, 117, 108]⟩, ⟨#[100, 105, 118]⟩, ⟨#[114, 101, 109]⟩, ⟨#[108, 111, 97, 100]⟩, ⟨#[115, 116, 111, 114, 101]⟩, ⟨#[102, 101, 116, 99, 104]⟩, ⟨#[107, 101, 101, 112]⟩, ⟨#[112, 114, 105, 110, 116]⟩, ⟨#[101, 120, 105, 116]⟩, ⟨#[99, 104, 101, 99, 107]⟩, ⟨#[100, 105, 118, 115]⟩, ⟨#[114, 101, 109, 115]⟩, ⟨#[108, 111, 97, 100, 115]⟩]
def formCells : List AV := [iA 17, iA 0, .sc (.string ⟨#[99, 111, 110, 115, 116]⟩), iA 3, iA 0, .sc (.string ⟨#[109, 111, 118, 101]⟩), iA 7, iA 0, .sc (.string ⟨#[97, 100, 100]⟩), iA 7, iA 0, .sc (.string ⟨#[115, 117, 98]⟩), iA 7, iA 0, .sc (.string ⟨#[97, 110, 100]⟩), iA 7, iA 0, .sc (.string ⟨#[111, 114]⟩), iA 7, iA 0, .sc (.string ⟨#[120, 111, 114]⟩), iA 7, iA 0, .sc (.string ⟨#[115, 104, 108]⟩), iA 7, iA 0, .sc (.string ⟨#[115, 104, 114]⟩), iA 7, iA 0, .sc (.string ⟨#[108, 101, 115, 115]⟩), iA 7, iA 0, .sc (.string ⟨#[101, 113, 117, 97, 108]⟩), iA 15, iA 0, .sc (.string ⟨#[112, 105, 99, 107]⟩), iA 7, iA 1, .sc (.string ⟨#[109, 117, 108]⟩), iA 7, iA 1, .sc (.string ⟨#[100, 105, 118]⟩), iA 7, iA 1, .sc (.string ⟨#[114, 101, 109]⟩), iA 35, iA 2, .sc (.string ⟨#[108, 111, 97, 100]⟩), iA 38, iA 2, .sc (.string ⟨#[115, 116, 111, 114, 101]⟩), iA 65, iA 2, .sc (.string ⟨#[102, 101, 116, 99, 104]⟩), iA 66, iA 2, .sc (.string ⟨#[107, 101, 101, 112]⟩), iA 2, iA 3, .sc (.string ⟨#[112, 114, 105, 110, 116]⟩), iA 130, iA 3, .sc (.string ⟨#[101, 120, 105, 116]⟩), iA 2, iA 3, .sc (.string ⟨#[99, 104, 101, 99, 107]⟩), iA 7, iA 1, .sc (.string ⟨#[100, 105, 118, 115]⟩), iA 7, iA 1, .sc (.string ⟨#[114, 101, 109, 115]⟩), iA 35, iA 2, .sc (.string ⟨#[108, 111, 97, 100, 115]⟩)]
theorem form_row : ∀ j : Nat, j < 25 → (formCells.drop (0 + j * 3)).take 3 = [iA (usesL.getD j 0), iA (classL.getD j 0), .sc (.string (nameL.getD j ⟨#[]⟩))]
  | 0, _ => rfl
  | 1, _ => rfl
  | 2, _ => rfl
  | 3, _ => rfl
  | 4, _ => rfl
  | 5, _ => rfl
  | 6, _ => rfl
  | 7, _ => rfl
  | 8, _ => rfl
  | 9, _ => rfl
  | 10, _ => rfl
  | 11, _ => rfl
  | 12, _ => rfl
  | 13, _ => rfl
  | 14, _ => rfl
  | 15, _ => rfl
  | 16, _ => rfl
  | 17, _ => rfl
  | 18, _ => rfl
  | 19, _ => rfl
  | 20, _ => rfl
  | 21, _ => rfl
  | 22, _ => rfl
  | 23, _ => rfl
  | 24, _ => rfl
  | j + 25, h => absurd h (by omega)
def usesK (k : Int) : Int := if oneK k then usesL.getD (k - 1).toNat 0 else 0
def classK (k : Int) : Int := if oneK k then classL.getD (k - 1).toNat 0 else 0
def nameK (k : Int) : ByteArray := if oneK k then nameL.getD (k - 1).toNat ⟨#[]⟩ else ⟨#[]⟩
def GlobAt (st : St) : Prop := BoxAt st 0 formCells
section
variable {X : Cx} {st : St}
theorem j_code_of (h : On X) (hg : GlobAt st) (k : Int) : J X.P X.F X.H (.call 55 [iA k] st (.ret (.tup [.agg [iA (usesK k), iA (classK k), .sc (.string (nameK k))], bA (oneK k)])) st) := by
  refine pure_intro (by rw [h.F]; rfl) rfl ?_
  simp only [v_code_of, kB, kC, cellsOf, fillA, partsEv, zeroes, Nat.reduceSub, Int.reduceToNat, Nat.reduceMul, asInt?, asNat?, Int.reduceAdd, Int.reduceLE, Int.reduceLT, Int.reduceNeg, Nat.reduceLeDiff, VOpd.ev, Nat.reduceEqDiff, Nat.reduceAdd, reduceIte, reduceCtorEq, splice, resOf, tupOf, cellsV, AV.toV, AV.cell?, cellVal]
  refine cutG (mS m0) [0, 2] (fun _ => oneK k = true) ?_ ?_
  · have hk : (decide (k < 1) || decide (25 < k)) = !oneK k := by
      unfold oneK
      by_cases h1 : k < 1 <;> by_cases h2 : 25 < k <;> simp [h1, h2] <;> omega
    by_cases ho : oneK k = true
    · have hk2 : decide (k < 1) = false ∧ decide (25 < k) = false := by
        rw [ho] at hk
        simpa using hk
      simp only [hk2.1, hk2.2, ho, kB, kC, cellsOf, fillA, partsEv, zeroes, Nat.reduceSub, Int.reduceToNat, Nat.reduceMul, asInt?, asNat?, Int.reduceAdd, Int.reduceLE, Int.reduceLT, Int.reduceNeg, Nat.reduceLeDiff, VOpd.ev, Nat.reduceEqDiff, Nat.reduceAdd, reduceIte, reduceCtorEq, splice, resOf, tupOf, cellsV, AV.toV, AV.cell?, cellVal]
    · have ho : oneK k = false := by simpa using ho
      unfold usesK classK nameK
      rw [ho] at hk
      simp only [ho]
      refine gO_f ?_ ?_ <;> intro hq <;> simp only [hq, kB, kC, cellsOf, fillA, partsEv, zeroes, Nat.reduceSub, Int.reduceToNat, Nat.reduceMul, asInt?, asNat?, Int.reduceAdd, Int.reduceLE, Int.reduceLT, Int.reduceNeg, Nat.reduceLeDiff, VOpd.ev, Nat.reduceEqDiff, Nat.reduceAdd, reduceIte, reduceCtorEq, splice, resOf, tupOf, cellsV, AV.toV, AV.cell?, cellVal]
      · first | exact ⟨_, rfl⟩ | exact ⟨rfl, _, rfl⟩ | exact ⟨trivial, _, rfl⟩ | exact ⟨[], (List.append_nil _).symm⟩
      · have h2 : decide (25 < k) = true := by
          rw [hq] at hk
          simpa using hk
        simp only [h2, kB, kC, cellsOf, fillA, partsEv, zeroes, Nat.reduceSub, Int.reduceToNat, Nat.reduceMul, asInt?, asNat?, Int.reduceAdd, Int.reduceLE, Int.reduceLT, Int.reduceNeg, Nat.reduceLeDiff, VOpd.ev, Nat.reduceEqDiff, Nat.reduceAdd, reduceIte, reduceCtorEq, splice, resOf, tupOf, cellsV, AV.toV, AV.cell?, cellVal]
        first | exact ⟨_, rfl⟩ | exact ⟨rfl, _, rfl⟩ | exact ⟨trivial, _, rfl⟩ | exact ⟨[], (List.append_nil _).symm⟩
  · intro e hL ho
    simp only [kB, kC, cellsOf, fillA, partsEv, zeroes, Nat.reduceSub, Int.reduceToNat, Nat.reduceMul, asInt?, asNat?, Int.reduceAdd, Int.reduceLE, Int.reduceLT, Int.reduceNeg, Nat.reduceLeDiff, VOpd.ev, Nat.reduceEqDiff, Nat.reduceAdd, reduceIte, reduceCtorEq, splice, resOf, tupOf, cellsV, AV.toV, AV.cell?, cellVal] at hL ⊢
    obtain ⟨h0, h2⟩ := hL
    have hk : 1 ≤ k ∧ k ≤ 25 := by
      unfold oneK at ho
      simp at ho
      exact ho
    have hr := form_row (k - 1).toNat (by omega)
    have hlen : formCells.length = 75 := rfl
    have xN := fun L => hg.atN L (0 + (k - 1).toNat * 3) 3 (by rw [hlen]; omega)
    rw [hr] at xN
    simp only [Nat.zero_add] at xN
    have hi1 : 0 ≤ k - 1 := by omega
    have hi2 : k - 1 < 25 := by omega
    unfold usesK classK nameK
    simp only [h0, h2, kB, kC, cellsOf, fillA, partsEv, zeroes, Nat.reduceSub, Int.reduceToNat, Nat.reduceMul, asInt?, asNat?, Int.reduceAdd, Int.reduceLE, Int.reduceLT, Int.reduceNeg, Nat.reduceLeDiff, VOpd.ev, Nat.reduceEqDiff, Nat.reduceAdd, reduceIte, reduceCtorEq, splice, resOf, tupOf, cellsV, AV.toV, AV.cell?, cellVal]
    rw [wrap_small (by omega) (by omega)]
    simp only [hi1, hi2, xN, h0, h2, ho, kB, kC, cellsOf, fillA, partsEv, zeroes, Nat.reduceSub, Int.reduceToNat, Nat.reduceMul, asInt?, asNat?, Int.reduceAdd, Int.reduceLE, Int.reduceLT, Int.reduceNeg, Nat.reduceLeDiff, VOpd.ev, Nat.reduceEqDiff, Nat.reduceAdd, reduceIte, reduceCtorEq, splice, resOf, tupOf, cellsV, AV.toV, AV.cell?, cellVal]
    first | exact ⟨_, rfl⟩ | exact ⟨rfl, _, rfl⟩ | exact ⟨trivial, _, rfl⟩ | exact ⟨[], (List.append_nil _).symm⟩
end
end Go.VX.Seat
end
section
set_option linter.unusedVariables false
set_option linter.unusedSimpArgs false
set_option maxRecDepth 4000
namespace Go.VX.Seat
open Go.Proofs
def andI (a b : Int) : Int := IntKind.i64.wrap ((BitVec.ofInt 64 a &&& BitVec.ofInt 64 b).toNat : Int)
theorem c_and (P : Program) (t : TypeId) (a b : Int) (ox oy : Operand) : closed P (do eqGuard .and t ox oy (.int .i64 a) (.int .i64 b); binOp .and t (.int .i64 a) (.int .i64 b)) = some (.int .i64 (andI a b)) := rfl
def bitsOk (k : Int) : Bool :=
  (decide (andI (usesK k) 1 ≠ 0) == hasDst k) && (decide (andI (usesK k) 2 ≠ 0) == hasA k) && (decide (andI (usesK k) 4 ≠ 0) == hasB k) && (decide (andI (usesK k) 8 ≠ 0) == hasC k) &&
  (decide (andI (usesK k) 32 ≠ 0) == arrK k) && (decide (andI (usesK k) 64 ≠ 0) == cellK k) && (decide (andI (usesK k) 128 ≠ 0) == decide (k = 21)) && (decide (andI (usesK k) 16 ≠ 0) == decide (k = 1))
theorem bits_all : ∀ j : Fin 25, bitsOk ((j.val : Int) + 1) = true := by decide +kernel
theorem bits {k : Int} (h : oneK k = true) : decide (andI (usesK k) 1 ≠ 0) = hasDst k ∧ decide (andI (usesK k) 2 ≠ 0) = hasA k ∧ decide (andI (usesK k) 4 ≠ 0) = hasB k ∧ decide (andI (usesK k) 8 ≠ 0) = hasC k ∧
    decide (andI (usesK k) 32 ≠ 0) = arrK k ∧ decide (andI (usesK k) 64 ≠ 0) = cellK k ∧ decide (andI (usesK k) 128 ≠ 0) = decide (k = 21) ∧ decide (andI (usesK k) 16 ≠ 0) = decide (k = 1) := by
  have hk : 1 ≤ k ∧ k ≤ 25 := by
    unfold oneK at h
    simp at h
    exact h
  have := bits_all ⟨(k - 1).toNat, by omega⟩
  simp only at this
  rw [show (((k - 1).toNat : Nat) : Int) + 1 = k by omega] at this
  unfold bitsOk at this
  simp only [Bool.and_eq_true, beq_iff_eq] at this
  obtain ⟨⟨⟨⟨⟨⟨⟨a1, a2⟩, a3⟩, a4⟩, a5⟩, a6⟩, a7⟩, a8⟩ := this
  exact ⟨a1, a2, a3, a4, a5, a6, a7, a8⟩
theorem dec_eq_zero (x : Int) : decide (x = 0) = !decide (x ≠ 0) := by by_cases h : x = 0 <;> simp [h]
theorem if_ne {b : Bool} {e : Int} (h : (if b = true then e else 0) ≠ 0) : b = true := by cases b <;> simp_all
theorem if_eq {b : Bool} {e : Int} (he : e ≠ 0) (h : (if b = true then e else 0) = 0) : b = false := by cases b <;> simp_all
section
variable {X : Cx} {st : St}
end
end Go.VX.Seat
end
section
set_option linter.unusedVariables false
set_option linter.unusedSimpArgs false
set_option maxRecDepth 4000
namespace Go.VX.Seat
open Go.Proofs
section
variable {X : Cx} {st : St}
theorem if_ne' {b : Bool} {e : Int} (h : (if b = true then 0 else e) ≠ 0) : b = false := by cases b <;> simp_all
theorem if_eq' {b : Bool} {e : Int} (he : e ≠ 0) (h : (if b = true then 0 else e) = 0) : b = true := by cases b <;> simp_all
end
end Go.VX.Seat
end
section
set_option linter.unusedVariables false
set_option linter.unusedSimpArgs false
set_option maxRecDepth 4000
namespace Go.VX.Seat
open Go.Proofs
def idxF (xs : List Int) : Int := if xs.any badSize then (xs.findIdx badSize : Int) else -1
section
variable {X : Cx} {st : St}
end
end Go.VX.Seat
end
section
set_option linter.unusedVariables false
set_option linter.unusedSimpArgs false
set_option maxRecDepth 4000
/-! The program's own checker: a whole unit. -/
namespace Go.VX.Seat
open Go.Proofs
theorem BoxAt.head (st : St) (cs : List AV) (v : Nat) (L : St) : BoxAt (st ++ (⟨cs, 0, v⟩ :: L)) (st.length + 0) cs := BoxAt.of (m := 0) (v := v) (by simp) (by decide)
theorem BoxAt.first (cs : List AV) (v : Nat) (L : St) : BoxAt (⟨cs, 0, v⟩ :: L) 0 cs := BoxAt.of (m := 0) (v := v) (by simp) (by decide)
theorem kept_loc {env : Env} {st M : St} {C C' : Box} {j o : Nat} {x : VOpd} (h : x.ev env = .ptr (st.length + (j + 1)) o) : keptA env (st ++ (C :: M)) (st ++ (C' :: M)) [x] = true := by
  unfold keptA
  simp only [List.all_cons, List.all_nil, Bool.and_true, h]
  rw [List.getElem?_append_right (by omega), List.getElem?_append_right (by omega), Nat.add_sub_cancel_left, List.getElem?_cons_succ, List.getElem?_cons_succ]
  cases M[j]? with
  | none => rfl
  | some b => simp
section
variable {X : Cx}
end
end Go.VX.Seat
end
section
set_option linter.unusedVariables false
set_option linter.unusedSimpArgs false
set_option maxRecDepth 4000
/-! Copies of lists. -/
namespace Go.VX.Seat
open Go.Proofs
/-- What may be appended to. -/
def AppOk (s : St) (w : AV) : Prop := ∀ b o n e full, w = .sl b o n e full → full = true ∨ ((s[b]?).map (·.mode)) = some 0
/-- A list in one's own memory. -/
structure OwnS (s : St) (lo : Nat) (w : AV) (esz : Nat) (rows : List (List AV)) : Prop where
  arr : ArrAt s lo s.length w esz rows
  bnd : ∀ b, boxOf w = some b → lo ≤ b ∧ b < s.length
  app : AppOk s w
/-- Its box holds its rows and no more. -/
def ExactBox (s : St) (w : AV) (esz : Nat) (rows : List (List AV)) : Prop := rows ≠ [] → ∃ b full ver, w = .sl b 0 rows.length esz full ∧ s[b]? = some ⟨rows.flatten, 0, ver⟩
/-- A list of one's own memory. -/
def NewArr (st s : St) (r : CRes) (esz : Nat) (rows : List (List AV)) : Prop := ∃ w m, r = .ret w ∧ s = st ++ m ∧ OwnS s st.length w esz rows ∧ ExactBox s w esz rows
theorem nil_or_sl {v : AV} {n : Nat} (h : lenA v = some n) : (v = .sc (.slice none 0 0) ∧ n = 0) ∨ ∃ b o e f, v = .sl b o n e f := by
  unfold lenA at h
  split at h
  · cases h; exact .inr ⟨_, _, _, _, rfl⟩
  · cases h; exact .inl ⟨rfl, rfl⟩
  · cases h
theorem emptyArr (st : St) (lo hi esz : Nat) : ArrAt st lo hi (.sc (.slice none 0 0)) esz [] where
  len := rfl
  size := fun b o len e f h => by cases h
  row := fun i h => absurd h (by simp)
theorem _root_.Go.VX.ArrAt.wide' {st : St} {lo hi lo' hi' : Nat} {v : AV} {esz : Nat} {rows : List (List AV)} (h : ArrAt st lo hi v esz rows) (h1 : lo' ≤ lo) (h2 : hi ≤ hi') : ArrAt st lo' hi' v esz rows where
  len := h.len
  size := h.size
  row := fun i hi => by
    obtain ⟨b, o, a1, a2, a3, a4⟩ := h.row i hi
    exact ⟨b, o, a1, by omega, by omega, a4⟩
theorem _root_.Go.VX.ArrAt.wide {st : St} {lo hi hi' : Nat} {v : AV} {esz : Nat} {rows : List (List AV)} (h : ArrAt st lo hi v esz rows) (h2 : hi ≤ hi') : ArrAt st lo hi' v esz rows := h.wide' (Nat.le_refl _) h2
theorem own_nil (s : St) (lo esz : Nat) : OwnS s lo (.sc (.slice none 0 0)) esz [] := ⟨emptyArr _ _ _ _, fun b h => (by cases h), fun b o n e full h => (by cases h)⟩
theorem own_empty {s : St} {b lo esz : Nat} {x : Box} (h : s[b]? = some x) (hm : x.mode < 2) (hl : lo ≤ b) : OwnS s lo (.sl b 0 0 esz true) esz [] where
  arr := { len := rfl
           size := fun b o len e full hv => by
             cases hv
             refine ⟨rfl, ?_⟩
             unfold St.atN
             simp [h, hm]
           row := fun i hi => absurd hi (by simp) }
  bnd := fun b hb => by cases hb; exact ⟨hl, (List.getElem?_eq_some_iff.1 h).1⟩
  app := fun b o n e full h => (by cases h; exact .inl rfl)
theorem new_nil (st : St) (esz : Nat) : NewArr st (st ++ []) (.ret (.sc (.slice none 0 0))) esz [] := ⟨_, [], rfl, rfl, own_nil _ _ _, fun h => absurd rfl h⟩
theorem new_empty (st : St) (esz ver : Nat) : NewArr st (st ++ [⟨[], 0, ver⟩]) (.ret (.sl st.length 0 0 esz true)) esz [] :=
  ⟨_, [⟨[], 0, ver⟩], rfl, rfl, ⟨(ArrAt.fresh st (esz := esz) (ver := ver) (rows := []) true (by simp) []).wide (by simp), fun b h => (by cases h; simp), fun b o n e full h => (by cases h; exact .inl rfl)⟩, fun h => absurd rfl h⟩
theorem new_some (st : St) {esz ver : Nat} (M : St) {rows : List (List AV)} (h : ∀ r ∈ rows, r.length = esz) : NewArr st (st ++ (M ++ [⟨rows.flatten, 0, ver⟩])) (.ret (.sl (st.length + M.length) 0 rows.length esz false)) esz rows := by
  have hb : (st ++ (M ++ [⟨rows.flatten, 0, ver⟩]))[st.length + M.length]? = some ⟨rows.flatten, 0, ver⟩ := by
    rw [← List.append_assoc, List.getElem?_append_right (by simp)]; simp
  refine ⟨_, M ++ [⟨rows.flatten, 0, ver⟩], rfl, rfl, ⟨(ArrAt.ofBox hb (by decide) h rfl).wide' (by omega) (by simp; omega), fun b h => (by cases h; simp), fun b o n e full h => (by cases h; exact .inr (by rw [hb]; rfl))⟩, fun _ => ⟨_, _, _, rfl, hb⟩⟩
section
variable {X : Cx} {st : St}
end
end Go.VX.Seat
end
section
set_option linter.unusedVariables false
set_option linter.unusedSimpArgs false
set_option maxRecDepth 4000
/-! The next block along a way. -/
namespace Go.VX.Seat
open Go.Proofs
def wayTo (k way : Int) : Bool := (decide (way = 0) && decide (k = 1)) || (decide (way = 1) && decide (k = 2))
def wayElse (k way : Int) : Bool := decide (way = 2) && decide (k = 2)
section
variable {X : Cx} {st : St}
end
end Go.VX.Seat
end
section
set_option linter.unusedVariables false
set_option linter.unusedSimpArgs false
set_option maxRecDepth 4000
namespace Go.VX.Seat
open Go.Proofs
/-- Where an End goes along a way. -/
def toOf (e : EndV) (way : Int) : Int := if wayTo e.k way then e.t else if wayElse e.k way then e.e else 0
def isWay (e : EndV) (way : Int) : Bool := wayTo e.k way || wayElse e.k way
section
variable {X : Cx} {st : St}
end
end Go.VX.Seat
end
section
set_option linter.unusedVariables false
set_option linter.unusedSimpArgs false
set_option maxRecDepth 4000
namespace Go.VX.Seat
open Go.Proofs
section
variable {X : Cx} {st : St}
end
end Go.VX.Seat
end
section
set_option linter.unusedVariables false
set_option linter.unusedSimpArgs false
set_option maxRecDepth 4000
namespace Go.VX.Seat
open Go.Proofs
def thereU (U : UnitV) (right : Bool) (b : Int) : Int := if decide (chkU U ≠ 0) then chkU U else if !right || decide (b < 0) || decide ((U.blocks.length : Int) ≤ b) then 2 else 0
section
variable {X : Cx} {st : St}
end
end Go.VX.Seat
end
section
set_option linter.unusedVariables false
set_option linter.unusedSimpArgs false
set_option maxRecDepth 4000
/-! Units of one's own memory. -/
namespace Go.VX.Seat
open Go.Proofs
theorem OwnS.agree {X : Nat → Prop} {s s' : St} {lo esz : Nat} {w : AV} {rows : List (List AV)} (h : OwnS s lo w esz rows) (ha : Agree X s s') (hx : ∀ b, boxOf w = some b → ¬ X b) : OwnS s' lo w esz rows where
  arr := (h.arr.agree ha hx).wide ha.len
  bnd := fun b hb => ⟨(h.bnd b hb).1, Nat.lt_of_lt_of_le (h.bnd b hb).2 ha.len⟩
  app := fun b o n e full hw => by
    have hb : boxOf w = some b := by rw [hw]; rfl
    rcases h.app b o n e full hw with h1 | h1
    · exact .inl h1
    · exact .inr (by rw [ha.eq b (h.bnd b hb).2 (hx b hb)]; exact h1)
theorem OwnS.low {s : St} {lo lo' esz : Nat} {w : AV} {rows : List (List AV)} (h : OwnS s lo w esz rows) (hl : lo' ≤ lo) : OwnS s lo' w esz rows where
  arr := h.arr.wide' hl (Nat.le_refl _)
  bnd := fun b hb => ⟨Nat.le_trans hl (h.bnd b hb).1, (h.bnd b hb).2⟩
  app := h.app
theorem ExactBox.agree {X : Nat → Prop} {s s' : St} {esz : Nat} {w : AV} {rows : List (List AV)} (h : ExactBox s w esz rows) (ha : Agree X s s') (hx : ∀ b, boxOf w = some b → ¬ X b) : ExactBox s' w esz rows := fun hne => by
  obtain ⟨b, full, ver, rfl, hb⟩ := h hne
  exact ⟨b, full, ver, rfl, by rw [ha.eq b (List.getElem?_eq_some_iff.1 hb).1 (hx b rfl)]; exact hb⟩
def blkRows (l : List BlkV) (f : Nat → AV) : List (List AV) := l.mapIdx fun i b => b.row (f i)
theorem blkRows_length (l : List BlkV) (f : Nat → AV) : (blkRows l f).length = l.length := by simp [blkRows]
/-- Blocks in one's own memory. -/
structure OwnB (s : St) (lo : Nat) (bl : AV) (f : Nat → AV) (l : List BlkV) : Prop where
  own : OwnS s lo bl 6 (blkRows l f)
  box : ExactBox s bl 6 (blkRows l f)
  ops : ∀ i (h : i < l.length), OwnS s lo (f i) 7 (l[i].ops.map OpV.row)
  sep1 : ∀ i, i < l.length → ∀ b, boxOf bl = some b → boxOf (f i) ≠ some b
  sep2 : ∀ i j, i < l.length → j < l.length → i ≠ j → ∀ b, boxOf (f i) = some b → boxOf (f j) ≠ some b
structure OwnZ (s : St) (lo : Nat) (sz bl : AV) (f : Nat → AV) (zs : List Int) (l : List BlkV) : Prop where
  own : OwnS s lo sz 1 (zs.map fun n => [iA n])
  sep : ∀ b, boxOf sz = some b → boxOf bl ≠ some b ∧ ∀ i, i < l.length → boxOf (f i) ≠ some b
/-- A unit in one's own memory. -/
structure OwnU (s : St) (lo : Nat) (v : AV) (U : UnitV) : Prop where
  ex : ∃ sz bl f, v = .agg [sz, iA U.params, iA U.regs, iA U.code, iA U.spill, bl] ∧ OwnZ s lo sz bl f U.sizes U.blocks ∧ OwnB s lo bl f U.blocks
theorem OwnB.agree {X : Nat → Prop} {s s' : St} {lo : Nat} {bl : AV} {f : Nat → AV} {l : List BlkV} (h : OwnB s lo bl f l) (ha : Agree X s s') (hx : ∀ b, lo ≤ b → b < s.length → ¬ X b) : OwnB s' lo bl f l where
  own := h.own.agree ha fun b hb => hx b (h.own.bnd b hb).1 (h.own.bnd b hb).2
  box := h.box.agree ha fun b hb => hx b (h.own.bnd b hb).1 (h.own.bnd b hb).2
  ops := fun i hi => (h.ops i hi).agree ha fun b hb => hx b ((h.ops i hi).bnd b hb).1 ((h.ops i hi).bnd b hb).2
  sep1 := h.sep1
  sep2 := h.sep2
theorem OwnZ.agree {X : Nat → Prop} {s s' : St} {lo : Nat} {sz bl : AV} {f : Nat → AV} {zs : List Int} {l : List BlkV} (h : OwnZ s lo sz bl f zs l) (ha : Agree X s s') (hx : ∀ b, lo ≤ b → b < s.length → ¬ X b) : OwnZ s' lo sz bl f zs l where
  own := h.own.agree ha fun b hb => hx b (h.own.bnd b hb).1 (h.own.bnd b hb).2
  sep := h.sep
theorem OwnU.agree {X : Nat → Prop} {s s' : St} {lo : Nat} {v : AV} {U : UnitV} (h : OwnU s lo v U) (ha : Agree X s s') (hx : ∀ b, lo ≤ b → b < s.length → ¬ X b) : OwnU s' lo v U :=
  let ⟨sz, bl, f, e, hz, hb⟩ := h.ex
  ⟨sz, bl, f, e, hz.agree ha hx, hb.agree ha hx⟩
theorem OwnB.blks {s : St} {lo : Nat} {bl : AV} {f : Nat → AV} {l : List BlkV} (h : OwnB s lo bl f l) : BlksAt s lo s.length bl l := ⟨f, h.own.arr, fun i hi => (h.ops i hi).arr⟩
theorem OwnU.unit {s : St} {lo : Nat} {v : AV} {U : UnitV} (h : OwnU s lo v U) : UnitAt s lo s.length v U :=
  let ⟨sz, bl, f, e, hz, hb⟩ := h.ex
  ⟨sz, bl, e, hz.own.arr, hb.blks⟩
theorem blkRows_snoc (l : List BlkV) (f : Nat → AV) (b : BlkV) (w : AV) : blkRows (l ++ [b]) (fun j => if j = l.length then w else f j) = blkRows l f ++ [b.row w] := by
  unfold blkRows
  apply List.ext_getElem
  · simp
  · intro i h1 h2
    simp only [List.getElem_mapIdx]
    by_cases hi : i < l.length
    · rw [List.getElem_append_left hi, List.getElem_append_left (by simpa using hi), List.getElem_mapIdx, if_neg (by omega)]
    · simp at h1
      have : i = l.length := by omega
      subst this
      simp
theorem OwnB.snoc {X : Nat → Prop} {s s3 : St} {lo : Nat} {bl bl' w : AV} {f : Nat → AV} {l : List BlkV} {b : BlkV} (hB : OwnB s lo bl f l) (ha : Agree X s s3) (hX : ∀ n, n < s.length → X n → boxOf bl = some n) (hw : OwnS s3 lo w 7 (b.ops.map OpV.row)) (hwn : ∀ n, boxOf w = some n → s.length ≤ n)
    (hown : OwnS s3 lo bl' 6 (blkRows l f ++ [b.row w])) (hex : ExactBox s3 bl' 6 (blkRows l f ++ [b.row w])) (hbl : ∀ n, boxOf bl' = some n → s.length ≤ n ∧ boxOf w ≠ some n) : OwnB s3 lo bl' (fun j => if j = l.length then w else f j) (l ++ [b]) where
  own := by rw [blkRows_snoc]; exact hown
  box := by rw [blkRows_snoc]; exact hex
  ops := fun i hi => by
    by_cases h : i < l.length
    · simp only [List.getElem_append_left h]
      rw [if_neg (by omega)]
      exact (hB.ops i h).agree ha fun n hn hx => hB.sep1 i h n (hX n ((hB.ops i h).bnd n hn).2 hx) hn
    · simp at hi
      have : i = l.length := by omega
      subst this
      simpa using hw
  sep1 := fun i hi n hn => by
    have h1 := hbl n hn
    by_cases h : i < l.length
    · rw [if_neg (by omega)]
      intro h2
      have := ((hB.ops i h).bnd n h2).2
      omega
    · simp at hi
      rw [if_pos (by omega)]
      exact h1.2
  sep2 := fun i j hi hj hij n hn => by
    simp at hi hj
    by_cases h : i < l.length <;> by_cases h' : j < l.length
    · rw [if_neg (by omega)] at hn ⊢
      exact hB.sep2 i j h h' hij n hn
    · rw [if_neg (by omega)] at hn
      rw [if_pos (by omega)]
      intro h2
      have := ((hB.ops i h).bnd n hn).2
      have := hwn n h2
      omega
    · rw [if_pos (by omega)] at hn
      rw [if_neg (by omega)]
      intro h2
      have := ((hB.ops j h').bnd n h2).2
      have := hwn n hn
      omega
    · omega
theorem OwnZ.snoc {X : Nat → Prop} {s s3 : St} {lo : Nat} {sz bl bl' w : AV} {f : Nat → AV} {zs : List Int} {l : List BlkV} {b : BlkV} (hZ : OwnZ s lo sz bl f zs l) (ha : Agree X s s3) (hX : ∀ n, n < s.length → X n → boxOf bl = some n) (hwn : ∀ n, boxOf w = some n → s.length ≤ n) (hbl : ∀ n, boxOf bl' = some n → s.length ≤ n) :
    OwnZ s3 lo sz bl' (fun j => if j = l.length then w else f j) zs (l ++ [b]) where
  own := hZ.own.agree ha fun n hn hx => (hZ.sep n hn).1 (hX n (hZ.own.bnd n hn).2 hx)
  sep := fun n hn => by
    have h0 := (hZ.own.bnd n hn).2
    refine ⟨fun h => by have := hbl n h; omega, fun i hi h => ?_⟩
    simp at hi
    by_cases h' : i < l.length
    · rw [if_neg (by omega)] at h
      exact (hZ.sep n hn).2 i h' h
    · rw [if_pos (by omega)] at h
      have := hwn n h
      omega
theorem OwnB.low {s : St} {lo lo' : Nat} {bl : AV} {f : Nat → AV} {l : List BlkV} (h : OwnB s lo bl f l) (hl : lo' ≤ lo) : OwnB s lo' bl f l :=
  ⟨h.own.low hl, h.box, fun i hi => (h.ops i hi).low hl, h.sep1, h.sep2⟩
theorem OwnZ.low {s : St} {lo lo' : Nat} {sz bl : AV} {f : Nat → AV} {zs : List Int} {l : List BlkV} (h : OwnZ s lo sz bl f zs l) (hl : lo' ≤ lo) : OwnZ s lo' sz bl f zs l := ⟨h.own.low hl, h.sep⟩
theorem OwnU.low {s : St} {lo lo' : Nat} {v : AV} {U : UnitV} (h : OwnU s lo v U) (hl : lo' ≤ lo) : OwnU s lo' v U :=
  let ⟨sz, bl, f, e, hz, hb⟩ := h.ex
  ⟨sz, bl, f, e, hz.low hl, hb.low hl⟩
/-! ### Appending -/
theorem srcCells_arr {s : St} {lo hi esz : Nat} {v : AV} {rows : List (List AV)} (h : ArrAt s lo hi v esz rows) : srcCells s esz rows.length v = some rows.flatten := by
  by_cases hr : rows = []
  · subst hr
    have hl := h.len
    rcases nil_or_sl hl with ⟨rfl, _⟩ | ⟨b, o, e, f, rfl⟩
    · rfl
    · obtain ⟨h1, h2⟩ := h.size _ _ _ _ _ rfl
      subst h1
      simp only [srcCells, List.length_nil, Nat.le_refl, true_and, if_true, Nat.zero_mul, h2, List.flatten_nil]
  · exact h.src hr
theorem append_own {P : Program} {env : Env} {s : St} {lo lo' hi' esz bytes : Nat} {x y : VOpd} {rows rows2 : List (List AV)} (hx : OwnS s lo (x.ev env) esz rows) (hlo : lo ≤ s.length) (hy : ArrAt s lo' hi' (y.ev env) esz rows2)
    (hsz : (rows.length + rows2.length) * (bytes + 1) ≤ 1000000000) (hc : rows2.flatten.all AV.isCell = true) :
    ∃ w s', vop P (.append esz bytes x y) env s = some (.val w, s') ∧ Agree (fun b => rows2 ≠ [] ∧ boxOf (x.ev env) = some b) s s' ∧ OwnS s' lo w esz (rows ++ rows2) ∧
      ((rows2 = [] ∧ w = x.ev env ∧ s' = s) ∨ (rows2 ≠ [] ∧ boxOf w = some s.length ∧ ExactBox s' w esz (rows ++ rows2))) := by
  have l1 := hx.arr.len
  have l2 := hy.len
  have q1 := srcLen_len l1
  have q2 := srcLen_len l2
  have q3 := srcCells_arr hx.arr
  have q4 := srcCells_arr hy
  have hrl : ∀ r ∈ rows ++ rows2, r.length = esz := fun r hr => by
    rcases List.mem_append.1 hr with hr | hr
    · exact hx.arr.rowlen r hr
    · exact hy.rowlen r hr
  have key : ∀ (s1 : St) (X : Nat → Prop), s1.length = s.length → Agree X s s1 → (∀ b, X b → boxOf (x.ev env) = some b) → rows2 ≠ [] → vop P (.append esz bytes x y) env s = some (.val (.sl s.length 0 (rows.length + rows2.length) esz false), s1 ++ [⟨rows.flatten ++ rows2.flatten, 0, 0⟩]) →
      ∃ w s', vop P (.append esz bytes x y) env s = some (.val w, s') ∧ Agree (fun b => rows2 ≠ [] ∧ boxOf (x.ev env) = some b) s s' ∧ OwnS s' lo w esz (rows ++ rows2) ∧
      ((rows2 = [] ∧ w = x.ev env ∧ s' = s) ∨ (rows2 ≠ [] ∧ boxOf w = some s.length ∧ ExactBox s' w esz (rows ++ rows2))) := by
    intro s1 X hl1 ha hX hne hv
    have hb : (s1 ++ [⟨rows.flatten ++ rows2.flatten, 0, 0⟩])[s.length]? = some ⟨(rows ++ rows2).flatten, 0, 0⟩ := by
      rw [List.getElem?_append_right (by omega), hl1]; simp
    refine ⟨_, _, hv, ?_, ⟨(ArrAt.ofBox hb (by decide) hrl (by simp)).wide' hlo (by simp [hl1]), fun b h => ?_, fun b o n e full h => ?_⟩, .inr ⟨hne, rfl, fun _ => ⟨_, _, _, by rw [List.length_append], hb⟩⟩⟩
    · have := ha.trans (Agree.app (fun _ => False) s1 [⟨rows.flatten ++ rows2.flatten, 0, 0⟩])
      exact this.mono fun n _ h => by
        rcases h with h | h
        · exact ⟨hne, hX n h⟩
        · exact h.elim
    · cases h
      simp [hl1]
      exact hlo
    · cases h
      exact .inr (by rw [hb]; rfl)
  rcases nil_or_sl l1 with ⟨he, h0⟩ | ⟨b, o, e, f, he⟩
  · have hr : rows = [] := List.length_eq_zero_iff.1 h0
    subst hr
    by_cases hne : rows2 = []
    · subst hne
      refine ⟨_, s, ?_, Agree.refl _ _, by simpa using hx, .inl ⟨rfl, rfl, rfl⟩⟩
      simp only [List.length_nil] at q1 q2 q3 q4
      rw [he] at q1 q3 ⊢
      simp only [vop, he, q1, q2, q3, q4]
      rw [if_pos (by simp)]
      rfl
    · refine key s (fun _ => False) rfl (Agree.refl _ _) (fun _ h => h.elim) hne ?_
      have hm : rows2.length ≠ 0 := fun h => hne (List.length_eq_zero_iff.1 h)
      simp only [List.length_nil] at q1 q3 hsz
      rw [he] at q1 q3
      simp only [vop, he, q1, q2, q3, q4]
      rw [if_pos (by simpa using hsz)]
      simp only [hm, if_false, List.length_nil, List.flatten_nil, List.nil_append]
  · have h1 := (hx.arr.size _ _ _ _ _ he).1
    subst h1
    by_cases hne : rows2 = []
    · subst hne
      refine ⟨_, s, ?_, Agree.refl _ _, by simpa using hx, .inl ⟨rfl, rfl, rfl⟩⟩
      simp only [List.length_nil] at q2 q4
      rw [he] at q1 q3 ⊢
      simp only [vop, he, q1, q2, q3, q4]
      rw [if_pos (by simpa using hsz)]
      rfl
    · have hm : rows2.length ≠ 0 := fun h => hne (List.length_eq_zero_iff.1 h)
      rw [he] at q1 q3
      cases f with
      | true =>
        refine key s (fun _ => False) rfl (Agree.refl _ _) (fun _ h => h.elim) hne ?_
        simp only [vop, he, q1, q2, q3, q4]
        rw [if_pos hsz]
        simp only [hm, if_false, if_true]
      | false =>
        have hm0 : ((s[b]?).map (·.mode)) = some 0 := by
          rcases hx.app _ _ _ _ _ he with h | h
          · cases h
          · exact h
        refine key (s.kill b) (fun n => n = b) ?_ (Agree.kill s b) (fun n hn => by rw [he, hn]; rfl) hne ?_
        · unfold St.kill
          split <;> simp
        · simp only [vop, he, q1, q2, q3, q4]
          rw [if_pos hsz]
          simp only [hm, if_false, Bool.false_eq_true]
          rw [if_pos ⟨hm0, hc⟩]
/-- An appending, with all behind it. -/
theorem opR_append {X : Cx} {K : Env → St → Post3 → Prop} {Q : Post3} {d : Option Nat} {k : List VOpd} {env : Env} {s : St} {lo lo' hi' esz bytes : Nat} {x y : VOpd} {rows rows2 : List (List AV)} {vx vy : AV} (ex : x.ev env = vx) (ey : y.ev env = vy) (hx : OwnS s lo vx esz rows) (hlo : lo ≤ s.length) (hy : ArrAt s lo' hi' vy esz rows2)
    (hsz : (rows.length + rows2.length) * (bytes + 1) ≤ 1000000000) (hc : rows2.flatten.all AV.isCell = true)
    (h : ∀ w s', Agree (fun b => rows2 ≠ [] ∧ boxOf vx = some b) s s' → OwnS s' lo w esz (rows ++ rows2) → ((rows2 = [] ∧ w = vx ∧ s' = s) ∨ (rows2 ≠ [] ∧ boxOf w = some s.length ∧ ExactBox s' w esz (rows ++ rows2))) →
      keptA env s s' k = true ∧ K (env.put d w) s' Q) : opR X K d k env s Q (vop X.P (.append esz bytes x y) env s) := by
  subst ex; subst ey
  obtain ⟨w, s', hv, h1, h2, h3⟩ := append_own (P := X.P) hx hlo hy hsz hc
  rw [hv]
  exact h w s' h1 h2 h3
/-- The head of a slice, with all behind it. -/
theorem opR_pre {X : Cx} {K : Env → St → Post3 → Prop} {Q : Post3} {d : Option Nat} {k : List VOpd} {env : Env} {s : St} {lo hi esz n : Nat} {x y : VOpd} {rows : List (List AV)} {vx : AV} (ex : x.ev env = vx) (ey : asNat? (y.ev env) = some n) (hx : ArrAt s lo hi vx esz rows) (hn : n ≤ rows.length)
    (h : ∀ w, ArrAt s lo hi w esz (rows.take n) → keptA env s s k = true ∧ K (env.put d w) s Q) : opR X K d k env s Q (vop X.P (.slice none esz x none (some y) none) env s) := by
  subst ex
  obtain ⟨w, hw, ha⟩ := hx.pre n hn
  rw [v_slice_pre X.P env s esz x y n ey, hw]
  exact h w ha
theorem wpF_go {X : Cx} {st : St} {f : FuncId} {fn : VFun} {args : List AV} {R : CRes → St → Prop} (hF : X.F f = some fn) (h : xC X fn.body (envOf args) (st ++ []) (bodK fn.res R)) : wpF X f args st R := by
  rw [List.append_nil] at h
  exact wpF_intro hF h
/-- A new unit. -/
def NewU (st s : St) (r : CRes) (U : UnitV) : Prop := ∃ w, r = .ret w ∧ (∃ m, s = st ++ m) ∧ OwnU s st.length w U
theorem opRow_cells (l : List OpV) : (l.map OpV.row).flatten.all AV.isCell = true := by
  induction l with
  | nil => rfl
  | cons o l ih =>
    simp only [List.map_cons, List.flatten_cons, List.all_append, ih, Bool.and_true]
    rfl
theorem intRow_cells (l : List Int) : (l.map fun n => [iA n]).flatten.all AV.isCell = true := by
  induction l with
  | nil => rfl
  | cons o l ih =>
    simp only [List.map_cons, List.flatten_cons, List.all_append, ih, Bool.and_true]
    rfl
end Go.VX.Seat
end
section
set_option linter.unusedVariables false
set_option linter.unusedSimpArgs false
set_option maxRecDepth 4000
/-! Rows that are written; copies of units. -/
namespace Go.VX.Seat
open Go.Proofs
theorem kept_app (env : Env) (st m : St) (l : List VOpd) : keptA env st (st ++ m) l = true := by
  unfold keptA
  rw [List.all_eq_true]
  intro x _
  split
  · rename_i b o hb
    split
    · rename_i p hp
      rw [List.getElem?_append_left (List.getElem?_eq_some_iff.1 hp).1, hp]
      simp
    · rfl
  · rfl
/-- A call that hands back new memory. -/
theorem callO_new {X : Cx} {env : Env} {st : St} {Q : Post3} {K : Env → St → Post3 → Prop} {f : FuncId} {args : List AV} {dst : Option Nat} {keep : List VOpd} {esz : Nat} {rows : List (List AV)} (hw : wpF X f args st fun r s => NewArr st s r esz rows)
    (h : ∀ w m, OwnS (st ++ m) st.length w esz rows → ExactBox (st ++ m) w esz rows → K (env.put dst w) (st ++ m) Q) : callO X f args dst keep K env st Q := by
  refine wpF.mono hw ?_
  rintro r s ⟨w, m, rfl, rfl, h1, h2⟩
  exact ⟨kept_app _ _ _ _, h w m h1 h2⟩
theorem callO_newU {X : Cx} {env : Env} {st : St} {Q : Post3} {K : Env → St → Post3 → Prop} {f : FuncId} {args : List AV} {dst : Option Nat} {keep : List VOpd} {U : UnitV} (hw : wpF X f args st fun r s => NewU st s r U)
    (h : ∀ w m, OwnU (st ++ m) st.length w U → K (env.put dst w) (st ++ m) Q) : callO X f args dst keep K env st Q := by
  refine wpF.mono hw ?_
  rintro r s ⟨w, rfl, ⟨m, rfl⟩, h1⟩
  exact ⟨kept_app _ _ _ _, h w m h1⟩
/-- One row of one's own list is written. -/
theorem own_setrow {s : St} {lo esz : Nat} {v : AV} {rows : List (List AV)} (hown : OwnS s lo v esz rows) (hex : ExactBox s v esz rows) (i : Nat) (hi : i < rows.length) (k : Nat) (vs : List AV) (hk : k + vs.length ≤ esz) (hc : vs.all AV.isCell = true) :
    ∃ bb s', boxOf v = some bb ∧ elemA v esz (i : Int) = some (.ptr bb (i * esz)) ∧ s.put bb (i * esz + k) vs = some s' ∧ Agree (fun n => n = bb) s s' ∧ OwnS s' lo v esz (rows.set i (splice rows[i] k vs)) ∧ ExactBox s' v esz (rows.set i (splice rows[i] k vs)) := by
  have hrl := hown.arr.rowlen
  obtain ⟨bb, full, ver, rfl, hb⟩ := hex (fun h => by rw [h] at hi; simp at hi)
  have hf := flatten_row hrl i hi
  have hput := put_box (o := i * esz + k) (vs := vs) hb (by omega) hc
  rw [flatten_set hrl i k hi vs hk] at hput
  have hlt := (List.getElem?_eq_some_iff.1 hb).1
  have hb2 : (s.set bb ⟨(rows.set i (splice rows[i] k vs)).flatten, 0, ver + 1⟩)[bb]? = some ⟨(rows.set i (splice rows[i] k vs)).flatten, 0, ver + 1⟩ := by
    rw [List.getElem?_set_self hlt]
  have hrl2 : ∀ r ∈ rows.set i (splice rows[i] k vs), r.length = esz := fun r hr => by
    rcases List.mem_or_eq_of_mem_set hr with h | h
    · exact hrl r h
    · rw [h, splice_length _ _ _ (by rw [hrl _ (List.getElem_mem hi)]; exact hk)]
      exact hrl _ (List.getElem_mem hi)
  refine ⟨bb, _, rfl, ?_, hput, Agree.set _ _ _, ⟨?_, fun b h => ?_, fun b o n e f h => ?_⟩, fun _ => ⟨bb, full, ver + 1, by rw [List.length_set], hb2⟩⟩
  · simp only [elemA, Int.toNat_natCast]
    rw [if_pos ⟨by omega, by omega, trivial⟩, Nat.zero_add]
  · have h1 := hown.bnd bb rfl
    exact (ArrAt.ofBox hb2 (by decide) hrl2 (by rw [List.length_set])).wide' h1.1 (by simp; exact h1.2)
  · have := hown.bnd b h
    simpa using this
  · cases h
    exact .inr (by rw [hb2]; rfl)
theorem blkRows_set (l : List BlkV) (g : Nat → AV) (i : Nat) (b : BlkV) (w : AV) : (blkRows l g).set i (b.row w) = blkRows (l.set i b) (fun j => if j = i then w else g j) := by
  unfold blkRows
  apply List.ext_getElem
  · simp
  · intro j h1 h2
    simp only [List.getElem_mapIdx, List.getElem_set]
    by_cases hj : i = j
    · subst hj; simp
    · rw [if_neg hj, if_neg hj, if_neg (fun e => hj e.symm)]
theorem blkRows_get (l : List BlkV) (g : Nat → AV) (i : Nat) (hi : i < l.length) : (blkRows l g)[i]'(by simpa [blkRows] using hi) = l[i].row (g i) := by simp [blkRows]
theorem blkRows_congr {l : List BlkV} {f g : Nat → AV} (h : ∀ j, j < l.length → f j = g j) : blkRows l f = blkRows l g := by
  unfold blkRows
  apply List.ext_getElem
  · simp
  · intro j h1 h2
    simp only [List.getElem_mapIdx]
    rw [h j (by simpa using h1)]
/-- The operations of a block are laid anew. -/
theorem own_setops {s : St} {lo : Nat} {v w : AV} {l : List BlkV} {g : Nat → AV} (hown : OwnS s lo v 6 (blkRows l g)) (hex : ExactBox s v 6 (blkRows l g)) (i : Nat) (hi : i < l.length) (ops : List OpV) (hc : w.isCell = true) :
    ∃ bb s', boxOf v = some bb ∧ elemA v 6 (i : Int) = some (.ptr bb (i * 6)) ∧ s.put bb (i * 6 + 0) [w] = some s' ∧ Agree (fun n => n = bb) s s' ∧ OwnS s' lo v 6 (blkRows (l.set i { l[i] with ops := ops }) (fun j => if j = i then w else g j)) ∧ ExactBox s' v 6 (blkRows (l.set i { l[i] with ops := ops }) (fun j => if j = i then w else g j)) := by
  have := own_setrow hown hex i (by rw [blkRows_length]; exact hi) 0 [w] (by simp) (by simp [hc])
  rw [blkRows_get l g i hi] at this
  rw [← blkRows_set]
  exact this
/-- The End of a block is laid anew. -/
theorem own_setend {s : St} {lo : Nat} {v : AV} {l : List BlkV} {g : Nat → AV} (hown : OwnS s lo v 6 (blkRows l g)) (hex : ExactBox s v 6 (blkRows l g)) (i : Nat) (hi : i < l.length) (e : EndV) :
    ∃ bb s', boxOf v = some bb ∧ elemA v 6 (i : Int) = some (.ptr bb (i * 6)) ∧ s.put bb (i * 6 + 1) [iA e.k, iA e.a, iA e.t, iA e.e] = some s' ∧ Agree (fun n => n = bb) s s' ∧ OwnS s' lo v 6 (blkRows (l.set i { l[i] with e := e }) g) ∧ ExactBox s' v 6 (blkRows (l.set i { l[i] with e := e }) g) := by
  have := own_setrow hown hex i (by rw [blkRows_length]; exact hi) 1 [iA e.k, iA e.a, iA e.t, iA e.e] (by simp) rfl
  rw [blkRows_get l g i hi] at this
  have he : blkRows (l.set i { l[i] with e := e }) g = (blkRows l g).set i (splice (l[i].row (g i)) 1 [iA e.k, iA e.a, iA e.t, iA e.e]) := by
    rw [show splice (l[i].row (g i)) 1 [iA e.k, iA e.a, iA e.t, iA e.e] = ({ l[i] with e := e } : BlkV).row (g i) from rfl, blkRows_set]
    exact blkRows_congr fun j _ => by
      by_cases h : j = i
      · subst h; simp
      · simp [h]
  rw [he]
  exact this
section
variable {X : Cx} {st : St}
end
end Go.VX.Seat
end
section
set_option linter.unusedVariables false
set_option linter.unusedSimpArgs false
set_option maxRecDepth 4000
/-! Cut: a copy that is not large. -/
namespace Go.VX.Seat
open Go.Proofs
def cutB : List BlkV → Nat → Int → List BlkV
  | [], _, _ => []
  | _ :: _, 0, _ => []
  | b :: r, n + 1, k => { b with ops := b.ops.take k.toNat } :: cutB r n (k - (b.ops.take k.toNat).length)
def cutU (U : UnitV) (n : Nat) (k : Int) : UnitV := { U with sizes := U.sizes.take 17, blocks := cutB U.blocks n k }
section
variable {X : Cx} {st : St}
end
end Go.VX.Seat
end
section
set_option linter.unusedVariables false
set_option linter.unusedSimpArgs false
/-! Closed calls: a run with fuel. -/
namespace Go.VX
/-! ### Slots in a tree -/
inductive Tr where
  | lf
  | nd (l : Tr) (v : AV) (r : Tr)
  deriving Inhabited
def Tr.get : Tr → Nat → AV
  | .lf, _ => undefA
  | .nd l v r, n => bif Nat.beq n 0 then v else bif Nat.beq (n % 2) 1 then l.get (n / 2) else r.get (n / 2 - 1)
def Tr.put : Nat → Tr → Nat → AV → Tr
  | 0, t, _, _ => t
  | d + 1, .lf, n, v => bif Nat.beq n 0 then .nd .lf v .lf else bif Nat.beq (n % 2) 1 then .nd (Tr.put d .lf (n / 2) v) undefA .lf else .nd .lf undefA (Tr.put d .lf (n / 2 - 1) v)
  | d + 1, .nd l x r, n, v => bif Nat.beq n 0 then .nd l v r else bif Nat.beq (n % 2) 1 then .nd (l.put d (n / 2) v) x r else .nd l x (r.put d (n / 2 - 1) v)
theorem Tr.get_put : ∀ (d : Nat) (t : Tr) (n : Nat) (v : AV) (m : Nat), n + 1 < 2 ^ d → (Tr.put d t n v).get m = if m = n then v else t.get m
  | 0, t, n, v, m, h => by simp at h
  | d + 1, .lf, n, v, m, h => by
    have hp : 2 ^ (d + 1) = 2 * 2 ^ d := by rw [Nat.pow_succ]; omega
    unfold Tr.put
    by_cases h0 : n = 0
    · subst h0
      have : Nat.beq 0 0 = true := rfl
      simp only [this, cond_true, Tr.get]
      by_cases hm : m = 0
      · subst hm; simp
      · have : Nat.beq m 0 = false := by cases hb : Nat.beq m 0 with | false => rfl | true => exact absurd (Nat.eq_of_beq_eq_true hb) hm
        simp [this, hm]
    · have hb0 : Nat.beq n 0 = false := by cases hb : Nat.beq n 0 with | false => rfl | true => exact absurd (Nat.eq_of_beq_eq_true hb) h0
      simp only [hb0, cond_false]
      cases hb1 : Nat.beq (n % 2) 1 with
      | true =>
        have h1 := Nat.eq_of_beq_eq_true hb1
        simp only [cond_true, Tr.get]
        by_cases hm : m = 0
        · subst hm
          have : Nat.beq 0 0 = true := rfl
          simp only [this, cond_true]
          rw [if_neg (by omega)]
        · have hm0 : Nat.beq m 0 = false := by cases hb : Nat.beq m 0 with | false => rfl | true => exact absurd (Nat.eq_of_beq_eq_true hb) hm
          simp only [hm0, cond_false]
          cases hb2 : Nat.beq (m % 2) 1 with
          | true =>
            have h2 := Nat.eq_of_beq_eq_true hb2
            simp only [cond_true]
            rw [Tr.get_put d .lf (n / 2) v (m / 2) (by omega)]
            by_cases hmn : m = n
            · subst hmn; simp
            · rw [if_neg (by omega), if_neg hmn]; rfl
          | false =>
            have h2 : m % 2 ≠ 1 := fun e => by rw [e] at hb2; cases hb2
            simp only [cond_false]
            rw [if_neg (by omega)]
      | false =>
        have h1 : n % 2 ≠ 1 := fun e => by rw [e] at hb1; cases hb1
        simp only [cond_false, Tr.get]
        by_cases hm : m = 0
        · subst hm
          have : Nat.beq 0 0 = true := rfl
          simp only [this, cond_true]
          rw [if_neg (by omega)]
        · have hm0 : Nat.beq m 0 = false := by cases hb : Nat.beq m 0 with | false => rfl | true => exact absurd (Nat.eq_of_beq_eq_true hb) hm
          simp only [hm0, cond_false]
          cases hb2 : Nat.beq (m % 2) 1 with
          | true =>
            have h2 := Nat.eq_of_beq_eq_true hb2
            simp only [cond_true]
            rw [if_neg (by omega)]
          | false =>
            have h2 : m % 2 ≠ 1 := fun e => by rw [e] at hb2; cases hb2
            simp only [cond_false]
            rw [Tr.get_put d .lf (n / 2 - 1) v (m / 2 - 1) (by omega)]
            by_cases hmn : m = n
            · subst hmn; simp
            · rw [if_neg (by omega), if_neg hmn]; rfl
  | d + 1, .nd l x r, n, v, m, h => by
    have hp : 2 ^ (d + 1) = 2 * 2 ^ d := by rw [Nat.pow_succ]; omega
    unfold Tr.put
    by_cases h0 : n = 0
    · subst h0
      have : Nat.beq 0 0 = true := rfl
      simp only [this, cond_true, Tr.get]
      by_cases hm : m = 0
      · subst hm; simp
      · have : Nat.beq m 0 = false := by cases hb : Nat.beq m 0 with | false => rfl | true => exact absurd (Nat.eq_of_beq_eq_true hb) hm
        simp [this, hm]
    · have hb0 : Nat.beq n 0 = false := by cases hb : Nat.beq n 0 with | false => rfl | true => exact absurd (Nat.eq_of_beq_eq_true hb) h0
      simp only [hb0, cond_false]
      cases hb1 : Nat.beq (n % 2) 1 with
      | true =>
        have h1 := Nat.eq_of_beq_eq_true hb1
        simp only [cond_true, Tr.get]
        by_cases hm : m = 0
        · subst hm
          have : Nat.beq 0 0 = true := rfl
          simp only [this, cond_true]
          rw [if_neg (by omega)]
        · have hm0 : Nat.beq m 0 = false := by cases hb : Nat.beq m 0 with | false => rfl | true => exact absurd (Nat.eq_of_beq_eq_true hb) hm
          simp only [hm0, cond_false]
          cases hb2 : Nat.beq (m % 2) 1 with
          | true =>
            have h2 := Nat.eq_of_beq_eq_true hb2
            simp only [cond_true]
            rw [Tr.get_put d l (n / 2) v (m / 2) (by omega)]
            by_cases hmn : m = n
            · subst hmn; simp
            · rw [if_neg (by omega), if_neg hmn]
          | false =>
            have h2 : m % 2 ≠ 1 := fun e => by rw [e] at hb2; cases hb2
            simp only [cond_false]
            rw [if_neg (by omega)]
      | false =>
        have h1 : n % 2 ≠ 1 := fun e => by rw [e] at hb1; cases hb1
        simp only [cond_false, Tr.get]
        by_cases hm : m = 0
        · subst hm
          have : Nat.beq 0 0 = true := rfl
          simp only [this, cond_true]
          rw [if_neg (by omega)]
        · have hm0 : Nat.beq m 0 = false := by cases hb : Nat.beq m 0 with | false => rfl | true => exact absurd (Nat.eq_of_beq_eq_true hb) hm
          simp only [hm0, cond_false]
          cases hb2 : Nat.beq (m % 2) 1 with
          | true =>
            have h2 := Nat.eq_of_beq_eq_true hb2
            simp only [cond_true]
            rw [if_neg (by omega)]
          | false =>
            have h2 : m % 2 ≠ 1 := fun e => by rw [e] at hb2; cases hb2
            simp only [cond_false]
            rw [Tr.get_put d r (n / 2 - 1) v (m / 2 - 1) (by omega)]
            by_cases hmn : m = n
            · subst hmn; simp
            · rw [if_neg (by omega), if_neg hmn]
def Tr.set (t : Tr) : Option Nat → AV → Option Tr
  | none, _ => some t
  | some d, v => bif Nat.blt d 65535 then some (t.put 16 d v) else none
theorem Tr.set_ok {t t' : Tr} {d : Option Nat} {v : AV} (h : t.set d v = some t') : t'.get = Env.put t.get d v := by
  cases d with
  | none => simp [Tr.set] at h; subst h; rfl
  | some d =>
    cases hb : Nat.blt d 65535 with
    | false => simp [Tr.set, hb] at h
    | true =>
      simp only [Tr.set, hb, cond_true, Option.some.injEq] at h
      subst h
      have : d < 65535 := Nat.lt_of_lt_of_le (Nat.lt_succ_self d) (Nat.le_of_ble_eq_true hb)
      funext m
      exact Tr.get_put 16 t d v m (by omega)
def trOf : Nat → Tr → List AV → Option Tr
  | _, t, [] => some t
  | k, t, a :: r => match t.set (some k) a with
    | some t' => trOf (k + 1) t' r
    | none => none
theorem trOf_ok : ∀ {l : List AV} {k : Nat} {t t' : Tr}, trOf k t l = some t' → ∀ m, t'.get m = if k ≤ m ∧ m < k + l.length then l.getD (m - k) undefA else t.get m
  | [], k, t, t', h, m => by
    simp [trOf] at h; subst h
    rw [if_neg]
    rintro ⟨h1, h2⟩
    simp at h2
    omega
  | a :: r, k, t, t', h, m => by
    unfold trOf at h
    split at h
    · rename_i t1 h1
      rw [trOf_ok h m, Tr.set_ok h1]
      simp only [List.length_cons, Env.put]
      by_cases hm : m = k
      · subst hm
        rw [if_neg (by omega), if_pos rfl, if_pos (by omega)]
        simp
      · by_cases h2 : k + 1 ≤ m ∧ m < k + 1 + r.length
        · rw [if_pos h2, if_pos (by omega), show m - k = (m - (k + 1)) + 1 by omega]
          simp
        · rw [if_neg h2, if_neg hm, if_neg (by omega)]
    · cases h
theorem trOf_env {l : List AV} {t : Tr} (h : trOf 0 .lf l = some t) : t.get = envOf l := by
  funext m
  rw [trOf_ok h m]
  unfold envOf
  by_cases hm : m < l.length
  · rw [if_pos (by omega)]; rfl
  · rw [if_neg (by omega), List.getD_eq_getElem?_getD, List.getElem?_eq_none (by omega)]; rfl
/-! ### Runs -/
/-- The boxes that were there are as they were. -/
def keepsB : St → St → Bool
  | [], _ => true
  | _ :: _, [] => false
  | x :: s, y :: s' => Nat.beq x.ver y.ver && (Nat.beq x.mode y.mode && keepsB s s')
theorem keepsB_ok : ∀ {st st' : St}, keepsB st st' = true → (∀ (b : Nat) (x : Box), st[b]? = some x → ∃ y : Box, st'[b]? = some y ∧ (x.ver = y.ver → x.mode = y.mode → x = y)) → st' = st ++ st'.drop st.length
  | [], st', _, _ => by simp
  | x :: s, [], h, _ => by cases h
  | x :: s, y :: s', h, he => by
    simp only [keepsB, Bool.and_eq_true] at h
    obtain ⟨z, hz, hxy⟩ := he 0 x (by simp)
    simp at hz; subst hz
    have h1 := hxy (Nat.eq_of_beq_eq_true h.1) (Nat.eq_of_beq_eq_true h.2.1)
    have := keepsB_ok h.2.2 (fun b z hb => by simpa using he (b + 1) z (by simpa using hb))
    subst h1
    simp only [List.cons_append, List.length_cons, List.drop_succ_cons]
    rw [← this]
abbrev EvC := VC → Tr → St → Option (VX × Tr × St)
abbrev EvF := FuncId → List AV → St → Option (CRes × St)
def evO (P : Program) (call : EvF) : List VOper → Tr → St → Option (VX × Tr × St)
  | [], t, st => some (.norm, t, st)
  | o :: l, t, st =>
    match wantedA t.get o.guard with
    | false => match t.set o.dst undefA with
      | some t' => evO P call l t' st
      | none => none
    | true => match vop P o.op t.get st with
      | some (.val v, st1) => match keptA t.get st st1 o.keep with
        | true => match t.set o.dst v with
          | some t' => evO P call l t' st1
          | none => none
        | false => none
      | some (.skip, st1) => match keptA t.get st st1 o.keep with
        | true => match t.set o.dst undefA with
          | some t' => evO P call l t' st1
          | none => none
        | false => none
      | some (.call f args, _) => match call f args st with
        | some (.ret v, st1) => match keptA t.get st st1 o.keep with
          | true => match t.set o.dst v with
            | some t' => evO P call l t' st1
            | none => none
          | false => none
        | some (.pan v, st1) => some (.pan v, t, st1)
        | none => none
      | some (.pan v, _) => some (.pan v, t, st)
      | none => none
/-- Where the result leads nowhere and what was there stays, the rest is forgotten. -/
def trim (r : CRes) (st st' : St) : CRes × St := match r.flat && keepsB st st' with
  | true => (r, st)
  | false => (r, st')
def evF (F : FuncId → Option VFun) (rec : EvC) (f : FuncId) (args : List AV) (st : St) : Option (CRes × St) :=
  match F f with
  | some fn => match trOf 0 .lf args with
    | some t => match rec fn.body t st with
      | some (.norm, t', st') => match resOf t'.get st' fn.res with
        | some vs => some (trim (.ret (tupOf vs)) st st')
        | none => none
      | some (.ret, t', st') => match resOf t'.get st' fn.res with
        | some vs => some (trim (.ret (tupOf vs)) st st')
        | none => none
      | some (.pan v, _, st') => some (.pan v, st')
      | _ => none
    | none => none
  | none => none
/-- Runs; hk tells of functions that others tell of. -/
def evC (P : Program) (F : FuncId → Option VFun) (hk : EvF → EvF) : Nat → EvC
  | 0, _, _, _ => none
  | n + 1, .skip, t, st => some (.norm, t, st)
  | n + 1, .reg l, t, st => evO P (hk (evF F (evC P F hk n))) l t st
  | n + 1, .seq a b, t, st => match evC P F hk n a t st with
    | some (.norm, t1, st1) => evC P F hk n b t1 st1
    | r => r
  | n + 1, .cond c a b, t, st => match c.ev t.get with
    | .sc (.bool true) => evC P F hk n a t st
    | .sc (.bool false) => evC P F hk n b t st
    | _ => none
  | n + 1, .block id a, t, st => match evC P F hk n a t st with
    | some (x, t1, st1) => some (x.unblock id, t1, st1)
    | none => none
  | n + 1, .loop a, t, st => match evC P F hk n a t st with
    | some (.norm, t1, st1) => evC P F hk n (.loop a) t1 st1
    | r => r
  | n + 1, .exit id, t, st => some (.exit id, t, st)
  | n + 1, .ret, t, st => some (.ret, t, st)
section
variable {P : Program} {F : FuncId → Option VFun} {H : FuncId → List AV → St → CRes → St → Prop} {hk : EvF → EvF}
def CallOk (P : Program) (F : FuncId → Option VFun) (H : FuncId → List AV → St → CRes → St → Prop) (call : EvF) : Prop := ∀ f args st r st', call f args st = some (r, st') → J P F H (.call f args st r st')
def CodeOk (P : Program) (F : FuncId → Option VFun) (H : FuncId → List AV → St → CRes → St → Prop) (rec : EvC) : Prop := ∀ c t st x t' st', rec c t st = some (x, t', st') → J P F H (.code c t.get st x t'.get st')
theorem evO_ok {call : EvF} (hc : CallOk P F H call) : ∀ {l : List VOper} {t : Tr} {st : St} {x : VX} {t' : Tr} {st' : St}, evO P call l t st = some (x, t', st') → J P F H (.ops l t.get st x t'.get st')
  | [], t, st, x, t', st', h => by
    simp only [evO, Option.some.injEq, Prod.mk.injEq] at h
    obtain ⟨rfl, rfl, rfl⟩ := h
    exact .nil
  | o :: l, t, st, x, t', st', h => by
    unfold evO at h
    split at h
    · rename_i hw
      split at h
      · rename_i t1 ht
        have := evO_ok hc h
        rw [Tr.set_ok ht] at this
        exact .idle hw this
      · cases h
    · rename_i hw
      split at h
      · rename_i v st1 hv
        split at h
        · rename_i hk1
          split at h
          · rename_i t1 ht
            have := evO_ok hc h
            rw [Tr.set_ok ht] at this
            exact .val hw hv hk1 this
          · cases h
        · cases h
      · rename_i st1 hv
        split at h
        · rename_i hk1
          split at h
          · rename_i t1 ht
            have := evO_ok hc h
            rw [Tr.set_ok ht] at this
            exact .done hw hv hk1 this
          · cases h
        · cases h
      · rename_i f args st1 hv
        have e1 := vop_call_st hv
        subst e1
        split at h
        · rename_i v st2 hcall
          split at h
          · rename_i hk1
            split at h
            · rename_i t1 ht
              have := evO_ok hc h
              rw [Tr.set_ok ht] at this
              exact .callR hw hv (hc _ _ _ _ _ hcall) hk1 this
            · cases h
          · cases h
        · rename_i v st2 hcall
          simp only [Option.some.injEq, Prod.mk.injEq] at h
          obtain ⟨rfl, rfl, rfl⟩ := h
          exact .callP hw hv (hc _ _ _ _ _ hcall)
        · cases h
      · rename_i v st1 hv
        have e1 := vop_pan_st hv
        subst e1
        simp only [Option.some.injEq, Prod.mk.injEq] at h
        obtain ⟨rfl, rfl, rfl⟩ := h
        exact .panic hw hv
      · cases h
theorem trim_ok (hE : ∀ f args st r st', H f args st r st' → Evo st st') {f : FuncId} {args : List AV} {st st' st2 : St} {r r' : CRes} (h : J P F H (.call f args st r st')) (ht : trim r st st' = (r', st2)) : J P F H (.call f args st r' st2) := by
  unfold trim at ht
  split at ht
  · rename_i hb
    simp only [Bool.and_eq_true] at hb
    cases ht
    have he := J_evo hE h
    have := keepsB_ok hb.2 (fun b x hx => let ⟨y, h1, _, _, h4⟩ := he b x hx; ⟨y, h1, h4⟩)
    rw [this] at h
    exact .forget h hb.1
  · cases ht; exact h
theorem evF_ok (hE : ∀ f args st r st', H f args st r st' → Evo st st') {rec : EvC} (hr : CodeOk P F H rec) : CallOk P F H (evF F rec) := by
  intro f args st r st' h
  unfold evF at h
  split at h
  · rename_i fn hF
    split at h
    · rename_i t ht
      have he := trOf_env ht
      split at h
      · rename_i t1 st1 hb
        split at h
        · rename_i vs hvs
          simp only [Option.some.injEq] at h
          have j := hr _ _ _ _ _ _ hb
          rw [he] at j
          exact trim_ok hE (.call hF j (.inl rfl) hvs) h
        · cases h
      · rename_i t1 st1 hb
        split at h
        · rename_i vs hvs
          simp only [Option.some.injEq] at h
          have j := hr _ _ _ _ _ _ hb
          rw [he] at j
          exact trim_ok hE (.call hF j (.inr rfl) hvs) h
        · cases h
      · rename_i v t1 st1 hb
        simp only [Option.some.injEq, Prod.mk.injEq] at h
        obtain ⟨rfl, rfl⟩ := h
        have j := hr _ _ _ _ _ _ hb
        rw [he] at j
        exact .callX hF j
      · cases h
    · cases h
  · cases h
theorem evC_ok (hE : ∀ f args st r st', H f args st r st' → Evo st st') (hh : ∀ call, CallOk P F H call → CallOk P F H (hk call)) : ∀ n, CodeOk P F H (evC P F hk n)
  | 0 => fun c t st x t' st' h => by simp [evC] at h
  | n + 1 => fun c t st x t' st' h => by
    have ih := evC_ok hE hh n
    cases c with
    | skip => simp only [evC, Option.some.injEq, Prod.mk.injEq] at h; obtain ⟨rfl, rfl, rfl⟩ := h; exact .skip
    | reg l => exact .reg (evO_ok (hh _ (evF_ok hE ih)) h)
    | seq a b =>
      simp only [evC] at h
      split at h
      · rename_i t1 st1 ha
        exact .seqN (ih _ _ _ _ _ _ ha) (ih _ _ _ _ _ _ h)
      · rename_i hno
        refine .seqX (ih _ _ _ _ _ _ h) ?_
        rintro rfl
        exact hno _ _ h
    | cond c a b =>
      simp only [evC] at h
      split at h
      · rename_i hc
        exact .cond (t := true) hc (ih _ _ _ _ _ _ h)
      · rename_i hc
        exact .cond (t := false) hc (ih _ _ _ _ _ _ h)
      · cases h
    | block id a =>
      simp only [evC] at h
      split at h
      · rename_i x1 t1 st1 ha
        simp only [Option.some.injEq, Prod.mk.injEq] at h
        obtain ⟨rfl, rfl, rfl⟩ := h
        exact .block (ih _ _ _ _ _ _ ha)
      · cases h
    | loop a =>
      simp only [evC] at h
      split at h
      · rename_i t1 st1 ha
        exact .loopN (ih _ _ _ _ _ _ ha) (ih _ _ _ _ _ _ h)
      · rename_i hno
        refine .loopX (ih _ _ _ _ _ _ h) ?_
        rintro rfl
        exact hno _ _ h
    | exit id => simp only [evC, Option.some.injEq, Prod.mk.injEq] at h; obtain ⟨rfl, rfl, rfl⟩ := h; exact .exit
    | ret => simp only [evC, Option.some.injEq, Prod.mk.injEq] at h; obtain ⟨rfl, rfl, rfl⟩ := h; exact .ret
end
end Go.VX
end
section
/-! A seat without code.find. -/
end
section
set_option linter.unusedVariables false
set_option maxRecDepth 100000
/-! A seat without code.find. -/
namespace Go.VX.Seat
open Go.Proofs
def noH : FuncId → List AV → St → CRes → St → Prop := fun _ _ _ _ _ => False
def HFind : FuncId → List AV → St → CRes → St → Prop := fun _ _ _ _ _ => False
theorem mixed : Go.Proofs.Tryd.prog.follows .mixedOrders = true := by kernel_rfl
theorem hfind_sound {f : FuncId} {args : List AV} {st st' : St} {r : CRes} (h : HFind f args st r st') : SoundCall Go.Proofs.Tryd.prog [0, 3, 4] f args st r st' := h.elim
theorem hfind_evo {f : FuncId} {args : List AV} {st st' : St} {r : CRes} (h : HFind f args st r st') : Evo st st' := h.elim
noncomputable def evFind (n : Nat) (call : EvF) : EvF := call
theorem evFind_ok {H : FuncId → List AV → St → CRes → St → Prop} (hH : ∀ f args st r st', HFind f args st r st' → H f args st r st') (n : Nat) {call : EvF} (hc : CallOk Go.Proofs.Tryd.prog fnOf H call) : CallOk Go.Proofs.Tryd.prog fnOf H (evFind n call) := hc
/-- The table of forms, as it lies in memory. -/
def formBox : Box := ⟨formCells, 1, 0⟩
end Go.VX.Seat
end
section
/-! MADE BY PROGRAM (globs.py): the variables, as they lie in memory. -/
namespace Go.VX.Seat
def glob_internal_strconv_uint64pow10 : List AV := [.sc (.int .u64 1), .sc (.int .u64 10), .sc (.int .u64 100), .sc (.int .u64 1000), .sc (.int .u64 10000), .sc (.int .u64 100000), .sc (.int .u64 1000000), .sc (.int .u64 10000000), .sc (.int .u64 100000000), .sc (.int .u64 1000000000), .sc (.int .u64 10000000000), .sc (.int .u64 100000000000), .sc (.int .u64 1000000000000), .sc (.int .u64 10000000000000), .sc (.int .u64 100000000000000), .sc (.int .u64 1000000000000000), .sc (.int .u64 10000000000000000), .sc (.int .u64 100000000000000000), .sc (.int .u64 1000000000000000000), .sc (.int .u64 10000000000000000000)]
def glS : List Box := [formBox, ⟨glob_internal_strconv_uint64pow10, 1, 0⟩, ⟨[], 1, 0⟩]
end Go.VX.Seat
end
