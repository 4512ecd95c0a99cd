/- A part of the proofs of the statements of one layer: Q1. No condition is added here. -/
import Derived.Shelf.Strings.OnBuilder
import Derived.Shelf.LaysM
import Derived.Shelf.Strconv.Itoa3
import Derived.Test.YtmpndkhedbpmjaaGreatDoorXD10
set_option linter.unusedVariables false
set_option linter.unusedSimpArgs false
section
/-
  DERIVED: THE SHELF's CONTRACTS AT THIS DUMP,IN PLAIN WORDS (tools/lay-plain.mjs out of 'TryzShelf.lean',which tools/lay-shelf.mjs wrote): THE SAME DECLARATIONS UNDER THE SAME NAMES: 'import','namespace','open','def','theorem' AND NOTHING ELSE: no command of the shelf's: FOR A HAND-IN. Each laying: the table of numbers ('.._ren') and one theorem,a field a fact of the dump's own or the kernel's comparison; each contract: ONE APPLICATION.
-/
namespace Go.Proofs
open Go.Shelf
def Tryz.lays156_ren : Go.Shelf.Ren:=⟨fun | 156=>100 | 165=>124 | 166=>59 | 169=>62 | 240=>96 | 241=>156 | 276=>120 | 277=>182 | n=>n,fun | 31=>150 | 9=>9 | 3=>3 | 4=>4 | 0=>0 | 20=>20 | 72=>105 | 76=>108 | 70=>103 | 37=>42 | 75=>107 | 127=>153 | 164=>184 | 5=>5 | 80=>112 | n=>n,fun | n=>n⟩
theorem Tryz.lays156 : Go.Proofs.Lays.n156 Tryz.prog Tryz.lays156_ren:={
  mixed:=by kernel_rfl
  f156:=Tryz.func100.trans (congrArg some (by kernel_rfl))
  f165:=Tryz.func124.trans (congrArg some (by kernel_rfl))
  f166:=Tryz.func59.trans (congrArg some (by kernel_rfl))
  f169:=Tryz.func62.trans (congrArg some (by kernel_rfl))
  f240:=Tryz.func96.trans (congrArg some (by kernel_rfl))
  f241:=Tryz.func156.trans (congrArg some (by kernel_rfl))
  f276:=Tryz.func120.trans (congrArg some (by kernel_rfl))
  f277:=Tryz.func182.trans (congrArg some (by kernel_rfl))
  t0:=Tryz.underlying0
  a0:=Tryz.isAgg0
  z0:=Tryz.sizeOf0
  v0:=Tryz.zeroValue0
  t3:=Tryz.underlying3
  a3:=Tryz.isAgg3
  z3:=Tryz.sizeOf3
  v3:=Tryz.zeroValue3
  t4:=Tryz.underlying4
  a4:=Tryz.isAgg4
  z4:=Tryz.sizeOf4
  v4:=Tryz.zeroValue4
  t9:=Tryz.underlying9
  a9:=Tryz.isAgg9
  z9:=Tryz.sizeOf9
  v9:=Tryz.zeroValue9
  t20:=Tryz.underlying20
  a20:=Tryz.isAgg20
  z20:=Tryz.sizeOf20
  v20:=Tryz.zeroValue20
  t31:=Tryz.underlying150
  a31:=Tryz.isAgg150
  z31:=Tryz.sizeOf150
  v31:=Tryz.zeroValue150
  t37:=Tryz.underlying42
  a37:=Tryz.isAgg42
  z37:=Tryz.sizeOf42
  v37:=Tryz.zeroValue42
  t70:=Tryz.underlying103
  a70:=Tryz.isAgg103
  z70:=Tryz.sizeOf103
  v70:=Tryz.zeroValue103
  t72:=Tryz.underlying105
  a72:=Tryz.isAgg105
  z72:=Tryz.sizeOf105
  v72:=Tryz.zeroValue105
  t75:=Tryz.underlying107
  a75:=Tryz.isAgg107
  z75:=Tryz.sizeOf107
  v75:=Tryz.zeroValue107
  t76:=Tryz.underlying108
  a76:=Tryz.isAgg108
  z76:=Tryz.sizeOf108
  v76:=Tryz.zeroValue108
  t127:=Tryz.underlying153
  a127:=Tryz.isAgg153
  z127:=Tryz.sizeOf153
  v127:=Tryz.zeroValue153
  t164:=Tryz.underlying184
  a164:=Tryz.isAgg184
  z164:=Tryz.sizeOf184
  v164:=Tryz.zeroValue184 }
theorem Tryz.Builder_Extra_156 : Builder.Extra Tryz.prog Tryz.lays156_ren:={
  sizeBuilder:=by kernel_rfl
  liesBuilder:=by kernel_rfl
  t5:=Tryz.underlying5
  a5:=Tryz.isAgg5
  z5:=Tryz.sizeOf5
  v5:=Tryz.zeroValue5
  infoByte:=by kernel_rfl
  cellsByte:=by kernel_rfl
  sizeByte:=by kernel_rfl
  neB5:=by decide }
open Go.RowKit in
theorem Tryz.strings_Join_none (a : Option Addr) (c : Nat) (sep : ByteArray) (w : World) :
    Calls Tryz.prog 100 #[.slice a 0 c,.string sep] w fun e w'=>e = .returned (.string ⟨#[]⟩)∧w' = w:=Any.strings_Join_none Tryz.lays156 Tryz.Builder_Extra_156 a c sep w
open Go.RowKit in
theorem Tryz.strings_Join (bk o c : Nat) (xs : List ByteArray) (sep : ByteArray) (w : World) (hcells : ∀ (j : Nat) x,xs[j]? = some x→w.cell? ⟨bk,o + j,none⟩ = some (.string x)) (hbk : bk < w.heap.size) (hN : xs.length≤140737488355328) (hcap : xs.length≤c) (hlen : (Lib.join (xs.map (·.data.toList)) sep.data.toList).length≤140737488355328) :
    Calls Tryz.prog 100 #[.slice (some ⟨bk,o,none⟩) xs.length c,.string sep] w fun e w'=>e = .returned (.string ⟨(Lib.join (xs.map (·.data.toList)) sep.data.toList).toArray⟩)∧Below w.heap.size w w':=Any.strings_Join Tryz.lays156 Tryz.Builder_Extra_156 bk o c xs sep w hcells hbk hN hcap hlen
end Go.Proofs
end
