/- A part of the proofs of the statements of one layer: Q2. No condition is added here. -/
import Derived.Shelf.Sort.Plain
import Derived.Shelf.Slices.CompactI
import Derived.Shelf.Slices.In.SortNone
import Derived.Test.YtmpndkhedbpmjaaGreatDoorXD11
set_option linter.unusedVariables false
set_option linter.unusedSimpArgs false
section
/-
  DERIVED: THE SHELF's CONTRACTS AT THIS DUMP,IN PLAIN WORDS (tools/lay-plain.mjs out of 'TryzShelf.lean',which tools/lay-shelf.mjs wrote): THE SAME DECLARATIONS UNDER THE SAME NAMES: 'import','namespace','open','def','theorem' AND NOTHING ELSE: no command of the shelf's: FOR A HAND-IN. Each laying: the table of numbers ('.._ren') and one theorem,a field a fact of the dump's own or the kernel's comparison; each contract: ONE APPLICATION.
-/
namespace Go.Proofs
open Go.Shelf
def Tryz.lays189_ren : Go.Shelf.Ren:=⟨fun | 189=>85 | 125=>118 | 257=>117 | 128=>150 | 129=>151 | 294=>141 | 295=>142 | 296=>143 | 297=>144 | 298=>145 | 299=>146 | 216=>147 | 300=>148 | 301=>149 | 328=>172 | 329=>173 | 330=>174 | 331=>175 | 332=>176 | 215=>177 | 343=>191 | n=>n,fun | 28=>22 | 3=>3 | 46=>147 | 0=>0 | 51=>148 | 53=>146 | 4=>4 | 183=>215 | 182=>214 | 131=>173 | 5=>5 | 9=>9 | 218=>239 | 222=>83 | 228=>254 | 229=>37 | n=>n,fun | n=>n⟩
theorem Tryz.lays189 : Go.Proofs.Lays.n189 Tryz.prog Tryz.lays189_ren:={
  mixed:=by kernel_rfl
  f125:=Tryz.func118.trans (congrArg some (by kernel_rfl))
  f128:=Tryz.func150.trans (congrArg some (by kernel_rfl))
  f129:=Tryz.func151.trans (congrArg some (by kernel_rfl))
  f189:=Tryz.func85.trans (congrArg some (by kernel_rfl))
  f215:=Tryz.func177.trans (congrArg some (by kernel_rfl))
  f216:=Tryz.func147.trans (congrArg some (by kernel_rfl))
  f257:=Tryz.func117.trans (congrArg some (by kernel_rfl))
  f294:=Tryz.func141.trans (congrArg some (by kernel_rfl))
  f295:=Tryz.func142.trans (congrArg some (by kernel_rfl))
  f296:=Tryz.func143.trans (congrArg some (by kernel_rfl))
  f297:=Tryz.func144.trans (congrArg some (by kernel_rfl))
  f298:=Tryz.func145.trans (congrArg some (by kernel_rfl))
  f299:=Tryz.func146.trans (congrArg some (by kernel_rfl))
  f300:=Tryz.func148.trans (congrArg some (by kernel_rfl))
  f301:=Tryz.func149.trans (congrArg some (by kernel_rfl))
  f328:=Tryz.func172.trans (congrArg some (by kernel_rfl))
  f329:=Tryz.func173.trans (congrArg some (by kernel_rfl))
  f330:=Tryz.func174.trans (congrArg some (by kernel_rfl))
  f331:=Tryz.func175.trans (congrArg some (by kernel_rfl))
  f332:=Tryz.func176.trans (congrArg some (by kernel_rfl))
  f343:=Tryz.func191.trans (congrArg some (by kernel_rfl))
  t0:=Tryz.underlying0
  a0:=Tryz.isAgg0
  z0:=Tryz.sizeOf0
  v0:=Tryz.zeroValue0
  t3:=Tryz.underlying3
  a3:=Tryz.isAgg3
  z3:=Tryz.sizeOf3
  v3:=Tryz.zeroValue3
  t4:=Tryz.underlying4
  a4:=Tryz.isAgg4
  z4:=Tryz.sizeOf4
  v4:=Tryz.zeroValue4
  t5:=Tryz.underlying5
  a5:=Tryz.isAgg5
  z5:=Tryz.sizeOf5
  v5:=Tryz.zeroValue5
  t9:=Tryz.underlying9
  a9:=Tryz.isAgg9
  z9:=Tryz.sizeOf9
  v9:=Tryz.zeroValue9
  t28:=Tryz.underlying22
  a28:=Tryz.isAgg22
  z28:=Tryz.sizeOf22
  v28:=Tryz.zeroValue22
  t46:=Tryz.underlying147
  a46:=Tryz.isAgg147
  z46:=Tryz.sizeOf147
  v46:=Tryz.zeroValue147
  t51:=Tryz.underlying148
  a51:=Tryz.isAgg148
  z51:=Tryz.sizeOf148
  v51:=Tryz.zeroValue148
  t53:=Tryz.underlying146
  a53:=Tryz.isAgg146
  z53:=Tryz.sizeOf146
  v53:=Tryz.zeroValue146
  t131:=Tryz.underlying173
  a131:=Tryz.isAgg173
  z131:=Tryz.sizeOf173
  v131:=Tryz.zeroValue173
  t182:=Tryz.underlying214
  a182:=Tryz.isAgg214
  z182:=Tryz.sizeOf214
  v182:=Tryz.zeroValue214
  t183:=Tryz.underlying215
  a183:=Tryz.isAgg215
  z183:=Tryz.sizeOf215
  v183:=Tryz.zeroValue215
  t218:=Tryz.underlying239
  a218:=Tryz.isAgg239
  z218:=Tryz.sizeOf239
  v218:=Tryz.zeroValue239
  t222:=Tryz.underlying83
  a222:=Tryz.isAgg83
  z222:=Tryz.sizeOf83
  v222:=Tryz.zeroValue83
  t228:=Tryz.underlying254
  a228:=Tryz.isAgg254
  z228:=Tryz.sizeOf254
  v228:=Tryz.zeroValue254
  t229:=Tryz.underlying37
  a229:=Tryz.isAgg37
  z229:=Tryz.sizeOf37
  v229:=Tryz.zeroValue37 }
open Go.Sort Go.RowKit in
theorem Tryz.slices_Sort_int (blk off cap : Nat) (zs : List Int) (w : World) (hH : Holds (Value.int .i64) w blk off zs.toArray) (hblk : blk < w.heap.size) (hsz : zs.length < 4611686018427387904) :
    Calls Tryz.prog 85 #[.slice (some ⟨blk,off,none⟩) zs.length cap] w fun e w' =>
      e = .returned (.tuple #[])∧∃ n os,w' = grow (putRow (Value.int .i64) (Sort.ahead w n) blk off (zs.mergeSort fun x y=>decide (x≤y)).toArray) os:=Any.slices_Sort_int Tryz.lays189 blk off cap zs w hH hblk hsz
def Tryz.laysNm220_ren : Go.Shelf.Ren:=⟨fun | 20=>86 | n=>n,fun | 22=>22 | 3=>3 | 4=>4 | 0=>0 | n=>n,fun | n=>n⟩
theorem Tryz.laysNm220 : Go.Proofs.Lays2.n20 Tryz.prog Tryz.laysNm220_ren:={
  mixed:=by kernel_rfl
  f20:=Tryz.func86.trans (congrArg some (by kernel_rfl))
  t0:=Tryz.underlying0
  a0:=Tryz.isAgg0
  z0:=Tryz.sizeOf0
  v0:=Tryz.zeroValue0
  t3:=Tryz.underlying3
  a3:=Tryz.isAgg3
  z3:=Tryz.sizeOf3
  v3:=Tryz.zeroValue3
  t4:=Tryz.underlying4
  a4:=Tryz.isAgg4
  z4:=Tryz.sizeOf4
  v4:=Tryz.zeroValue4
  t22:=Tryz.underlying22
  a22:=Tryz.isAgg22
  z22:=Tryz.sizeOf22
  v22:=Tryz.zeroValue22
  i3:=by kernel_rfl }
open Go.RowKit Go.Lib Go.Sort in
theorem Tryz.slices_Compact_int (blk off cap : Nat) (zs : List Int) (w : World) (hH : Holds (Value.int .i64) w blk off zs.toArray) (hsz : zs.length≤9223372036854775807) (hcap : zs.length≤cap) :
    Calls Tryz.prog 86 #[.slice (some ⟨blk,off,none⟩) zs.length cap] w fun e w'=>e = .returned (.slice (some ⟨blk,off,none⟩) (Lib.compact zs).length cap)∧∃ q,w' = putRow (Value.int .i64) (Sort.ahead w q) blk off (Lib.compact zs++List.replicate (zs.length - (Lib.compact zs).length) 0).toArray:=Any.slices_Compact_int Tryz.laysNm220 blk off cap zs w hH hsz hcap
open Go.RowKit Go.Lib Go.Sort in
theorem Tryz.slices_Compact_int_empty (a : Option Addr) (cap : Nat) (w : World) :
    Calls Tryz.prog 86 #[.slice a 0 cap] w fun e w'=>e = .returned (.slice a 0 cap)∧w' = w:=Any.slices_Compact_int_empty Tryz.laysNm220 a cap w
open Go.RowKit Go.Sort in
theorem Tryz.slices_Sort_int_none (p : Option Addr) (cap : Nat) (w : World) :
    Calls Tryz.prog 85 #[.slice p 0 cap] w fun e w'=>e = .returned (.tuple #[])∧w' = w:=Any.slices_Sort_int_none Tryz.lays189 p cap w
end Go.Proofs
end
