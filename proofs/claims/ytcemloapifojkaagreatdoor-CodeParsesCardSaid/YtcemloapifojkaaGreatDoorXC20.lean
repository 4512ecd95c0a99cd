/- A part of the proofs of the statements of one layer: R4n. No condition is added here. -/
import Derived.Lay
import Derived.Test.YtcemloapifojkaaGreatDoorXC19
set_option linter.unusedVariables false
set_option linter.unusedSimpArgs false
section
set_option maxRecDepth 4000
namespace Go.VX.Seat
open Go.Proofs Go.ChangeShapes Go.WideShapes
open Go.RowKit (Below)
section
variable {H : Type} {enc : TypeId × Value→H} {W : World}
theorem law_true {f : FuncId} {ws : List AV} {st : St} {K : KM} {args : List Value} (hc : Callable Go.Proofs.Tryz.prog f) (hw : wpF XS f ws st fun r s=>r = .ret (bA true)∧∃ m,s = st++m) (hE : Ent [1,0,2,3,8,9] W K st) (hargs : VRels K ws args) :
    Calls Go.Proofs.Tryz.prog f args.toArray W fun e W'=>e = .returned (.bool true)∧Below W.heap.size W W':=by
  obtain ⟨r,s,j,rfl,_⟩:=hw
  refine ((seat_sound j).c hc W.heap.size W K W args hE.rel (Nat.le_refl _) hargs).mono fun e W' hp=>?_
  obtain ⟨K',hW',_,v',rfl,hv⟩:=hp
  cases hv
  exact ⟨rfl,hW'.below⟩
end
noncomputable def doorW (os : Os) : World:=World.laidAll Go.Proofs.Tryz.prog os laidL
theorem doorW_os (os : Os) : (doorW os).os = os:=World.laidAll_os _ _ _
theorem door_met (os : Os) (args : Array Value) : laidMetH Go.Proofs.Tryz.prog laidL ((doorW os).forCall (fun _ _=>0) ⟨#[],args,[]⟩).memory:=by
  rw [MakeChecks.laidMetH_plain _ _ _ (by kernel_rfl)]
  exact laidMet_laidAll args (by kernel_rfl) (by kernel_rfl)
end Go.VX.Seat
end
