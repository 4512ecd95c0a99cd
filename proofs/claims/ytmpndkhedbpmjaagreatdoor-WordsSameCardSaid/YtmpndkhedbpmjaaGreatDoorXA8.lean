/- A part of the proofs of the statements of one layer: L1, L2, L3, L4, L5, L6, L7, L8. No condition is added here. -/
import Derived.Test.YtmpndkhedbpmjaaGreatDoorChecked
import Derived.Test.YtmpndkhedbpmjaaGreatDoorXA7
section
set_option maxRecDepth 20000
/-! MADE BY PROGRAM (lits.py): functions as they are prepared. -/
namespace Go.VX.Seat
def v_l26_WordsSame : VFun :=
⟨.seq (.reg [⟨0, (some 2), .box (.tmp 0), none, []⟩,
 ⟨1, (some 3), .box (.tmp 1), none, []⟩,
 ⟨2, (some 4), .mv (.con (.bool false)), none, []⟩])
 (.seq (.reg [⟨0, (some 5), .load (some 6) (.tmp 2), none, []⟩,
 ⟨2, (some 7), .load (some 6) (.tmp 3), none, []⟩,
 ⟨5, (some 10), .load (some 6) (.tmp 2), none, []⟩,
 ⟨7, (some 12), .load (some 6) (.tmp 3), none, []⟩,
 ⟨1, (some 6), .call 10 [(.tmp 5)], none, [(.tmp 3), (.tmp 2), (.tmp 3)]⟩,
 ⟨3, (some 8), .call 10 [(.tmp 7)], none, [(.tmp 2), (.tmp 3)]⟩,
 ⟨4, (some 9), .call 28 [(.tmp 6), (.tmp 8)], none, [(.tmp 2), (.tmp 3)]⟩,
 ⟨6, (some 11), .call 10 [(.tmp 10)], none, [(.tmp 3)]⟩,
 ⟨8, (some 13), .call 10 [(.tmp 12)], none, []⟩,
 ⟨9, (some 14), .call 23 [(.tmp 11), (.tmp 13)], none, []⟩,
 ⟨10, (some 15), .bin .eql 4 false (.tmp 9) (.tmp 14), none, []⟩,
 ⟨11, (some 16), .mv (.tmp 15), none, []⟩,
 ⟨12, (some 17), .load (some 6) (.tmp 2), (some (16, true)), []⟩,
 ⟨14, (some 19), .load (some 6) (.tmp 2), (some (16, true)), []⟩,
 ⟨13, (some 18), .call 10 [(.tmp 17)], (some (16, true)), [(.tmp 2)]⟩,
 ⟨15, (some 20), .call 10 [(.tmp 19)], (some (16, true)), []⟩,
 ⟨16, (some 21), .call 28 [(.tmp 18), (.tmp 20)], (some (16, true)), []⟩,
 ⟨17, (some 22), .pick (.tmp 16) (.tmp 21) (.con (.bool false)), none, []⟩,
 ⟨18, (some 23), .mv (.tmp 22), none, []⟩,
 ⟨19, (some 24), .call 15 [], (some (23, true)), []⟩,
 ⟨20, (some 25), .pick (.tmp 23) (.tmp 24) (.con (.bool false)), none, []⟩,
 ⟨21, (some 4), .mv (.tmp 25), none, []⟩])
 (.ret)),
 [.tmp 4]⟩
theorem p_l26_WordsSame : prepFun Go.Proofs.Tryz.prog [0, 1, 2] Go.Proofs.Tryz.f6 = some v_l26_WordsSame := by kernel_rfl

def v_l26_cut : VFun :=
⟨.seq (.reg [⟨0, (some 1), .box (.tmp 0), none, []⟩,
 ⟨1, (some 2), .alloc [(.slice none 0 0), (.int .i64 0), (.int .i64 0), (.int .i64 0), (.int .i64 0), (.slice none 0 0)], none, []⟩])
 (.seq (.seq (.reg [⟨0, (some 6), .fieldA 5 (.tmp 1), none, []⟩,
 ⟨1, (some 7), .load none (.tmp 6), none, []⟩,
 ⟨2, (some 8), .len (.tmp 7), none, []⟩,
 ⟨3, (some 9), .bin .gtr 3 true (.tmp 8) (.con (.int .i64 40)), none, []⟩,
 ⟨4, (some 10), .mv (.tmp 9), none, []⟩,
 ⟨5, (some 11), .fieldA 5 (.tmp 1), (some (10, true)), []⟩,
 ⟨6, (some 12), .load none (.tmp 11), (some (10, true)), []⟩,
 ⟨7, (some 13), .len (.tmp 12), (some (10, true)), []⟩,
 ⟨8, (some 14), .bin .leq 3 true (.tmp 13) (.con (.int .i64 60000)), (some (10, true)), []⟩,
 ⟨9, (some 15), .pick (.tmp 10) (.tmp 14) (.con (.bool false)), none, []⟩])
 (.cond (.tmp 15)
 (.seq (.reg [⟨0, (some 16), .load (some 6) (.tmp 1), none, []⟩,
 ⟨1, (some 17), .call 32 [(.tmp 16), (.con (.int .i64 40)), (.con (.int .i64 20))], none, []⟩,
 ⟨2, none, .store 6 (.tmp 2) (.tmp 17), none, []⟩])
 (.ret))
 (.skip)))
 (.seq (.reg [⟨0, (some 18), .load (some 6) (.tmp 1), none, []⟩,
 ⟨1, (some 19), .call 32 [(.tmp 18), (.con (.int .i64 60001)), (.con (.int .i64 1048576))], none, []⟩,
 ⟨2, (some 3), .alloc [(.slice none 0 0), (.int .i64 0), (.int .i64 0), (.int .i64 0), (.int .i64 0), (.slice none 0 0)], none, []⟩,
 ⟨3, none, .store 6 (.tmp 3) (.tmp 19), none, []⟩])
 (.seq (.seq (.reg [⟨0, (some 4), .mv (.con (.int .i64 0)), none, []⟩])
 (.block 0
 (.loop
 (.seq (.seq (.reg [⟨0, (some 20), .mv (.tmp 4), none, []⟩,
 ⟨1, (some 21), .fieldA 5 (.tmp 3), none, []⟩,
 ⟨2, (some 22), .load none (.tmp 21), none, []⟩,
 ⟨3, (some 23), .len (.tmp 22), none, []⟩,
 ⟨4, (some 24), .bin .lss 3 false (.tmp 20) (.tmp 23), none, []⟩])
 (.cond (.tmp 24)
 (.skip)
 (.exit 0)))
 (.seq (.block 1
 (.seq (.reg [⟨0, (some 27), .fieldA 5 (.tmp 3), none, []⟩,
 ⟨1, (some 28), .load none (.tmp 27), none, []⟩,
 ⟨2, (some 29), .mv (.tmp 4), none, []⟩,
 ⟨3, (some 30), .idxA none 2 (.tmp 28) (.tmp 29), none, []⟩,
 ⟨4, (some 5), .mv (.tmp 30), none, []⟩])
 (.seq (.seq (.reg [⟨0, (some 31), .mv (.tmp 5), none, []⟩,
 ⟨1, (some 32), .nilck (.tmp 31), none, []⟩,
 ⟨2, (some 33), .fieldA 0 (.tmp 32), none, []⟩,
 ⟨3, (some 34), .load none (.tmp 33), none, []⟩,
 ⟨4, (some 35), .len (.tmp 34), none, []⟩,
 ⟨5, (some 36), .bin .leq 3 true (.tmp 35) (.con (.int .i64 400)), none, []⟩])
 (.cond (.tmp 36)
 (.reg [⟨0, (some 37), .mv (.tmp 5), none, []⟩,
 ⟨1, (some 38), .mv (.tmp 5), none, []⟩,
 ⟨2, (some 39), .nilck (.tmp 38), none, []⟩,
 ⟨3, (some 40), .fieldA 0 (.tmp 39), none, []⟩,
 ⟨4, (some 41), .load none (.tmp 40), none, []⟩,
 ⟨5, (some 42), .mv (.tmp 5), none, []⟩,
 ⟨6, (some 43), .nilck (.tmp 42), none, []⟩,
 ⟨7, (some 44), .fieldA 0 (.tmp 43), none, []⟩,
 ⟨8, (some 45), .load none (.tmp 44), none, []⟩,
 ⟨9, (some 46), .len (.tmp 45), none, []⟩,
 ⟨10, (some 47), .bi .min [3, 3] 3 [(.tmp 46), (.con (.int .i64 20))], none, []⟩,
 ⟨11, (some 48), .slice none 7 (.tmp 41) none (some (.tmp 47)) none, none, []⟩,
 ⟨12, (some 49), .nilck (.tmp 37), none, []⟩,
 ⟨13, (some 50), .fieldA 0 (.tmp 49), none, []⟩,
 ⟨14, none, .store 1 (.tmp 50) (.tmp 48), none, []⟩])
 (.skip)))
 (.reg [⟨0, (some 51), .mv (.tmp 5), none, []⟩,
 ⟨1, (some 52), .mv (.tmp 5), none, []⟩,
 ⟨2, (some 53), .nilck (.tmp 52), none, []⟩,
 ⟨3, (some 54), .fieldA 0 (.tmp 53), none, []⟩,
 ⟨4, (some 55), .load none (.tmp 54), none, []⟩,
 ⟨5, (some 56), .mv (.tmp 5), none, []⟩,
 ⟨6, (some 57), .nilck (.tmp 56), none, []⟩,
 ⟨7, (some 58), .fieldA 0 (.tmp 57), none, []⟩,
 ⟨8, (some 59), .load none (.tmp 58), none, []⟩,
 ⟨9, (some 60), .len (.tmp 59), none, []⟩,
 ⟨10, (some 61), .bi .min [3, 3] 3 [(.tmp 60), (.con (.int .i64 401))], none, []⟩,
 ⟨11, (some 62), .slice none 7 (.tmp 55) none (some (.tmp 61)) none, none, []⟩,
 ⟨12, (some 63), .nilck (.tmp 51), none, []⟩,
 ⟨13, (some 64), .fieldA 0 (.tmp 63), none, []⟩,
 ⟨14, none, .store 1 (.tmp 64) (.tmp 62), none, []⟩]))))
 (.reg [⟨0, (some 25), .mv (.tmp 4), none, []⟩,
 ⟨1, (some 26), .bin .add 3 true (.tmp 25) (.con (.int .i64 1)), none, []⟩,
 ⟨2, (some 4), .mv (.tmp 26), none, []⟩]))))))
 (.seq (.reg [⟨0, (some 65), .load (some 6) (.tmp 3), none, []⟩,
 ⟨1, none, .store 6 (.tmp 2) (.tmp 65), none, []⟩])
 (.ret))))),
 [.cell 2 (some 6)]⟩
theorem p_l26_cut : prepFun Go.Proofs.Tryz.prog [0, 1, 2] Go.Proofs.Tryz.f10 = some v_l26_cut := by kernel_rfl

def v_words_Next : VFun :=
⟨.seq (.reg [⟨0, (some 2), .box (.tmp 0), none, []⟩,
 ⟨1, (some 4), .mv (.con (.slice none 0 0)), none, []⟩,
 ⟨2, (some 5), .mv (.con (.int .i64 0)), none, []⟩])
 (.seq (.seq (.reg [⟨0, (some 7), .load (some 6) (.tmp 2), none, []⟩,
 ⟨1, (some 8), .call 29 [(.tmp 7)], none, []⟩,
 ⟨2, (some 6), .mv (.tmp 8), none, []⟩])
 (.seq (.reg [⟨0, (some 9), .mv (.tmp 6), none, []⟩,
 ⟨1, (some 10), .bin .neq 27 true (.tmp 9) (.con (.int .i64 0)), none, []⟩])
 (.cond (.tmp 10)
 (.seq (.reg [⟨0, (some 11), .mv (.tmp 6), none, []⟩,
 ⟨1, (some 4), .mv (.con (.slice none 0 0)), none, []⟩,
 ⟨2, (some 5), .mv (.tmp 11), none, []⟩])
 (.ret))
 (.skip))))
 (.seq (.seq (.reg [⟨0, (some 12), .mv (.tmp 1), none, []⟩,
 ⟨1, (some 13), .fieldA 5 (.tmp 2), none, []⟩,
 ⟨2, (some 14), .load none (.tmp 13), none, []⟩,
 ⟨3, (some 15), .len (.tmp 14), none, []⟩,
 ⟨4, (some 16), .call 33 [(.tmp 12), (.tmp 15)], none, []⟩,
 ⟨5, (some 17), .un .not (.tmp 16), none, []⟩])
 (.cond (.tmp 17)
 (.seq (.reg [⟨0, (some 4), .mv (.con (.slice none 0 0)), none, []⟩,
 ⟨1, (some 5), .mv (.con (.int .i64 2)), none, []⟩])
 (.ret))
 (.skip)))
 (.seq (.reg [⟨0, (some 18), .load (some 6) (.tmp 2), none, []⟩,
 ⟨1, (some 19), .mv (.tmp 1), none, []⟩,
 ⟨2, (some 20), .call 34 [(.tmp 18), (.tmp 19)], none, []⟩,
 ⟨3, (some 4), .mv (.tmp 20), none, []⟩,
 ⟨4, (some 5), .mv (.con (.int .i64 0)), none, []⟩])
 (.ret)))),
 [.tmp 4, .tmp 5]⟩
theorem p_words_Next : prepFun Go.Proofs.Tryz.prog [0, 1, 2] Go.Proofs.Tryz.f11 = some v_words_Next := by kernel_rfl

def v_words_Reached : VFun :=
⟨.seq (.reg [⟨0, (some 1), .box (.tmp 0), none, []⟩,
 ⟨1, (some 2), .mv (.con (.slice none 0 0)), none, []⟩,
 ⟨2, (some 3), .mv (.con (.int .i64 0)), none, []⟩])
 (.seq (.seq (.reg [⟨0, (some 5), .load (some 6) (.tmp 1), none, []⟩,
 ⟨1, (some 6), .call 29 [(.tmp 5)], none, []⟩,
 ⟨2, (some 4), .mv (.tmp 6), none, []⟩])
 (.seq (.reg [⟨0, (some 7), .mv (.tmp 4), none, []⟩,
 ⟨1, (some 8), .bin .neq 27 true (.tmp 7) (.con (.int .i64 0)), none, []⟩])
 (.cond (.tmp 8)
 (.seq (.reg [⟨0, (some 9), .mv (.tmp 4), none, []⟩,
 ⟨1, (some 2), .mv (.con (.slice none 0 0)), none, []⟩,
 ⟨2, (some 3), .mv (.tmp 9), none, []⟩])
 (.ret))
 (.skip))))
 (.seq (.reg [⟨0, (some 10), .load (some 6) (.tmp 1), none, []⟩,
 ⟨1, (some 11), .call 35 [(.tmp 10)], none, []⟩,
 ⟨2, (some 2), .mv (.tmp 11), none, []⟩,
 ⟨3, (some 3), .mv (.con (.int .i64 0)), none, []⟩])
 (.ret))),
 [.tmp 2, .tmp 3]⟩
theorem p_words_Reached : prepFun Go.Proofs.Tryz.prog [0, 1, 2] Go.Proofs.Tryz.f12 = some v_words_Reached := by kernel_rfl

def v_words_Density : VFun :=
⟨.seq (.reg [⟨0, (some 1), .box (.tmp 0), none, []⟩,
 ⟨1, (some 2), .mv (.con (.int .i64 0)), none, []⟩,
 ⟨2, (some 3), .mv (.con (.int .i64 0)), none, []⟩,
 ⟨3, (some 4), .mv (.con (.int .i64 0)), none, []⟩])
 (.seq (.seq (.reg [⟨0, (some 10), .load (some 6) (.tmp 1), none, []⟩,
 ⟨1, (some 11), .call 29 [(.tmp 10)], none, []⟩,
 ⟨2, (some 5), .mv (.tmp 11), none, []⟩])
 (.seq (.reg [⟨0, (some 12), .mv (.tmp 5), none, []⟩,
 ⟨1, (some 13), .bin .neq 27 true (.tmp 12) (.con (.int .i64 0)), none, []⟩])
 (.cond (.tmp 13)
 (.seq (.reg [⟨0, (some 14), .mv (.tmp 5), none, []⟩,
 ⟨1, (some 2), .mv (.con (.int .i64 0)), none, []⟩,
 ⟨2, (some 3), .mv (.con (.int .i64 0)), none, []⟩,
 ⟨3, (some 4), .mv (.tmp 14), none, []⟩])
 (.ret))
 (.skip))))
 (.seq (.reg [⟨0, (some 6), .mv (.con (.int .i64 0)), none, []⟩,
 ⟨1, (some 7), .mv (.con (.int .i64 0)), none, []⟩])
 (.seq (.seq (.reg [⟨0, (some 15), .fieldA 5 (.tmp 1), none, []⟩,
 ⟨1, (some 16), .load none (.tmp 15), none, []⟩,
 ⟨2, (some 17), .len (.tmp 16), none, []⟩,
 ⟨3, (some 18), .mv (.con (.int .i64 0)), none, []⟩])
 (.block 0
 (.loop
 (.seq (.reg [⟨0, (some 19), .bin .lss 3 false (.tmp 18) (.tmp 17), none, []⟩])
 (.seq (.cond (.tmp 19)
 (.skip)
 (.exit 0))
 (.seq (.block 1
 (.seq (.reg [⟨0, (some 20), .idxA none 2 (.tmp 16) (.tmp 18), none, []⟩,
 ⟨1, (some 21), .load (some 2) (.tmp 20), none, []⟩,
 ⟨2, (some 9), .alloc [(.slice none 0 0), (.int .i64 0)], none, []⟩,
 ⟨3, none, .store 2 (.tmp 9) (.tmp 21), none, []⟩])
 (.seq (.reg [⟨0, (some 22), .mv (.tmp 6), none, []⟩,
 ⟨1, (some 23), .fieldA 0 (.tmp 9), none, []⟩,
 ⟨2, (some 24), .load none (.tmp 23), none, []⟩,
 ⟨3, (some 25), .len (.tmp 24), none, []⟩,
 ⟨4, (some 26), .bin .add 3 false (.tmp 22) (.tmp 25), none, []⟩,
 ⟨5, (some 6), .mv (.tmp 26), none, []⟩])
 (.seq (.reg [⟨0, (some 27), .fieldA 0 (.tmp 9), none, []⟩,
 ⟨1, (some 28), .load none (.tmp 27), none, []⟩,
 ⟨2, (some 29), .len (.tmp 28), none, []⟩,
 ⟨3, (some 30), .bin .eql 3 true (.tmp 29) (.con (.int .i64 0)), none, []⟩])
 (.cond (.tmp 30)
 (.reg [⟨0, (some 31), .mv (.tmp 7), none, []⟩,
 ⟨1, (some 32), .bin .add 3 true (.tmp 31) (.con (.int .i64 1)), none, []⟩,
 ⟨2, (some 7), .mv (.tmp 32), none, []⟩])
 (.skip))))))
 (.reg [⟨0, (some 33), .bin .add 3 true (.tmp 18) (.con (.int .i64 1)), none, []⟩,
 ⟨1, (some 18), .mv (.tmp 33), none, []⟩])))))))
 (.seq (.reg [⟨0, (some 34), .mv (.tmp 6), none, []⟩,
 ⟨1, (some 35), .mv (.tmp 7), none, []⟩,
 ⟨2, (some 2), .mv (.tmp 34), none, []⟩,
 ⟨3, (some 3), .mv (.tmp 35), none, []⟩,
 ⟨4, (some 4), .mv (.con (.int .i64 0)), none, []⟩])
 (.ret))))),
 [.tmp 2, .tmp 3, .tmp 4]⟩
theorem p_words_Density : prepFun Go.Proofs.Tryz.prog [0, 1, 2] Go.Proofs.Tryz.f13 = some v_words_Density := by kernel_rfl

end Go.VX.Seat
end
section
set_option maxRecDepth 20000
/-! MADE BY PROGRAM (lits.py): functions as they are prepared. -/
namespace Go.VX.Seat
def v_l26_alive : VFun :=
⟨.seq (.reg [⟨0, (some 0), .mv (.con (.bool false)), none, []⟩])
 (.seq (.reg [⟨0, (some 18), .call 38 [], none, []⟩,
 ⟨1, (some 19), .call 24 [(.tmp 18)], none, []⟩,
 ⟨2, (some 17), .mv (.tmp 19), none, []⟩,
 ⟨3, (some 20), .ext (.tmp 17) 0, none, []⟩,
 ⟨4, (some 21), .ext (.tmp 17) 1, none, []⟩,
 ⟨5, (some 1), .mv (.tmp 20), none, []⟩,
 ⟨6, (some 2), .mv (.tmp 21), none, []⟩])
 (.seq (.reg [⟨0, (some 23), .mv (.tmp 1), none, []⟩,
 ⟨1, (some 24), .call 26 [(.tmp 23)], none, []⟩,
 ⟨2, (some 22), .mv (.tmp 24), none, []⟩,
 ⟨3, (some 25), .ext (.tmp 22) 0, none, []⟩,
 ⟨4, (some 26), .ext (.tmp 22) 1, none, []⟩,
 ⟨5, (some 27), .ext (.tmp 22) 2, none, []⟩,
 ⟨6, (some 3), .alloc [(.slice none 0 0), (.int .i64 0), (.int .i64 0), (.int .i64 0), (.int .i64 0), (.slice none 0 0)], none, []⟩,
 ⟨7, none, .store 6 (.tmp 3) (.tmp 25), none, []⟩,
 ⟨8, (some 4), .mv (.tmp 26), none, []⟩,
 ⟨9, (some 5), .mv (.tmp 27), none, []⟩])
 (.seq (.reg [⟨0, (some 29), .call 38 [], none, []⟩,
 ⟨1, (some 30), .call 19 [(.tmp 29)], none, []⟩,
 ⟨2, (some 28), .mv (.tmp 30), none, []⟩,
 ⟨3, (some 31), .ext (.tmp 28) 0, none, []⟩,
 ⟨4, (some 32), .ext (.tmp 28) 1, none, []⟩,
 ⟨5, (some 6), .mv (.tmp 31), none, []⟩,
 ⟨6, (some 7), .mv (.tmp 32), none, []⟩])
 (.seq (.reg [⟨0, (some 34), .mv (.tmp 6), none, []⟩,
 ⟨1, (some 35), .call 21 [(.tmp 34)], none, []⟩,
 ⟨2, (some 33), .mv (.tmp 35), none, []⟩,
 ⟨3, (some 36), .ext (.tmp 33) 0, none, []⟩,
 ⟨4, (some 37), .ext (.tmp 33) 1, none, []⟩,
 ⟨5, (some 8), .alloc [(.slice none 0 0), (.int .i64 0), (.int .i64 0), (.int .i64 0), (.int .i64 0), (.slice none 0 0)], none, []⟩,
 ⟨6, none, .store 6 (.tmp 8) (.tmp 36), none, []⟩,
 ⟨7, (some 9), .mv (.tmp 37), none, []⟩])
 (.seq (.reg [⟨0, (some 39), .call 38 [], none, []⟩,
 ⟨1, (some 40), .call 11 [(.tmp 39), (.con (.int .i64 0))], none, []⟩,
 ⟨2, (some 38), .mv (.tmp 40), none, []⟩,
 ⟨3, (some 41), .ext (.tmp 38) 0, none, []⟩,
 ⟨4, (some 42), .ext (.tmp 38) 1, none, []⟩,
 ⟨5, (some 10), .mv (.tmp 41), none, []⟩,
 ⟨6, (some 11), .mv (.tmp 42), none, []⟩])
 (.seq (.reg [⟨0, (some 44), .call 38 [], none, []⟩,
 ⟨1, (some 45), .call 12 [(.tmp 44)], none, []⟩,
 ⟨2, (some 43), .mv (.tmp 45), none, []⟩,
 ⟨3, (some 46), .ext (.tmp 43) 0, none, []⟩,
 ⟨4, (some 47), .ext (.tmp 43) 1, none, []⟩,
 ⟨5, (some 12), .mv (.tmp 46), none, []⟩,
 ⟨6, (some 13), .mv (.tmp 47), none, []⟩])
 (.seq (.reg [⟨0, (some 49), .call 38 [], none, []⟩,
 ⟨1, (some 50), .call 13 [(.tmp 49)], none, []⟩,
 ⟨2, (some 48), .mv (.tmp 50), none, []⟩,
 ⟨3, (some 51), .ext (.tmp 48) 0, none, []⟩,
 ⟨4, (some 52), .ext (.tmp 48) 1, none, []⟩,
 ⟨5, (some 53), .ext (.tmp 48) 2, none, []⟩,
 ⟨6, (some 14), .mv (.tmp 51), none, []⟩,
 ⟨7, (some 15), .mv (.tmp 52), none, []⟩,
 ⟨8, (some 16), .mv (.tmp 53), none, []⟩])
 (.seq (.reg [⟨0, (some 54), .mv (.tmp 2), none, []⟩,
 ⟨1, (some 55), .bin .eql 27 true (.tmp 54) (.con (.int .i64 0)), none, []⟩,
 ⟨2, (some 56), .mv (.tmp 55), none, []⟩,
 ⟨3, (some 57), .mv (.tmp 1), (some (56, true)), []⟩,
 ⟨4, (some 58), .bin .eql 9 true (.tmp 57) (.con (.string ⟨#[99, 111, 100, 101, 32, 48, 32, 49, 32, 48, 32, 48, 10, 119, 111, 114, 100, 32, 45, 49, 10, 32, 32, 48, 32, 61, 32, 99, 111, 110, 115, 116, 32, 55, 10, 119, 111, 114, 100, 32, 45, 49, 10, 32, 32, 114, 101, 116, 117, 114, 110, 32, 48, 10]⟩)), (some (56, true)), []⟩,
 ⟨5, (some 59), .pick (.tmp 56) (.tmp 58) (.con (.bool false)), none, []⟩,
 ⟨6, (some 60), .mv (.tmp 59), none, []⟩,
 ⟨7, (some 61), .mv (.tmp 4), (some (60, true)), []⟩,
 ⟨8, (some 62), .bin .eql 3 true (.tmp 61) (.con (.int .i64 0)), (some (60, true)), []⟩,
 ⟨9, (some 63), .pick (.tmp 60) (.tmp 62) (.con (.bool false)), none, []⟩,
 ⟨10, (some 64), .mv (.tmp 63), none, []⟩,
 ⟨11, (some 65), .mv (.tmp 5), (some (64, true)), []⟩,
 ⟨12, (some 66), .bin .eql 27 true (.tmp 65) (.con (.int .i64 0)), (some (64, true)), []⟩,
 ⟨13, (some 67), .pick (.tmp 64) (.tmp 66) (.con (.bool false)), none, []⟩,
 ⟨14, (some 68), .mv (.tmp 67), none, []⟩,
 ⟨15, (some 69), .load (some 6) (.tmp 3), (some (68, true)), []⟩,
 ⟨16, (some 70), .call 38 [], (some (68, true)), [(.tmp 3)]⟩,
 ⟨17, (some 71), .call 28 [(.tmp 69), (.tmp 70)], (some (68, true)), []⟩,
 ⟨18, (some 72), .pick (.tmp 68) (.tmp 71) (.con (.bool false)), none, []⟩,
 ⟨19, (some 73), .mv (.tmp 72), none, []⟩,
 ⟨20, (some 74), .mv (.tmp 7), (some (73, true)), []⟩,
 ⟨21, (some 75), .bin .eql 27 true (.tmp 74) (.con (.int .i64 0)), (some (73, true)), []⟩,
 ⟨22, (some 76), .pick (.tmp 73) (.tmp 75) (.con (.bool false)), none, []⟩,
 ⟨23, (some 77), .mv (.tmp 76), none, []⟩,
 ⟨24, (some 78), .mv (.tmp 6), (some (77, true)), []⟩,
 ⟨25, (some 79), .len (.tmp 78), (some (77, true)), []⟩,
 ⟨26, (some 80), .bin .gtr 3 true (.tmp 79) (.con (.int .i64 8)), (some (77, true)), []⟩,
 ⟨27, (some 81), .pick (.tmp 77) (.tmp 80) (.con (.bool false)), none, []⟩,
 ⟨28, (some 82), .mv (.tmp 81), none, []⟩,
 ⟨29, (some 83), .mv (.tmp 6), (some (82, true)), []⟩,
 ⟨30, (some 84), .slice none 1 (.tmp 83) none (some (.con (.int .i64 4))) none, (some (82, true)), []⟩,
 ⟨31, (some 85), .b2s (.tmp 84), (some (82, true)), []⟩,
 ⟨32, (some 86), .bin .eql 9 true (.tmp 85) (.con (.string ⟨#[66, 105, 114, 101]⟩)), (some (82, true)), []⟩,
 ⟨33, (some 87), .pick (.tmp 82) (.tmp 86) (.con (.bool false)), none, []⟩,
 ⟨34, (some 88), .mv (.tmp 87), none, []⟩,
 ⟨35, (some 89), .mv (.tmp 9), (some (88, true)), []⟩,
 ⟨36, (some 90), .bin .eql 27 true (.tmp 89) (.con (.int .i64 0)), (some (88, true)), []⟩,
 ⟨37, (some 91), .pick (.tmp 88) (.tmp 90) (.con (.bool false)), none, []⟩,
 ⟨38, (some 92), .mv (.tmp 91), none, []⟩,
 ⟨39, (some 93), .load (some 6) (.tmp 8), (some (92, true)), []⟩,
 ⟨40, (some 94), .call 38 [], (some (92, true)), [(.tmp 8)]⟩,
 ⟨41, (some 95), .call 28 [(.tmp 93), (.tmp 94)], (some (92, true)), []⟩,
 ⟨42, (some 96), .pick (.tmp 92) (.tmp 95) (.con (.bool false)), none, []⟩,
 ⟨43, (some 97), .mv (.tmp 96), none, []⟩,
 ⟨44, (some 98), .mv (.tmp 11), (some (97, true)), []⟩,
 ⟨45, (some 99), .bin .eql 27 true (.tmp 98) (.con (.int .i64 0)), (some (97, true)), []⟩,
 ⟨46, (some 100), .pick (.tmp 97) (.tmp 99) (.con (.bool false)), none, []⟩,
 ⟨47, (some 101), .mv (.tmp 100), none, []⟩,
 ⟨48, (some 102), .mv (.tmp 10), (some (101, true)), []⟩,
 ⟨49, (some 103), .len (.tmp 102), (some (101, true)), []⟩,
 ⟨50, (some 104), .bin .eql 3 true (.tmp 103) (.con (.int .i64 1)), (some (101, true)), []⟩,
 ⟨51, (some 105), .pick (.tmp 101) (.tmp 104) (.con (.bool false)), none, []⟩,
 ⟨52, (some 106), .mv (.tmp 105), none, []⟩,
 ⟨53, (some 107), .mv (.tmp 10), (some (106, true)), []⟩,
 ⟨54, (some 108), .idxA none 1 (.tmp 107) (.con (.int .i64 0)), (some (106, true)), []⟩,
 ⟨55, (some 109), .load none (.tmp 108), (some (106, true)), []⟩,
 ⟨56, (some 110), .bin .eql 3 true (.tmp 109) (.con (.int .i64 1)), (some (106, true)), []⟩,
 ⟨57, (some 111), .pick (.tmp 106) (.tmp 110) (.con (.bool false)), none, []⟩,
 ⟨58, (some 112), .mv (.tmp 111), none, []⟩,
 ⟨59, (some 113), .mv (.tmp 13), (some (112, true)), []⟩,
 ⟨60, (some 114), .bin .eql 27 true (.tmp 113) (.con (.int .i64 0)), (some (112, true)), []⟩,
 ⟨61, (some 115), .pick (.tmp 112) (.tmp 114) (.con (.bool false)), none, []⟩,
 ⟨62, (some 116), .mv (.tmp 115), none, []⟩,
 ⟨63, (some 117), .mv (.tmp 12), (some (116, true)), []⟩,
 ⟨64, (some 118), .len (.tmp 117), (some (116, true)), []⟩,
 ⟨65, (some 119), .bin .eql 3 true (.tmp 118) (.con (.int .i64 2)), (some (116, true)), []⟩,
 ⟨66, (some 120), .pick (.tmp 116) (.tmp 119) (.con (.bool false)), none, []⟩,
 ⟨67, (some 121), .mv (.tmp 120), none, []⟩,
 ⟨68, (some 122), .mv (.tmp 12), (some (121, true)), []⟩,
 ⟨69, (some 123), .idxA none 1 (.tmp 122) (.con (.int .i64 1)), (some (121, true)), []⟩,
 ⟨70, (some 124), .load none (.tmp 123), (some (121, true)), []⟩,
 ⟨71, (some 125), .pick (.tmp 121) (.tmp 124) (.con (.bool false)), none, []⟩,
 ⟨72, (some 126), .mv (.tmp 125), none, []⟩,
 ⟨73, (some 127), .mv (.tmp 16), (some (126, true)), []⟩,
 ⟨74, (some 128), .bin .eql 27 true (.tmp 127) (.con (.int .i64 0)), (some (126, true)), []⟩,
 ⟨75, (some 129), .pick (.tmp 126) (.tmp 128) (.con (.bool false)), none, []⟩,
 ⟨76, (some 130), .mv (.tmp 129), none, []⟩,
 ⟨77, (some 131), .mv (.tmp 14), (some (130, true)), []⟩,
 ⟨78, (some 132), .bin .eql 3 true (.tmp 131) (.con (.int .i64 2)), (some (130, true)), []⟩,
 ⟨79, (some 133), .pick (.tmp 130) (.tmp 132) (.con (.bool false)), none, []⟩,
 ⟨80, (some 134), .mv (.tmp 133), none, []⟩,
 ⟨81, (some 135), .mv (.tmp 15), (some (134, true)), []⟩,
 ⟨82, (some 136), .bin .eql 3 true (.tmp 135) (.con (.int .i64 0)), (some (134, true)), []⟩,
 ⟨83, (some 137), .pick (.tmp 134) (.tmp 136) (.con (.bool false)), none, []⟩,
 ⟨84, (some 138), .mv (.tmp 137), none, []⟩,
 ⟨85, (some 139), .build [(.slice none 0 0), (.int .i64 0), (.int .i64 0), (.int .i64 0), (.int .i64 0), (.slice none 0 0)] [], (some (138, true)), []⟩,
 ⟨86, (some 140), .call 29 [(.tmp 139)], (some (138, true)), []⟩,
 ⟨87, (some 141), .bin .eql 27 true (.tmp 140) (.con (.int .i64 2)), (some (138, true)), []⟩,
 ⟨88, (some 142), .pick (.tmp 138) (.tmp 141) (.con (.bool false)), none, []⟩,
 ⟨89, (some 0), .mv (.tmp 142), none, []⟩])
 (.ret))))))))),
 [.tmp 0]⟩
theorem p_l26_alive : prepFun Go.Proofs.Tryz.prog [0, 1, 2] Go.Proofs.Tryz.f15 = some v_l26_alive := by kernel_rfl

def v_words_Bytes : VFun :=
⟨.seq (.reg [⟨0, (some 1), .box (.tmp 0), none, []⟩,
 ⟨1, (some 2), .mv (.con (.slice none 0 0)), none, []⟩,
 ⟨2, (some 3), .mv (.con (.int .i64 0)), none, []⟩])
 (.seq (.seq (.reg [⟨0, (some 12), .load (some 6) (.tmp 1), none, []⟩,
 ⟨1, (some 13), .call 29 [(.tmp 12)], none, []⟩,
 ⟨2, (some 4), .mv (.tmp 13), none, []⟩])
 (.seq (.reg [⟨0, (some 14), .mv (.tmp 4), none, []⟩,
 ⟨1, (some 15), .bin .neq 27 true (.tmp 14) (.con (.int .i64 0)), none, []⟩])
 (.cond (.tmp 15)
 (.seq (.reg [⟨0, (some 16), .mv (.tmp 4), none, []⟩,
 ⟨1, (some 2), .mv (.con (.slice none 0 0)), none, []⟩,
 ⟨2, (some 3), .mv (.tmp 16), none, []⟩])
 (.ret))
 (.skip))))
 (.seq (.reg [⟨0, (some 17), .bslice 1 4 [(.int .u8 0)] [(0, 1, (.con (.int .u8 66))), (1, 1, (.con (.int .u8 105))), (2, 1, (.con (.int .u8 114))), (3, 1, (.con (.int .u8 101)))], none, []⟩,
 ⟨1, (some 18), .frz (.tmp 17), none, []⟩,
 ⟨2, (some 19), .build [(.slice none 0 0)] [(0, 1, (.tmp 18))], none, []⟩,
 ⟨3, (some 20), .box (.tmp 19), none, []⟩,
 ⟨4, (some 5), .mv (.tmp 20), none, []⟩])
 (.seq (.reg [⟨0, (some 21), .mv (.tmp 5), none, []⟩,
 ⟨1, (some 22), .fieldA 0 (.tmp 1), none, []⟩,
 ⟨2, (some 23), .load none (.tmp 22), none, []⟩,
 ⟨3, (some 24), .len (.tmp 23), none, []⟩,
 ⟨4, (some 25), .bslice 1 1 [(.int .i64 0)] [(0, 1, (.tmp 24))], none, []⟩,
 ⟨5, (some 26), .call 41 [(.tmp 21), (.tmp 25)], none, []⟩])
 (.seq (.reg [⟨0, (some 27), .mv (.tmp 5), none, []⟩,
 ⟨1, (some 28), .fieldA 0 (.tmp 1), none, []⟩,
 ⟨2, (some 29), .load none (.tmp 28), none, []⟩,
 ⟨3, (some 30), .call 41 [(.tmp 27), (.tmp 29)], none, []⟩])
 (.seq (.reg [⟨0, (some 31), .mv (.tmp 5), none, []⟩,
 ⟨1, (some 32), .fieldA 1 (.tmp 1), none, []⟩,
 ⟨2, (some 33), .load none (.tmp 32), none, []⟩,
 ⟨3, (some 34), .fieldA 2 (.tmp 1), none, []⟩,
 ⟨4, (some 35), .load none (.tmp 34), none, []⟩,
 ⟨5, (some 36), .fieldA 3 (.tmp 1), none, []⟩,
 ⟨6, (some 37), .load none (.tmp 36), none, []⟩,
 ⟨7, (some 38), .fieldA 4 (.tmp 1), none, []⟩,
 ⟨8, (some 39), .load none (.tmp 38), none, []⟩,
 ⟨9, (some 40), .fieldA 5 (.tmp 1), none, []⟩,
 ⟨10, (some 41), .load none (.tmp 40), none, []⟩,
 ⟨11, (some 42), .len (.tmp 41), none, []⟩,
 ⟨12, (some 43), .bslice 1 5 [(.int .i64 0)] [(0, 1, (.tmp 33)), (1, 1, (.tmp 35)), (2, 1, (.tmp 37)), (3, 1, (.tmp 39)), (4, 1, (.tmp 42))], none, []⟩,
 ⟨13, (some 44), .call 41 [(.tmp 31), (.tmp 43)], none, []⟩])
 (.seq (.seq (.reg [⟨0, (some 45), .fieldA 5 (.tmp 1), none, []⟩,
 ⟨1, (some 46), .load none (.tmp 45), none, []⟩,
 ⟨2, (some 47), .len (.tmp 46), none, []⟩,
 ⟨3, (some 48), .mv (.con (.int .i64 0)), none, []⟩])
 (.block 0
 (.loop
 (.seq (.reg [⟨0, (some 49), .bin .lss 3 false (.tmp 48) (.tmp 47), none, []⟩])
 (.seq (.cond (.tmp 49)
 (.skip)
 (.exit 0))
 (.seq (.block 1
 (.seq (.reg [⟨0, (some 50), .idxA none 2 (.tmp 46) (.tmp 48), none, []⟩,
 ⟨1, (some 51), .load (some 2) (.tmp 50), none, []⟩,
 ⟨2, (some 7), .alloc [(.slice none 0 0), (.int .i64 0)], none, []⟩,
 ⟨3, none, .store 2 (.tmp 7) (.tmp 51), none, []⟩])
 (.seq (.reg [⟨0, (some 52), .mv (.tmp 5), none, []⟩,
 ⟨1, (some 53), .fieldA 1 (.tmp 7), none, []⟩,
 ⟨2, (some 54), .load none (.tmp 53), none, []⟩,
 ⟨3, (some 55), .fieldA 0 (.tmp 7), none, []⟩,
 ⟨4, (some 56), .load none (.tmp 55), none, []⟩,
 ⟨5, (some 57), .len (.tmp 56), none, []⟩,
 ⟨6, (some 58), .bslice 1 2 [(.int .i64 0)] [(0, 1, (.tmp 54)), (1, 1, (.tmp 57))], none, []⟩,
 ⟨7, (some 59), .call 41 [(.tmp 52), (.tmp 58)], none, []⟩])
 (.seq (.reg [⟨0, (some 60), .fieldA 0 (.tmp 7), none, []⟩,
 ⟨1, (some 61), .load none (.tmp 60), none, []⟩,
 ⟨2, (some 62), .len (.tmp 61), none, []⟩,
 ⟨3, (some 63), .mv (.con (.int .i64 0)), none, []⟩])
 (.block 2
 (.loop
 (.seq (.reg [⟨0, (some 64), .bin .lss 3 false (.tmp 63) (.tmp 62), none, []⟩])
 (.seq (.cond (.tmp 64)
 (.skip)
 (.exit 2))
 (.seq (.block 3
 (.seq (.reg [⟨0, (some 65), .idxA none 7 (.tmp 61) (.tmp 63), none, []⟩,
 ⟨1, (some 66), .load (some 7) (.tmp 65), none, []⟩,
 ⟨2, (some 9), .alloc [(.int .i64 0), (.int .i64 0), (.int .i64 0), (.int .i64 0), (.int .i64 0), (.int .i64 0), (.int .i64 0)], none, []⟩,
 ⟨3, none, .store 7 (.tmp 9) (.tmp 66), none, []⟩])
 (.seq (.reg [⟨0, (some 67), .mv (.tmp 5), none, []⟩,
 ⟨1, (some 68), .fieldA 0 (.tmp 9), none, []⟩,
 ⟨2, (some 69), .load none (.tmp 68), none, []⟩,
 ⟨3, (some 70), .fieldA 6 (.tmp 9), none, []⟩,
 ⟨4, (some 71), .load none (.tmp 70), none, []⟩,
 ⟨5, (some 72), .bslice 1 2 [(.int .i64 0)] [(0, 1, (.tmp 69)), (1, 1, (.tmp 71))], none, []⟩,
 ⟨6, (some 73), .call 41 [(.tmp 67), (.tmp 72)], none, []⟩])
 (.seq (.seq (.reg [⟨0, (some 74), .call 42 [(.tmp 9)], none, []⟩,
 ⟨1, (some 75), .len (.tmp 74), none, []⟩,
 ⟨2, (some 76), .mv (.con (.int .i64 0)), none, []⟩])
 (.block 4
 (.loop
 (.seq (.reg [⟨0, (some 77), .bin .lss 3 false (.tmp 76) (.tmp 75), none, []⟩])
 (.seq (.cond (.tmp 77)
 (.skip)
 (.exit 4))
 (.seq (.block 5
 (.seq (.reg [⟨0, (some 78), .idxA none 1 (.tmp 74) (.tmp 76), none, []⟩,
 ⟨1, (some 79), .load none (.tmp 78), none, []⟩,
 ⟨2, (some 11), .mv (.tmp 79), none, []⟩])
 (.reg [⟨0, (some 80), .mv (.tmp 5), none, []⟩,
 ⟨1, (some 81), .mv (.tmp 11), none, []⟩,
 ⟨2, (some 82), .nilck (.tmp 81), none, []⟩,
 ⟨3, (some 83), .load none (.tmp 82), none, []⟩,
 ⟨4, (some 84), .bslice 1 1 [(.int .i64 0)] [(0, 1, (.tmp 83))], none, []⟩,
 ⟨5, (some 85), .call 41 [(.tmp 80), (.tmp 84)], none, []⟩])))
 (.reg [⟨0, (some 86), .bin .add 3 true (.tmp 76) (.con (.int .i64 1)), none, []⟩,
 ⟨1, (some 76), .mv (.tmp 86), none, []⟩])))))))
 (.seq (.reg [⟨0, (some 87), .fieldA 0 (.tmp 9), none, []⟩,
 ⟨1, (some 88), .load none (.tmp 87), none, []⟩,
 ⟨2, (some 89), .call 43 [(.tmp 88)], none, []⟩])
 (.cond (.tmp 89)
 (.reg [⟨0, (some 90), .mv (.tmp 5), none, []⟩,
 ⟨1, (some 91), .fieldA 5 (.tmp 9), none, []⟩,
 ⟨2, (some 92), .load none (.tmp 91), none, []⟩,
 ⟨3, (some 93), .call 44 [(.tmp 90), (.tmp 92)], none, []⟩])
 (.skip)))))))
 (.reg [⟨0, (some 94), .bin .add 3 true (.tmp 63) (.con (.int .i64 1)), none, []⟩,
 ⟨1, (some 63), .mv (.tmp 94), none, []⟩]))))))))))
 (.reg [⟨0, (some 95), .bin .add 3 true (.tmp 48) (.con (.int .i64 1)), none, []⟩,
 ⟨1, (some 48), .mv (.tmp 95), none, []⟩])))))))
 (.seq (.reg [⟨0, (some 96), .mv (.tmp 5), none, []⟩,
 ⟨1, (some 97), .call 45 [(.tmp 96)], none, []⟩,
 ⟨2, (some 2), .mv (.tmp 97), none, []⟩,
 ⟨3, (some 3), .mv (.con (.int .i64 0)), none, []⟩])
 (.ret)))))))),
 [.tmp 2, .tmp 3]⟩
theorem p_words_Bytes : prepFun Go.Proofs.Tryz.prog [0, 1, 2] Go.Proofs.Tryz.f19 = some v_words_Bytes := by kernel_rfl

def v_words_Load : VFun :=
⟨.seq (.reg [⟨0, (some 2), .alloc [(.slice none 0 0), (.int .i64 0), (.int .i64 0), (.int .i64 0), (.int .i64 0), (.slice none 0 0)], none, []⟩,
 ⟨1, (some 3), .mv (.con (.int .i64 0)), none, []⟩])
 (.seq (.reg [⟨0, (some 7), .mv (.tmp 0), none, []⟩,
 ⟨1, (some 8), .call 49 [(.tmp 7), (.con (.string ⟨#[66, 105, 114, 101]⟩))], none, []⟩,
 ⟨2, (some 4), .mv (.tmp 8), none, []⟩])
 (.seq (.reg [⟨0, (some 5), .alloc [(.slice none 0 0), (.int .i64 0), (.int .i64 0), (.int .i64 0), (.int .i64 0), (.slice none 0 0)], none, []⟩])
 (.seq (.seq (.reg [⟨0, (some 9), .mv (.tmp 4), none, []⟩,
 ⟨1, (some 10), .call 50 [(.tmp 9), (.con (.int .i64 16))], none, []⟩,
 ⟨2, (some 11), .mv (.con (.int .i64 0)), none, []⟩])
 (.block 0
 (.loop
 (.seq (.reg [⟨0, (some 12), .bin .lss 3 false (.tmp 11) (.tmp 10), none, []⟩])
 (.seq (.cond (.tmp 12)
 (.skip)
 (.exit 0))
 (.seq (.block 1
 (.reg [⟨0, (some 13), .fieldA 0 (.tmp 5), none, []⟩,
 ⟨1, (some 14), .load none (.tmp 13), none, []⟩,
 ⟨2, (some 15), .mv (.tmp 4), none, []⟩,
 ⟨3, (some 16), .call 51 [(.tmp 15)], none, [(.tmp 13)]⟩,
 ⟨4, (some 17), .bslice 1 1 [(.int .i64 0)] [(0, 1, (.tmp 16))], none, []⟩,
 ⟨5, (some 18), .append 1 8 (.tmp 14) (.tmp 17), none, []⟩,
 ⟨6, (some 19), .fieldA 0 (.tmp 5), none, []⟩,
 ⟨7, none, .store 1 (.tmp 19) (.tmp 18), none, []⟩]))
 (.reg [⟨0, (some 20), .bin .add 3 true (.tmp 11) (.con (.int .i64 1)), none, []⟩,
 ⟨1, (some 11), .mv (.tmp 20), none, []⟩])))))))
 (.seq (.reg [⟨0, (some 21), .mv (.tmp 4), none, []⟩,
 ⟨1, (some 22), .call 51 [(.tmp 21)], none, []⟩,
 ⟨2, (some 23), .mv (.tmp 4), none, []⟩,
 ⟨3, (some 24), .call 51 [(.tmp 23)], none, []⟩,
 ⟨4, (some 25), .mv (.tmp 4), none, []⟩,
 ⟨5, (some 26), .call 51 [(.tmp 25)], none, []⟩,
 ⟨6, (some 27), .mv (.tmp 4), none, []⟩,
 ⟨7, (some 28), .call 51 [(.tmp 27)], none, []⟩,
 ⟨8, (some 29), .fieldA 1 (.tmp 5), none, []⟩,
 ⟨9, none, .store 1 (.tmp 29) (.tmp 22), none, []⟩,
 ⟨10, (some 30), .fieldA 2 (.tmp 5), none, []⟩,
 ⟨11, none, .store 1 (.tmp 30) (.tmp 24), none, []⟩,
 ⟨12, (some 31), .fieldA 3 (.tmp 5), none, []⟩,
 ⟨13, none, .store 1 (.tmp 31) (.tmp 26), none, []⟩,
 ⟨14, (some 32), .fieldA 4 (.tmp 5), none, []⟩,
 ⟨15, none, .store 1 (.tmp 32) (.tmp 28), none, []⟩])
 (.seq (.seq (.reg [⟨0, (some 33), .mv (.tmp 4), none, []⟩,
 ⟨1, (some 34), .call 50 [(.tmp 33), (.con (.int .i64 60000))], none, []⟩,
 ⟨2, (some 35), .mv (.con (.int .i64 0)), none, []⟩])
 (.block 2
 (.loop
 (.seq (.reg [⟨0, (some 36), .bin .lss 3 false (.tmp 35) (.tmp 34), none, []⟩])
 (.seq (.cond (.tmp 36)
 (.skip)
 (.exit 2))
 (.seq (.block 3
 (.seq (.seq (.reg [⟨0, (some 37), .mv (.tmp 4), none, []⟩,
 ⟨1, (some 38), .nilck (.tmp 37), none, []⟩,
 ⟨2, (some 39), .fieldA 1 (.tmp 38), none, []⟩,
 ⟨3, (some 40), .load none (.tmp 39), none, []⟩,
 ⟨4, (some 41), .bin .neq 27 true (.tmp 40) (.con (.int .i64 0)), none, []⟩])
 (.cond (.tmp 41)
 (.exit 2)
 (.skip)))
 (.seq (.reg [⟨0, (some 42), .mv (.tmp 4), none, []⟩,
 ⟨1, (some 43), .call 51 [(.tmp 42)], none, []⟩,
 ⟨2, (some 44), .build [(.slice none 0 0), (.int .i64 0)] [(1, 1, (.tmp 43))], none, []⟩,
 ⟨3, (some 6), .alloc [(.slice none 0 0), (.int .i64 0)], none, []⟩,
 ⟨4, none, .store 2 (.tmp 6) (.tmp 44), none, []⟩])
 (.seq (.seq (.reg [⟨0, (some 45), .mv (.tmp 4), none, []⟩,
 ⟨1, (some 46), .call 50 [(.tmp 45), (.con (.int .i64 400))], none, []⟩,
 ⟨2, (some 47), .mv (.con (.int .i64 0)), none, []⟩])
 (.block 4
 (.loop
 (.seq (.reg [⟨0, (some 48), .bin .lss 3 false (.tmp 47) (.tmp 46), none, []⟩])
 (.seq (.cond (.tmp 48)
 (.skip)
 (.exit 4))
 (.seq (.block 5
 (.seq (.seq (.reg [⟨0, (some 49), .mv (.tmp 4), none, []⟩,
 ⟨1, (some 50), .nilck (.tmp 49), none, []⟩,
 ⟨2, (some 51), .fieldA 1 (.tmp 50), none, []⟩,
 ⟨3, (some 52), .load none (.tmp 51), none, []⟩,
 ⟨4, (some 53), .bin .neq 27 true (.tmp 52) (.con (.int .i64 0)), none, []⟩])
 (.cond (.tmp 53)
 (.exit 4)
 (.skip)))
 (.reg [⟨0, (some 54), .fieldA 0 (.tmp 6), none, []⟩,
 ⟨1, (some 55), .load none (.tmp 54), none, []⟩,
 ⟨2, (some 56), .mv (.tmp 4), none, []⟩,
 ⟨3, (some 57), .call 52 [(.tmp 56)], none, [(.tmp 54)]⟩,
 ⟨4, (some 58), .bslice 7 1 [(.int .i64 0), (.int .i64 0), (.int .i64 0), (.int .i64 0), (.int .i64 0), (.int .i64 0), (.int .i64 0)] [(0, 7, (.tmp 57))], none, []⟩,
 ⟨5, (some 59), .append 7 56 (.tmp 55) (.tmp 58), none, []⟩,
 ⟨6, (some 60), .fieldA 0 (.tmp 6), none, []⟩,
 ⟨7, none, .store 1 (.tmp 60) (.tmp 59), none, []⟩])))
 (.reg [⟨0, (some 61), .bin .add 3 true (.tmp 47) (.con (.int .i64 1)), none, []⟩,
 ⟨1, (some 47), .mv (.tmp 61), none, []⟩])))))))
 (.reg [⟨0, (some 62), .fieldA 5 (.tmp 5), none, []⟩,
 ⟨1, (some 63), .load none (.tmp 62), none, []⟩,
 ⟨2, (some 64), .load (some 2) (.tmp 6), none, []⟩,
 ⟨3, (some 65), .bslice 2 1 [(.slice none 0 0), (.int .i64 0)] [(0, 2, (.tmp 64))], none, []⟩,
 ⟨4, (some 66), .append 2 32 (.tmp 63) (.tmp 65), none, []⟩,
 ⟨5, (some 67), .fieldA 5 (.tmp 5), none, []⟩,
 ⟨6, none, .store 1 (.tmp 67) (.tmp 66), none, []⟩])))))
 (.reg [⟨0, (some 68), .bin .add 3 true (.tmp 35) (.con (.int .i64 1)), none, []⟩,
 ⟨1, (some 35), .mv (.tmp 68), none, []⟩])))))))
 (.seq (.reg [⟨0, (some 69), .mv (.tmp 4), none, []⟩,
 ⟨1, (some 70), .call 53 [(.tmp 69)], none, []⟩])
 (.seq (.seq (.reg [⟨0, (some 71), .mv (.tmp 4), none, []⟩,
 ⟨1, (some 72), .nilck (.tmp 71), none, []⟩,
 ⟨2, (some 73), .fieldA 1 (.tmp 72), none, []⟩,
 ⟨3, (some 74), .load none (.tmp 73), none, []⟩,
 ⟨4, (some 75), .bin .eql 27 true (.tmp 74) (.con (.int .i64 0)), none, []⟩])
 (.cond (.tmp 75)
 (.reg [⟨0, (some 76), .mv (.tmp 4), none, []⟩,
 ⟨1, (some 77), .load (some 6) (.tmp 5), none, []⟩,
 ⟨2, (some 78), .call 29 [(.tmp 77)], none, []⟩,
 ⟨3, (some 79), .nilck (.tmp 76), none, []⟩,
 ⟨4, (some 80), .fieldA 1 (.tmp 79), none, []⟩,
 ⟨5, none, .store 1 (.tmp 80) (.tmp 78), none, []⟩])
 (.skip)))
 (.seq (.seq (.reg [⟨0, (some 81), .mv (.tmp 4), none, []⟩,
 ⟨1, (some 82), .nilck (.tmp 81), none, []⟩,
 ⟨2, (some 83), .fieldA 1 (.tmp 82), none, []⟩,
 ⟨3, (some 84), .load none (.tmp 83), none, []⟩,
 ⟨4, (some 85), .bin .neq 27 true (.tmp 84) (.con (.int .i64 0)), none, []⟩])
 (.cond (.tmp 85)
 (.seq (.reg [⟨0, (some 86), .build [(.slice none 0 0), (.int .i64 0), (.int .i64 0), (.int .i64 0), (.int .i64 0), (.slice none 0 0)] [], none, []⟩,
 ⟨1, (some 87), .mv (.tmp 4), none, []⟩,
 ⟨2, (some 88), .nilck (.tmp 87), none, []⟩,
 ⟨3, (some 89), .fieldA 1 (.tmp 88), none, []⟩,
 ⟨4, (some 90), .load none (.tmp 89), none, []⟩,
 ⟨5, none, .store 6 (.tmp 2) (.tmp 86), none, [(.tmp 89)]⟩,
 ⟨6, (some 3), .mv (.tmp 90), none, []⟩])
 (.ret))
 (.skip)))
 (.seq (.reg [⟨0, (some 91), .load (some 6) (.tmp 5), none, []⟩,
 ⟨1, none, .store 6 (.tmp 2) (.tmp 91), none, []⟩,
 ⟨2, (some 3), .mv (.con (.int .i64 0)), none, []⟩])
 (.ret)))))))))),
 [.cell 2 (some 6), .tmp 3]⟩
theorem p_words_Load : prepFun Go.Proofs.Tryz.prog [0, 1, 2] Go.Proofs.Tryz.f21 = some v_words_Load := by kernel_rfl

def v_r26_Same : VFun :=
⟨.seq (.reg [⟨0, (some 2), .box (.tmp 0), none, []⟩,
 ⟨1, (some 3), .box (.tmp 1), none, []⟩,
 ⟨2, (some 4), .mv (.con (.bool false)), none, []⟩])
 (.seq (.seq (.reg [⟨0, (some 8), .fieldA 1 (.tmp 2), none, []⟩,
 ⟨1, (some 9), .load none (.tmp 8), none, []⟩,
 ⟨2, (some 10), .fieldA 1 (.tmp 3), none, []⟩,
 ⟨3, (some 11), .load none (.tmp 10), none, []⟩,
 ⟨4, (some 12), .bin .neq 3 false (.tmp 9) (.tmp 11), none, []⟩,
 ⟨5, (some 13), .mv (.tmp 12), none, []⟩,
 ⟨6, (some 14), .fieldA 2 (.tmp 2), (some (13, false)), []⟩,
 ⟨7, (some 15), .load none (.tmp 14), (some (13, false)), []⟩,
 ⟨8, (some 16), .fieldA 2 (.tmp 3), (some (13, false)), []⟩,
 ⟨9, (some 17), .load none (.tmp 16), (some (13, false)), []⟩,
 ⟨10, (some 18), .bin .neq 3 false (.tmp 15) (.tmp 17), (some (13, false)), []⟩,
 ⟨11, (some 19), .pick (.tmp 13) (.con (.bool true)) (.tmp 18), none, []⟩,
 ⟨12, (some 20), .mv (.tmp 19), none, []⟩,
 ⟨13, (some 21), .fieldA 3 (.tmp 2), (some (20, false)), []⟩,
 ⟨14, (some 22), .load none (.tmp 21), (some (20, false)), []⟩,
 ⟨15, (some 23), .fieldA 3 (.tmp 3), (some (20, false)), []⟩,
 ⟨16, (some 24), .load none (.tmp 23), (some (20, false)), []⟩,
 ⟨17, (some 25), .bin .neq 3 false (.tmp 22) (.tmp 24), (some (20, false)), []⟩,
 ⟨18, (some 26), .pick (.tmp 20) (.con (.bool true)) (.tmp 25), none, []⟩,
 ⟨19, (some 27), .mv (.tmp 26), none, []⟩,
 ⟨20, (some 28), .fieldA 4 (.tmp 2), (some (27, false)), []⟩,
 ⟨21, (some 29), .load none (.tmp 28), (some (27, false)), []⟩,
 ⟨22, (some 30), .fieldA 4 (.tmp 3), (some (27, false)), []⟩,
 ⟨23, (some 31), .load none (.tmp 30), (some (27, false)), []⟩,
 ⟨24, (some 32), .bin .neq 3 false (.tmp 29) (.tmp 31), (some (27, false)), []⟩,
 ⟨25, (some 33), .pick (.tmp 27) (.con (.bool true)) (.tmp 32), none, []⟩,
 ⟨26, (some 34), .mv (.tmp 33), none, []⟩,
 ⟨27, (some 35), .fieldA 0 (.tmp 2), (some (34, false)), []⟩,
 ⟨28, (some 36), .load none (.tmp 35), (some (34, false)), []⟩,
 ⟨29, (some 37), .len (.tmp 36), (some (34, false)), []⟩,
 ⟨30, (some 38), .fieldA 0 (.tmp 3), (some (34, false)), []⟩,
 ⟨31, (some 39), .load none (.tmp 38), (some (34, false)), []⟩,
 ⟨32, (some 40), .len (.tmp 39), (some (34, false)), []⟩,
 ⟨33, (some 41), .bin .neq 3 false (.tmp 37) (.tmp 40), (some (34, false)), []⟩,
 ⟨34, (some 42), .pick (.tmp 34) (.con (.bool true)) (.tmp 41), none, []⟩,
 ⟨35, (some 43), .mv (.tmp 42), none, []⟩,
 ⟨36, (some 44), .fieldA 5 (.tmp 2), (some (43, false)), []⟩,
 ⟨37, (some 45), .load none (.tmp 44), (some (43, false)), []⟩,
 ⟨38, (some 46), .len (.tmp 45), (some (43, false)), []⟩,
 ⟨39, (some 47), .fieldA 5 (.tmp 3), (some (43, false)), []⟩,
 ⟨40, (some 48), .load none (.tmp 47), (some (43, false)), []⟩,
 ⟨41, (some 49), .len (.tmp 48), (some (43, false)), []⟩,
 ⟨42, (some 50), .bin .neq 3 false (.tmp 46) (.tmp 49), (some (43, false)), []⟩,
 ⟨43, (some 51), .pick (.tmp 43) (.con (.bool true)) (.tmp 50), none, []⟩])
 (.cond (.tmp 51)
 (.seq (.reg [⟨0, (some 4), .mv (.con (.bool false)), none, []⟩])
 (.ret))
 (.skip)))
 (.seq (.seq (.reg [⟨0, (some 5), .mv (.con (.int .i64 0)), none, []⟩])
 (.block 0
 (.loop
 (.seq (.seq (.reg [⟨0, (some 52), .mv (.tmp 5), none, []⟩,
 ⟨1, (some 53), .fieldA 0 (.tmp 2), none, []⟩,
 ⟨2, (some 54), .load none (.tmp 53), none, []⟩,
 ⟨3, (some 55), .len (.tmp 54), none, []⟩,
 ⟨4, (some 56), .bin .lss 3 false (.tmp 52) (.tmp 55), none, []⟩])
 (.cond (.tmp 56)
 (.skip)
 (.exit 0)))
 (.seq (.block 1
 (.seq (.reg [⟨0, (some 59), .fieldA 0 (.tmp 2), none, []⟩,
 ⟨1, (some 60), .load none (.tmp 59), none, []⟩,
 ⟨2, (some 61), .mv (.tmp 5), none, []⟩,
 ⟨3, (some 62), .idxA none 1 (.tmp 60) (.tmp 61), none, []⟩,
 ⟨4, (some 63), .load none (.tmp 62), none, []⟩,
 ⟨5, (some 64), .fieldA 0 (.tmp 3), none, []⟩,
 ⟨6, (some 65), .load none (.tmp 64), none, []⟩,
 ⟨7, (some 66), .mv (.tmp 5), none, []⟩,
 ⟨8, (some 67), .idxA none 1 (.tmp 65) (.tmp 66), none, []⟩,
 ⟨9, (some 68), .load none (.tmp 67), none, []⟩,
 ⟨10, (some 69), .bin .neq 3 false (.tmp 63) (.tmp 68), none, []⟩])
 (.cond (.tmp 69)
 (.seq (.reg [⟨0, (some 4), .mv (.con (.bool false)), none, []⟩])
 (.ret))
 (.skip))))
 (.reg [⟨0, (some 57), .mv (.tmp 5), none, []⟩,
 ⟨1, (some 58), .bin .add 3 true (.tmp 57) (.con (.int .i64 1)), none, []⟩,
 ⟨2, (some 5), .mv (.tmp 58), none, []⟩]))))))
 (.seq (.seq (.reg [⟨0, (some 6), .mv (.con (.int .i64 0)), none, []⟩])
 (.block 2
 (.loop
 (.seq (.seq (.reg [⟨0, (some 70), .mv (.tmp 6), none, []⟩,
 ⟨1, (some 71), .fieldA 5 (.tmp 2), none, []⟩,
 ⟨2, (some 72), .load none (.tmp 71), none, []⟩,
 ⟨3, (some 73), .len (.tmp 72), none, []⟩,
 ⟨4, (some 74), .bin .lss 3 false (.tmp 70) (.tmp 73), none, []⟩])
 (.cond (.tmp 74)
 (.skip)
 (.exit 2)))
 (.seq (.block 3
 (.seq (.seq (.reg [⟨0, (some 77), .fieldA 5 (.tmp 2), none, []⟩,
 ⟨1, (some 78), .load none (.tmp 77), none, []⟩,
 ⟨2, (some 79), .mv (.tmp 6), none, []⟩,
 ⟨3, (some 80), .idxA none 2 (.tmp 78) (.tmp 79), none, []⟩,
 ⟨4, (some 81), .fieldA 1 (.tmp 80), none, []⟩,
 ⟨5, (some 82), .load none (.tmp 81), none, []⟩,
 ⟨6, (some 83), .fieldA 5 (.tmp 3), none, []⟩,
 ⟨7, (some 84), .load none (.tmp 83), none, []⟩,
 ⟨8, (some 85), .mv (.tmp 6), none, []⟩,
 ⟨9, (some 86), .idxA none 2 (.tmp 84) (.tmp 85), none, []⟩,
 ⟨10, (some 87), .fieldA 1 (.tmp 86), none, []⟩,
 ⟨11, (some 88), .load none (.tmp 87), none, []⟩,
 ⟨12, (some 89), .bin .neq 3 false (.tmp 82) (.tmp 88), none, []⟩,
 ⟨13, (some 90), .mv (.tmp 89), none, []⟩,
 ⟨14, (some 91), .fieldA 5 (.tmp 2), (some (90, false)), []⟩,
 ⟨15, (some 92), .load none (.tmp 91), (some (90, false)), []⟩,
 ⟨16, (some 93), .mv (.tmp 6), (some (90, false)), []⟩,
 ⟨17, (some 94), .idxA none 2 (.tmp 92) (.tmp 93), (some (90, false)), []⟩,
 ⟨18, (some 95), .fieldA 0 (.tmp 94), (some (90, false)), []⟩,
 ⟨19, (some 96), .load none (.tmp 95), (some (90, false)), []⟩,
 ⟨20, (some 97), .len (.tmp 96), (some (90, false)), []⟩,
 ⟨21, (some 98), .fieldA 5 (.tmp 3), (some (90, false)), []⟩,
 ⟨22, (some 99), .load none (.tmp 98), (some (90, false)), []⟩,
 ⟨23, (some 100), .mv (.tmp 6), (some (90, false)), []⟩,
 ⟨24, (some 101), .idxA none 2 (.tmp 99) (.tmp 100), (some (90, false)), []⟩,
 ⟨25, (some 102), .fieldA 0 (.tmp 101), (some (90, false)), []⟩,
 ⟨26, (some 103), .load none (.tmp 102), (some (90, false)), []⟩,
 ⟨27, (some 104), .len (.tmp 103), (some (90, false)), []⟩,
 ⟨28, (some 105), .bin .neq 3 false (.tmp 97) (.tmp 104), (some (90, false)), []⟩,
 ⟨29, (some 106), .pick (.tmp 90) (.con (.bool true)) (.tmp 105), none, []⟩])
 (.cond (.tmp 106)
 (.seq (.reg [⟨0, (some 4), .mv (.con (.bool false)), none, []⟩])
 (.ret))
 (.skip)))
 (.seq (.reg [⟨0, (some 7), .mv (.con (.int .i64 0)), none, []⟩])
 (.block 4
 (.loop
 (.seq (.seq (.reg [⟨0, (some 107), .mv (.tmp 7), none, []⟩,
 ⟨1, (some 108), .fieldA 5 (.tmp 2), none, []⟩,
 ⟨2, (some 109), .load none (.tmp 108), none, []⟩,
 ⟨3, (some 110), .mv (.tmp 6), none, []⟩,
 ⟨4, (some 111), .idxA none 2 (.tmp 109) (.tmp 110), none, []⟩,
 ⟨5, (some 112), .fieldA 0 (.tmp 111), none, []⟩,
 ⟨6, (some 113), .load none (.tmp 112), none, []⟩,
 ⟨7, (some 114), .len (.tmp 113), none, []⟩,
 ⟨8, (some 115), .bin .lss 3 false (.tmp 107) (.tmp 114), none, []⟩])
 (.cond (.tmp 115)
 (.skip)
 (.exit 4)))
 (.seq (.block 5
 (.seq (.reg [⟨0, (some 118), .fieldA 5 (.tmp 2), none, []⟩,
 ⟨1, (some 119), .load none (.tmp 118), none, []⟩,
 ⟨2, (some 120), .mv (.tmp 6), none, []⟩,
 ⟨3, (some 121), .idxA none 2 (.tmp 119) (.tmp 120), none, []⟩,
 ⟨4, (some 122), .fieldA 0 (.tmp 121), none, []⟩,
 ⟨5, (some 123), .load none (.tmp 122), none, []⟩,
 ⟨6, (some 124), .mv (.tmp 7), none, []⟩,
 ⟨7, (some 125), .idxA none 7 (.tmp 123) (.tmp 124), none, []⟩,
 ⟨8, (some 126), .load (some 7) (.tmp 125), none, []⟩,
 ⟨9, (some 127), .fieldA 5 (.tmp 3), none, []⟩,
 ⟨10, (some 128), .load none (.tmp 127), none, []⟩,
 ⟨11, (some 129), .mv (.tmp 6), none, []⟩,
 ⟨12, (some 130), .idxA none 2 (.tmp 128) (.tmp 129), none, []⟩,
 ⟨13, (some 131), .fieldA 0 (.tmp 130), none, []⟩,
 ⟨14, (some 132), .load none (.tmp 131), none, []⟩,
 ⟨15, (some 133), .mv (.tmp 7), none, []⟩,
 ⟨16, (some 134), .idxA none 7 (.tmp 132) (.tmp 133), none, []⟩,
 ⟨17, (some 135), .load (some 7) (.tmp 134), none, []⟩,
 ⟨18, (some 136), .bin .neq 72 false (.tmp 126) (.tmp 135), none, []⟩])
 (.cond (.tmp 136)
 (.seq (.reg [⟨0, (some 4), .mv (.con (.bool false)), none, []⟩])
 (.ret))
 (.skip))))
 (.reg [⟨0, (some 116), .mv (.tmp 7), none, []⟩,
 ⟨1, (some 117), .bin .add 3 true (.tmp 116) (.con (.int .i64 1)), none, []⟩,
 ⟨2, (some 7), .mv (.tmp 117), none, []⟩]))))))))
 (.reg [⟨0, (some 75), .mv (.tmp 6), none, []⟩,
 ⟨1, (some 76), .bin .add 3 true (.tmp 75) (.con (.int .i64 1)), none, []⟩,
 ⟨2, (some 6), .mv (.tmp 76), none, []⟩]))))))
 (.seq (.reg [⟨0, (some 4), .mv (.con (.bool true)), none, []⟩])
 (.ret))))),
 [.tmp 4]⟩
theorem p_r26_Same : prepFun Go.Proofs.Tryz.prog [0, 1, 2] Go.Proofs.Tryz.f23 = some v_r26_Same := by kernel_rfl

end Go.VX.Seat
end
section
set_option maxRecDepth 20000
/-! MADE BY PROGRAM (lits.py): functions as they are prepared. -/
namespace Go.VX.Seat
def v_words_Text : VFun :=
⟨.seq (.reg [⟨0, (some 1), .box (.tmp 0), none, []⟩,
 ⟨1, (some 2), .mv (.con (.string ⟨#[]⟩)), none, []⟩,
 ⟨2, (some 3), .mv (.con (.int .i64 0)), none, []⟩])
 (.seq (.seq (.reg [⟨0, (some 14), .load (some 6) (.tmp 1), none, []⟩,
 ⟨1, (some 15), .call 29 [(.tmp 14)], none, []⟩,
 ⟨2, (some 4), .mv (.tmp 15), none, []⟩])
 (.seq (.reg [⟨0, (some 16), .mv (.tmp 4), none, []⟩,
 ⟨1, (some 17), .bin .neq 27 true (.tmp 16) (.con (.int .i64 0)), none, []⟩])
 (.cond (.tmp 17)
 (.seq (.reg [⟨0, (some 18), .mv (.tmp 4), none, []⟩,
 ⟨1, (some 2), .mv (.con (.string ⟨#[]⟩)), none, []⟩,
 ⟨2, (some 3), .mv (.tmp 18), none, []⟩])
 (.ret))
 (.skip))))
 (.seq (.reg [⟨0, (some 5), .allocF [(.int .i64 1), (.int .i64 105), (.int .i64 5), (.string ⟨#[]⟩)], none, []⟩])
 (.seq (.reg [⟨0, (some 19), .call 59 [(.tmp 5), (.con (.string ⟨#[99, 111, 100, 101]⟩))], none, []⟩])
 (.seq (.seq (.reg [⟨0, (some 20), .fieldA 1 (.tmp 1), none, []⟩,
 ⟨1, (some 21), .load none (.tmp 20), none, []⟩,
 ⟨2, (some 22), .fieldA 2 (.tmp 1), none, []⟩,
 ⟨3, (some 23), .load none (.tmp 22), none, []⟩,
 ⟨4, (some 24), .fieldA 3 (.tmp 1), none, []⟩,
 ⟨5, (some 25), .load none (.tmp 24), none, []⟩,
 ⟨6, (some 26), .fieldA 4 (.tmp 1), none, []⟩,
 ⟨7, (some 27), .load none (.tmp 26), none, []⟩,
 ⟨8, (some 28), .bslice 1 4 [(.int .i64 0)] [(0, 1, (.tmp 21)), (1, 1, (.tmp 23)), (2, 1, (.tmp 25)), (3, 1, (.tmp 27))], none, []⟩,
 ⟨9, (some 29), .len (.tmp 28), none, []⟩,
 ⟨10, (some 30), .mv (.con (.int .i64 0)), none, []⟩])
 (.block 0
 (.loop
 (.seq (.reg [⟨0, (some 31), .bin .lss 3 false (.tmp 30) (.tmp 29), none, []⟩])
 (.seq (.cond (.tmp 31)
 (.skip)
 (.exit 0))
 (.seq (.block 1
 (.seq (.reg [⟨0, (some 32), .idxA none 1 (.tmp 28) (.tmp 30), none, []⟩,
 ⟨1, (some 33), .load none (.tmp 32), none, []⟩,
 ⟨2, (some 7), .mv (.tmp 33), none, []⟩])
 (.reg [⟨0, (some 34), .mv (.tmp 7), none, []⟩,
 ⟨1, (some 35), .call 60 [(.tmp 34)], none, []⟩,
 ⟨2, (some 36), .bin .add 9 true (.con (.string ⟨#[32]⟩)) (.tmp 35), none, []⟩,
 ⟨3, (some 37), .call 59 [(.tmp 5), (.tmp 36)], none, []⟩])))
 (.reg [⟨0, (some 38), .bin .add 3 true (.tmp 30) (.con (.int .i64 1)), none, []⟩,
 ⟨1, (some 30), .mv (.tmp 38), none, []⟩])))))))
 (.seq (.reg [⟨0, (some 39), .call 59 [(.tmp 5), (.con (.string ⟨#[10]⟩))], none, []⟩])
 (.seq (.seq (.reg [⟨0, (some 40), .fieldA 0 (.tmp 1), none, []⟩,
 ⟨1, (some 41), .load none (.tmp 40), none, []⟩,
 ⟨2, (some 42), .len (.tmp 41), none, []⟩,
 ⟨3, (some 43), .mv (.con (.int .i64 0)), none, []⟩])
 (.block 2
 (.loop
 (.seq (.reg [⟨0, (some 44), .bin .lss 3 false (.tmp 43) (.tmp 42), none, []⟩])
 (.seq (.cond (.tmp 44)
 (.skip)
 (.exit 2))
 (.seq (.block 3
 (.seq (.reg [⟨0, (some 45), .idxA none 1 (.tmp 41) (.tmp 43), none, []⟩,
 ⟨1, (some 46), .load none (.tmp 45), none, []⟩,
 ⟨2, (some 9), .mv (.tmp 46), none, []⟩])
 (.reg [⟨0, (some 47), .mv (.tmp 9), none, []⟩,
 ⟨1, (some 48), .call 60 [(.tmp 47)], none, []⟩,
 ⟨2, (some 49), .bin .add 9 true (.con (.string ⟨#[97, 114, 114, 97, 121, 32]⟩)) (.tmp 48), none, []⟩,
 ⟨3, (some 50), .bin .add 9 true (.tmp 49) (.con (.string ⟨#[10]⟩)), none, []⟩,
 ⟨4, (some 51), .call 59 [(.tmp 5), (.tmp 50)], none, []⟩])))
 (.reg [⟨0, (some 52), .bin .add 3 true (.tmp 43) (.con (.int .i64 1)), none, []⟩,
 ⟨1, (some 43), .mv (.tmp 52), none, []⟩])))))))
 (.seq (.seq (.reg [⟨0, (some 53), .fieldA 5 (.tmp 1), none, []⟩,
 ⟨1, (some 54), .load none (.tmp 53), none, []⟩,
 ⟨2, (some 55), .len (.tmp 54), none, []⟩,
 ⟨3, (some 56), .mv (.con (.int .i64 0)), none, []⟩])
 (.block 4
 (.loop
 (.seq (.reg [⟨0, (some 57), .bin .lss 3 false (.tmp 56) (.tmp 55), none, []⟩])
 (.seq (.cond (.tmp 57)
 (.skip)
 (.exit 4))
 (.seq (.block 5
 (.seq (.reg [⟨0, (some 58), .idxA none 2 (.tmp 54) (.tmp 56), none, []⟩,
 ⟨1, (some 59), .load (some 2) (.tmp 58), none, []⟩,
 ⟨2, (some 11), .alloc [(.slice none 0 0), (.int .i64 0)], none, []⟩,
 ⟨3, none, .store 2 (.tmp 11) (.tmp 59), none, []⟩])
 (.seq (.reg [⟨0, (some 60), .fieldA 1 (.tmp 11), none, []⟩,
 ⟨1, (some 61), .load none (.tmp 60), none, []⟩,
 ⟨2, (some 62), .call 60 [(.tmp 61)], none, []⟩,
 ⟨3, (some 63), .bin .add 9 true (.con (.string ⟨#[119, 111, 114, 100, 32]⟩)) (.tmp 62), none, []⟩,
 ⟨4, (some 64), .bin .add 9 true (.tmp 63) (.con (.string ⟨#[10]⟩)), none, []⟩,
 ⟨5, (some 65), .call 59 [(.tmp 5), (.tmp 64)], none, []⟩])
 (.seq (.reg [⟨0, (some 66), .fieldA 0 (.tmp 11), none, []⟩,
 ⟨1, (some 67), .load none (.tmp 66), none, []⟩,
 ⟨2, (some 68), .len (.tmp 67), none, []⟩,
 ⟨3, (some 69), .mv (.con (.int .i64 0)), none, []⟩])
 (.block 6
 (.loop
 (.seq (.reg [⟨0, (some 70), .bin .lss 3 false (.tmp 69) (.tmp 68), none, []⟩])
 (.seq (.cond (.tmp 70)
 (.skip)
 (.exit 6))
 (.seq (.block 7
 (.seq (.reg [⟨0, (some 71), .idxA none 7 (.tmp 67) (.tmp 69), none, []⟩,
 ⟨1, (some 72), .load (some 7) (.tmp 71), none, []⟩,
 ⟨2, (some 13), .alloc [(.int .i64 0), (.int .i64 0), (.int .i64 0), (.int .i64 0), (.int .i64 0), (.int .i64 0), (.int .i64 0)], none, []⟩,
 ⟨3, none, .store 7 (.tmp 13) (.tmp 72), none, []⟩])
 (.reg [⟨0, (some 73), .load (some 7) (.tmp 13), none, []⟩,
 ⟨1, (some 74), .call 61 [(.tmp 73)], none, []⟩,
 ⟨2, (some 75), .bin .add 9 true (.con (.string ⟨#[32, 32]⟩)) (.tmp 74), none, []⟩,
 ⟨3, (some 76), .bin .add 9 true (.tmp 75) (.con (.string ⟨#[10]⟩)), none, []⟩,
 ⟨4, (some 77), .call 59 [(.tmp 5), (.tmp 76)], none, []⟩])))
 (.reg [⟨0, (some 78), .bin .add 3 true (.tmp 69) (.con (.int .i64 1)), none, []⟩,
 ⟨1, (some 69), .mv (.tmp 78), none, []⟩]))))))))))
 (.reg [⟨0, (some 79), .bin .add 3 true (.tmp 56) (.con (.int .i64 1)), none, []⟩,
 ⟨1, (some 56), .mv (.tmp 79), none, []⟩])))))))
 (.seq (.reg [⟨0, (some 80), .call 62 [(.tmp 5)], none, []⟩,
 ⟨1, (some 2), .mv (.tmp 80), none, []⟩,
 ⟨2, (some 3), .mv (.con (.int .i64 0)), none, []⟩])
 (.ret))))))))),
 [.tmp 2, .tmp 3]⟩
theorem p_words_Text : prepFun Go.Proofs.Tryz.prog [0, 1, 2] Go.Proofs.Tryz.f24 = some v_words_Text := by kernel_rfl

def v_words_Parse : VFun :=
⟨.seq (.reg [⟨0, (some 2), .alloc [(.slice none 0 0), (.int .i64 0), (.int .i64 0), (.int .i64 0), (.int .i64 0), (.slice none 0 0)], none, []⟩,
 ⟨1, (some 3), .mv (.con (.int .i64 0)), none, []⟩,
 ⟨2, (some 4), .mv (.con (.int .i64 0)), none, []⟩])
 (.seq (.seq (.reg [⟨0, (some 9), .mv (.tmp 0), none, []⟩,
 ⟨1, (some 10), .bi .len [9] 3 [(.tmp 9)], none, []⟩,
 ⟨2, (some 11), .bin .gtr 3 true (.tmp 10) (.con (.int .i64 2000000)), none, []⟩])
 (.cond (.tmp 11)
 (.seq (.reg [⟨0, (some 12), .build [(.slice none 0 0), (.int .i64 0), (.int .i64 0), (.int .i64 0), (.int .i64 0), (.slice none 0 0)] [], none, []⟩,
 ⟨1, none, .store 6 (.tmp 2) (.tmp 12), none, []⟩,
 ⟨2, (some 3), .mv (.con (.int .i64 0)), none, []⟩,
 ⟨3, (some 4), .mv (.con (.int .i64 3)), none, []⟩])
 (.ret))
 (.skip)))
 (.seq (.reg [⟨0, (some 13), .mv (.tmp 0), none, []⟩,
 ⟨1, (some 14), .build [(.string ⟨#[]⟩), (.int .i64 0)] [(0, 1, (.tmp 13)), (1, 1, (.con (.int .i64 1)))], none, []⟩,
 ⟨2, (some 15), .box (.tmp 14), none, []⟩,
 ⟨3, (some 5), .mv (.tmp 15), none, []⟩])
 (.seq (.reg [⟨0, (some 17), .mv (.tmp 5), none, []⟩,
 ⟨1, (some 18), .call 65 [(.tmp 17)], none, []⟩,
 ⟨2, (some 16), .mv (.tmp 18), none, []⟩,
 ⟨3, (some 19), .ext (.tmp 16) 0, none, []⟩,
 ⟨4, (some 20), .ext (.tmp 16) 1, none, []⟩,
 ⟨5, (some 6), .alloc [(.slice none 0 0), (.int .i64 0), (.int .i64 0), (.int .i64 0), (.int .i64 0), (.slice none 0 0)], none, []⟩,
 ⟨6, none, .store 6 (.tmp 6) (.tmp 19), none, []⟩,
 ⟨7, (some 7), .mv (.tmp 20), none, []⟩])
 (.seq (.seq (.reg [⟨0, (some 21), .mv (.tmp 7), none, []⟩,
 ⟨1, (some 22), .un .not (.tmp 21), none, []⟩])
 (.cond (.tmp 22)
 (.seq (.reg [⟨0, (some 23), .build [(.slice none 0 0), (.int .i64 0), (.int .i64 0), (.int .i64 0), (.int .i64 0), (.slice none 0 0)] [], none, []⟩,
 ⟨1, (some 24), .mv (.tmp 5), none, []⟩,
 ⟨2, (some 25), .nilck (.tmp 24), none, []⟩,
 ⟨3, (some 26), .fieldA 1 (.tmp 25), none, []⟩,
 ⟨4, (some 27), .load none (.tmp 26), none, []⟩,
 ⟨5, none, .store 6 (.tmp 2) (.tmp 23), none, [(.tmp 26)]⟩,
 ⟨6, (some 3), .mv (.tmp 27), none, []⟩,
 ⟨7, (some 4), .mv (.con (.int .i64 4)), none, []⟩])
 (.ret))
 (.skip)))
 (.seq (.seq (.reg [⟨0, (some 28), .load (some 6) (.tmp 6), none, []⟩,
 ⟨1, (some 29), .call 29 [(.tmp 28)], none, []⟩,
 ⟨2, (some 8), .mv (.tmp 29), none, []⟩])
 (.seq (.reg [⟨0, (some 30), .mv (.tmp 8), none, []⟩,
 ⟨1, (some 31), .bin .neq 27 true (.tmp 30) (.con (.int .i64 0)), none, []⟩])
 (.cond (.tmp 31)
 (.seq (.reg [⟨0, (some 32), .build [(.slice none 0 0), (.int .i64 0), (.int .i64 0), (.int .i64 0), (.int .i64 0), (.slice none 0 0)] [], none, []⟩,
 ⟨1, (some 33), .mv (.tmp 8), none, []⟩,
 ⟨2, none, .store 6 (.tmp 2) (.tmp 32), none, []⟩,
 ⟨3, (some 3), .mv (.con (.int .i64 0)), none, []⟩,
 ⟨4, (some 4), .mv (.tmp 33), none, []⟩])
 (.ret))
 (.skip))))
 (.seq (.reg [⟨0, (some 34), .fieldA 0 (.tmp 6), none, []⟩,
 ⟨1, (some 35), .load none (.tmp 34), none, []⟩,
 ⟨2, (some 36), .call 66 [(.tmp 35)], none, []⟩,
 ⟨3, (some 37), .fieldA 0 (.tmp 6), none, []⟩,
 ⟨4, none, .store 1 (.tmp 37) (.tmp 36), none, []⟩])
 (.seq (.reg [⟨0, (some 38), .load (some 6) (.tmp 6), none, []⟩,
 ⟨1, none, .store 6 (.tmp 2) (.tmp 38), none, []⟩,
 ⟨2, (some 3), .mv (.con (.int .i64 0)), none, []⟩,
 ⟨3, (some 4), .mv (.con (.int .i64 0)), none, []⟩])
 (.ret)))))))),
 [.cell 2 (some 6), .tmp 3, .tmp 4]⟩
theorem p_words_Parse : prepFun Go.Proofs.Tryz.prog [0, 1, 2] Go.Proofs.Tryz.f26 = some v_words_Parse := by kernel_rfl

def v_words_Same : VFun :=
⟨.seq (.reg [⟨0, (some 2), .box (.tmp 0), none, []⟩,
 ⟨1, (some 3), .box (.tmp 1), none, []⟩,
 ⟨2, (some 4), .mv (.con (.bool false)), none, []⟩])
 (.seq (.reg [⟨0, (some 5), .fieldA 0 (.tmp 2), none, []⟩,
 ⟨1, (some 6), .load none (.tmp 5), none, []⟩,
 ⟨2, (some 7), .fieldA 0 (.tmp 3), none, []⟩,
 ⟨3, (some 8), .load none (.tmp 7), none, []⟩,
 ⟨4, (some 9), .call 68 [(.tmp 6), (.tmp 8)], none, []⟩,
 ⟨5, (some 10), .mv (.tmp 9), none, []⟩,
 ⟨6, (some 11), .fieldA 1 (.tmp 2), (some (10, true)), []⟩,
 ⟨7, (some 12), .load none (.tmp 11), (some (10, true)), []⟩,
 ⟨8, (some 13), .fieldA 1 (.tmp 3), (some (10, true)), []⟩,
 ⟨9, (some 14), .load none (.tmp 13), (some (10, true)), []⟩,
 ⟨10, (some 15), .bin .eql 3 false (.tmp 12) (.tmp 14), (some (10, true)), []⟩,
 ⟨11, (some 16), .pick (.tmp 10) (.tmp 15) (.con (.bool false)), none, []⟩,
 ⟨12, (some 17), .mv (.tmp 16), none, []⟩,
 ⟨13, (some 18), .fieldA 2 (.tmp 2), (some (17, true)), []⟩,
 ⟨14, (some 19), .load none (.tmp 18), (some (17, true)), []⟩,
 ⟨15, (some 20), .fieldA 2 (.tmp 3), (some (17, true)), []⟩,
 ⟨16, (some 21), .load none (.tmp 20), (some (17, true)), []⟩,
 ⟨17, (some 22), .bin .eql 3 false (.tmp 19) (.tmp 21), (some (17, true)), []⟩,
 ⟨18, (some 23), .pick (.tmp 17) (.tmp 22) (.con (.bool false)), none, []⟩,
 ⟨19, (some 24), .mv (.tmp 23), none, []⟩,
 ⟨20, (some 25), .fieldA 3 (.tmp 2), (some (24, true)), []⟩,
 ⟨21, (some 26), .load none (.tmp 25), (some (24, true)), []⟩,
 ⟨22, (some 27), .fieldA 3 (.tmp 3), (some (24, true)), []⟩,
 ⟨23, (some 28), .load none (.tmp 27), (some (24, true)), []⟩,
 ⟨24, (some 29), .bin .eql 3 false (.tmp 26) (.tmp 28), (some (24, true)), []⟩,
 ⟨25, (some 30), .pick (.tmp 24) (.tmp 29) (.con (.bool false)), none, []⟩,
 ⟨26, (some 31), .mv (.tmp 30), none, []⟩,
 ⟨27, (some 32), .fieldA 4 (.tmp 2), (some (31, true)), []⟩,
 ⟨28, (some 33), .load none (.tmp 32), (some (31, true)), []⟩,
 ⟨29, (some 34), .fieldA 4 (.tmp 3), (some (31, true)), []⟩,
 ⟨30, (some 35), .load none (.tmp 34), (some (31, true)), []⟩,
 ⟨31, (some 36), .bin .eql 3 false (.tmp 33) (.tmp 35), (some (31, true)), []⟩,
 ⟨32, (some 37), .pick (.tmp 31) (.tmp 36) (.con (.bool false)), none, []⟩,
 ⟨33, (some 38), .mv (.tmp 37), none, []⟩,
 ⟨34, (some 39), .fieldA 5 (.tmp 2), (some (38, true)), []⟩,
 ⟨35, (some 40), .load none (.tmp 39), (some (38, true)), []⟩,
 ⟨36, (some 41), .fieldA 5 (.tmp 3), (some (38, true)), []⟩,
 ⟨37, (some 42), .load none (.tmp 41), (some (38, true)), []⟩,
 ⟨38, (some 43), .call 69 [(.tmp 40), (.tmp 42), (.fn 70)], (some (38, true)), []⟩,
 ⟨39, (some 44), .pick (.tmp 38) (.tmp 43) (.con (.bool false)), none, []⟩,
 ⟨40, (some 4), .mv (.tmp 44), none, []⟩])
 (.ret)),
 [.tmp 4]⟩
theorem p_words_Same : prepFun Go.Proofs.Tryz.prog [0, 1, 2] Go.Proofs.Tryz.f28 = some v_words_Same := by kernel_rfl

def v_words_Check : VFun :=
⟨.seq (.reg [⟨0, (some 1), .box (.tmp 0), none, []⟩,
 ⟨1, (some 2), .mv (.con (.int .i64 0)), none, []⟩])
 (.seq (.seq (.reg [⟨0, (some 10), .load (some 6) (.tmp 1), none, []⟩,
 ⟨1, (some 11), .call 73 [(.tmp 10), (.con (.int .i64 1))], none, []⟩,
 ⟨2, (some 12), .call 72 [(.tmp 11)], none, []⟩,
 ⟨3, (some 3), .mv (.tmp 12), none, []⟩])
 (.seq (.reg [⟨0, (some 13), .mv (.tmp 3), none, []⟩,
 ⟨1, (some 14), .bin .neq 27 true (.tmp 13) (.con (.int .i64 0)), none, []⟩])
 (.cond (.tmp 14)
 (.seq (.reg [⟨0, (some 15), .mv (.tmp 3), none, []⟩,
 ⟨1, (some 2), .mv (.tmp 15), none, []⟩])
 (.ret))
 (.skip))))
 (.seq (.seq (.reg [⟨0, (some 16), .fieldA 5 (.tmp 1), none, []⟩,
 ⟨1, (some 17), .load none (.tmp 16), none, []⟩,
 ⟨2, (some 18), .len (.tmp 17), none, []⟩,
 ⟨3, (some 19), .bin .eql 3 true (.tmp 18) (.con (.int .i64 0)), none, []⟩,
 ⟨4, (some 20), .mv (.tmp 19), none, []⟩,
 ⟨5, (some 21), .fieldA 5 (.tmp 1), (some (20, false)), []⟩,
 ⟨6, (some 22), .load none (.tmp 21), (some (20, false)), []⟩,
 ⟨7, (some 23), .len (.tmp 22), (some (20, false)), []⟩,
 ⟨8, (some 24), .bin .gtr 3 true (.tmp 23) (.con (.int .i64 60000)), (some (20, false)), []⟩,
 ⟨9, (some 25), .pick (.tmp 20) (.con (.bool true)) (.tmp 24), none, []⟩])
 (.cond (.tmp 25)
 (.seq (.reg [⟨0, (some 2), .mv (.con (.int .i64 3)), none, []⟩])
 (.ret))
 (.skip)))
 (.seq (.reg [⟨0, (some 4), .mv (.con (.int .i64 0)), none, []⟩])
 (.seq (.seq (.reg [⟨0, (some 26), .fieldA 5 (.tmp 1), none, []⟩,
 ⟨1, (some 27), .load none (.tmp 26), none, []⟩,
 ⟨2, (some 28), .len (.tmp 27), none, []⟩,
 ⟨3, (some 29), .mv (.con (.int .i64 0)), none, []⟩])
 (.block 0
 (.loop
 (.seq (.reg [⟨0, (some 30), .bin .lss 3 false (.tmp 29) (.tmp 28), none, []⟩])
 (.seq (.cond (.tmp 30)
 (.skip)
 (.exit 0))
 (.seq (.block 1
 (.seq (.reg [⟨0, (some 31), .idxA none 2 (.tmp 27) (.tmp 29), none, []⟩,
 ⟨1, (some 32), .load (some 2) (.tmp 31), none, []⟩,
 ⟨2, (some 6), .alloc [(.slice none 0 0), (.int .i64 0)], none, []⟩,
 ⟨3, none, .store 2 (.tmp 6) (.tmp 32), none, []⟩])
 (.seq (.seq (.reg [⟨0, (some 33), .fieldA 1 (.tmp 6), none, []⟩,
 ⟨1, (some 34), .load none (.tmp 33), none, []⟩,
 ⟨2, (some 35), .bin .neq 3 true (.tmp 34) (.con (.int .i64 (-1))), none, []⟩,
 ⟨3, (some 36), .mv (.tmp 35), none, []⟩,
 ⟨4, (some 37), .fieldA 1 (.tmp 6), (some (36, true)), []⟩,
 ⟨5, (some 38), .load none (.tmp 37), (some (36, true)), []⟩,
 ⟨6, (some 39), .fieldA 5 (.tmp 1), (some (36, true)), []⟩,
 ⟨7, (some 40), .load none (.tmp 39), (some (36, true)), []⟩,
 ⟨8, (some 41), .len (.tmp 40), (some (36, true)), []⟩,
 ⟨9, (some 42), .call 33 [(.tmp 38), (.tmp 41)], (some (36, true)), []⟩,
 ⟨10, (some 43), .un .not (.tmp 42), (some (36, true)), []⟩,
 ⟨11, (some 44), .pick (.tmp 36) (.tmp 43) (.con (.bool false)), none, []⟩])
 (.cond (.tmp 44)
 (.seq (.reg [⟨0, (some 2), .mv (.con (.int .i64 2)), none, []⟩])
 (.ret))
 (.skip)))
 (.seq (.seq (.reg [⟨0, (some 45), .fieldA 0 (.tmp 6), none, []⟩,
 ⟨1, (some 46), .load none (.tmp 45), none, []⟩,
 ⟨2, (some 47), .len (.tmp 46), none, []⟩,
 ⟨3, (some 48), .bin .gtr 3 true (.tmp 47) (.con (.int .i64 400)), none, []⟩])
 (.cond (.tmp 48)
 (.seq (.reg [⟨0, (some 2), .mv (.con (.int .i64 3)), none, []⟩])
 (.ret))
 (.skip)))
 (.seq (.seq (.reg [⟨0, (some 49), .fieldA 0 (.tmp 6), none, []⟩,
 ⟨1, (some 50), .load none (.tmp 49), none, []⟩,
 ⟨2, (some 51), .len (.tmp 50), none, []⟩,
 ⟨3, (some 52), .mv (.con (.int .i64 0)), none, []⟩])
 (.block 2
 (.loop
 (.seq (.reg [⟨0, (some 53), .bin .lss 3 false (.tmp 52) (.tmp 51), none, []⟩])
 (.seq (.cond (.tmp 53)
 (.skip)
 (.exit 2))
 (.seq (.block 3
 (.seq (.reg [⟨0, (some 54), .idxA none 7 (.tmp 50) (.tmp 52), none, []⟩,
 ⟨1, (some 55), .load (some 7) (.tmp 54), none, []⟩,
 ⟨2, (some 8), .alloc [(.int .i64 0), (.int .i64 0), (.int .i64 0), (.int .i64 0), (.int .i64 0), (.int .i64 0), (.int .i64 0)], none, []⟩,
 ⟨3, none, .store 7 (.tmp 8) (.tmp 55), none, []⟩])
 (.seq (.reg [⟨0, (some 56), .load (some 6) (.tmp 1), none, []⟩,
 ⟨1, (some 57), .load (some 7) (.tmp 8), none, []⟩,
 ⟨2, (some 58), .call 74 [(.tmp 56), (.tmp 57)], none, []⟩,
 ⟨3, (some 9), .mv (.tmp 58), none, []⟩])
 (.seq (.reg [⟨0, (some 59), .mv (.tmp 9), none, []⟩,
 ⟨1, (some 60), .bin .neq 27 true (.tmp 59) (.con (.int .i64 0)), none, []⟩])
 (.cond (.tmp 60)
 (.seq (.reg [⟨0, (some 61), .mv (.tmp 9), none, []⟩,
 ⟨1, (some 2), .mv (.tmp 61), none, []⟩])
 (.ret))
 (.skip))))))
 (.reg [⟨0, (some 62), .bin .add 3 true (.tmp 52) (.con (.int .i64 1)), none, []⟩,
 ⟨1, (some 52), .mv (.tmp 62), none, []⟩])))))))
 (.reg [⟨0, (some 63), .mv (.tmp 4), none, []⟩,
 ⟨1, (some 64), .fieldA 0 (.tmp 6), none, []⟩,
 ⟨2, (some 65), .load none (.tmp 64), none, []⟩,
 ⟨3, (some 66), .len (.tmp 65), none, []⟩,
 ⟨4, (some 67), .bin .add 3 false (.tmp 63) (.tmp 66), none, []⟩,
 ⟨5, (some 4), .mv (.tmp 67), none, []⟩]))))))
 (.reg [⟨0, (some 68), .bin .add 3 true (.tmp 29) (.con (.int .i64 1)), none, []⟩,
 ⟨1, (some 29), .mv (.tmp 68), none, []⟩])))))))
 (.seq (.seq (.reg [⟨0, (some 69), .fieldA 5 (.tmp 1), none, []⟩,
 ⟨1, (some 70), .load none (.tmp 69), none, []⟩,
 ⟨2, (some 71), .fieldA 5 (.tmp 1), none, []⟩,
 ⟨3, (some 72), .load none (.tmp 71), none, []⟩,
 ⟨4, (some 73), .len (.tmp 72), none, []⟩,
 ⟨5, (some 74), .bin .sub 3 true (.tmp 73) (.con (.int .i64 1)), none, []⟩,
 ⟨6, (some 75), .idxA none 2 (.tmp 70) (.tmp 74), none, []⟩,
 ⟨7, (some 76), .fieldA 0 (.tmp 75), none, []⟩,
 ⟨8, (some 77), .load none (.tmp 76), none, []⟩,
 ⟨9, (some 78), .call 75 [(.tmp 77), (.fn 76)], none, []⟩,
 ⟨10, (some 79), .un .not (.tmp 78), none, []⟩])
 (.cond (.tmp 79)
 (.seq (.reg [⟨0, (some 2), .mv (.con (.int .i64 4)), none, []⟩])
 (.ret))
 (.skip)))
 (.seq (.seq (.reg [⟨0, (some 80), .mv (.tmp 4), none, []⟩,
 ⟨1, (some 81), .bin .gtr 3 true (.tmp 80) (.con (.int .i64 80000)), none, []⟩])
 (.cond (.tmp 81)
 (.seq (.reg [⟨0, (some 2), .mv (.con (.int .i64 3)), none, []⟩])
 (.ret))
 (.skip)))
 (.seq (.reg [⟨0, (some 2), .mv (.con (.int .i64 0)), none, []⟩])
 (.ret)))))))),
 [.tmp 2]⟩
theorem p_words_Check : prepFun Go.Proofs.Tryz.prog [0, 1, 2] Go.Proofs.Tryz.f29 = some v_words_Check := by kernel_rfl

def v_r26_Cut : VFun :=
⟨.seq (.reg [⟨0, (some 3), .box (.tmp 0), none, []⟩,
 ⟨1, (some 6), .alloc [(.slice none 0 0), (.int .i64 0), (.int .i64 0), (.int .i64 0), (.int .i64 0), (.slice none 0 0)], none, []⟩])
 (.seq (.reg [⟨0, (some 9), .fieldA 1 (.tmp 3), none, []⟩,
 ⟨1, (some 10), .load none (.tmp 9), none, []⟩,
 ⟨2, (some 11), .fieldA 2 (.tmp 3), none, []⟩,
 ⟨3, (some 12), .load none (.tmp 11), none, []⟩,
 ⟨4, (some 13), .fieldA 3 (.tmp 3), none, []⟩,
 ⟨5, (some 14), .load none (.tmp 13), none, []⟩,
 ⟨6, (some 15), .fieldA 4 (.tmp 3), none, []⟩,
 ⟨7, (some 16), .load none (.tmp 15), none, []⟩,
 ⟨8, (some 17), .bslice 1 0 [(.int .i64 0)] [], none, []⟩,
 ⟨9, (some 18), .fieldA 0 (.tmp 3), none, []⟩,
 ⟨10, (some 19), .load none (.tmp 18), none, []⟩,
 ⟨11, (some 20), .fieldA 0 (.tmp 3), none, []⟩,
 ⟨12, (some 21), .load none (.tmp 20), none, []⟩,
 ⟨13, (some 22), .len (.tmp 21), none, []⟩,
 ⟨14, (some 23), .bi .min [3, 3] 3 [(.tmp 22), (.con (.int .i64 17))], none, []⟩,
 ⟨15, (some 24), .slice none 1 (.tmp 19) none (some (.tmp 23)) none, none, []⟩,
 ⟨18, (some 7), .alloc [(.slice none 0 0), (.int .i64 0), (.int .i64 0), (.int .i64 0), (.int .i64 0), (.slice none 0 0)], none, []⟩,
 ⟨16, (some 25), .append 1 8 (.tmp 17) (.tmp 24), none, [(.tmp 9), (.tmp 11), (.tmp 13), (.tmp 15)]⟩,
 ⟨17, (some 26), .build [(.slice none 0 0), (.int .i64 0), (.int .i64 0), (.int .i64 0), (.int .i64 0), (.slice none 0 0)] [(1, 1, (.tmp 10)), (2, 1, (.tmp 12)), (3, 1, (.tmp 14)), (4, 1, (.tmp 16)), (0, 1, (.tmp 25))], none, []⟩,
 ⟨19, none, .store 6 (.tmp 7) (.tmp 26), none, []⟩])
 (.seq (.seq (.reg [⟨0, (some 8), .mv (.con (.int .i64 0)), none, []⟩])
 (.block 0
 (.loop
 (.seq (.seq (.reg [⟨0, (some 27), .mv (.tmp 8), none, []⟩,
 ⟨1, (some 28), .fieldA 5 (.tmp 3), none, []⟩,
 ⟨2, (some 29), .load none (.tmp 28), none, []⟩,
 ⟨3, (some 30), .len (.tmp 29), none, []⟩,
 ⟨4, (some 31), .bin .lss 3 false (.tmp 27) (.tmp 30), none, []⟩,
 ⟨5, (some 32), .mv (.tmp 31), none, []⟩,
 ⟨6, (some 33), .mv (.tmp 8), (some (32, true)), []⟩,
 ⟨7, (some 34), .mv (.tmp 1), (some (32, true)), []⟩,
 ⟨8, (some 35), .bin .lss 3 false (.tmp 33) (.tmp 34), (some (32, true)), []⟩,
 ⟨9, (some 36), .pick (.tmp 32) (.tmp 35) (.con (.bool false)), none, []⟩])
 (.cond (.tmp 36)
 (.skip)
 (.exit 0)))
 (.seq (.block 1
 (.reg [⟨0, (some 39), .fieldA 5 (.tmp 7), none, []⟩,
 ⟨1, (some 40), .load none (.tmp 39), none, []⟩,
 ⟨2, (some 41), .fieldA 5 (.tmp 3), none, []⟩,
 ⟨3, (some 42), .load none (.tmp 41), none, []⟩,
 ⟨4, (some 43), .mv (.tmp 8), none, []⟩,
 ⟨5, (some 44), .idxA none 2 (.tmp 42) (.tmp 43), none, []⟩,
 ⟨6, (some 45), .fieldA 1 (.tmp 44), none, []⟩,
 ⟨7, (some 46), .load none (.tmp 45), none, []⟩,
 ⟨8, (some 47), .bslice 7 0 [(.int .i64 0), (.int .i64 0), (.int .i64 0), (.int .i64 0), (.int .i64 0), (.int .i64 0), (.int .i64 0)] [], none, []⟩,
 ⟨9, (some 48), .fieldA 5 (.tmp 3), none, []⟩,
 ⟨10, (some 49), .load none (.tmp 48), none, []⟩,
 ⟨11, (some 50), .mv (.tmp 8), none, []⟩,
 ⟨12, (some 51), .idxA none 2 (.tmp 49) (.tmp 50), none, []⟩,
 ⟨13, (some 52), .fieldA 0 (.tmp 51), none, []⟩,
 ⟨14, (some 53), .load none (.tmp 52), none, []⟩,
 ⟨15, (some 54), .fieldA 5 (.tmp 3), none, []⟩,
 ⟨16, (some 55), .load none (.tmp 54), none, []⟩,
 ⟨17, (some 56), .mv (.tmp 8), none, []⟩,
 ⟨18, (some 57), .idxA none 2 (.tmp 55) (.tmp 56), none, []⟩,
 ⟨19, (some 58), .fieldA 0 (.tmp 57), none, []⟩,
 ⟨20, (some 59), .load none (.tmp 58), none, []⟩,
 ⟨21, (some 60), .len (.tmp 59), none, []⟩,
 ⟨22, (some 61), .mv (.tmp 2), none, []⟩,
 ⟨23, (some 62), .bi .min [3, 3] 3 [(.tmp 60), (.tmp 61)], none, []⟩,
 ⟨24, (some 63), .slice none 7 (.tmp 53) none (some (.tmp 62)) none, none, []⟩,
 ⟨25, (some 64), .append 7 56 (.tmp 47) (.tmp 63), none, [(.tmp 39), (.tmp 41), (.tmp 45)]⟩,
 ⟨26, (some 65), .build [(.slice none 0 0), (.int .i64 0)] [(1, 1, (.tmp 46)), (0, 1, (.tmp 64))], none, []⟩,
 ⟨27, (some 66), .bslice 2 1 [(.slice none 0 0), (.int .i64 0)] [(0, 2, (.tmp 65))], none, []⟩,
 ⟨28, (some 67), .append 2 32 (.tmp 40) (.tmp 66), none, []⟩,
 ⟨29, (some 68), .fieldA 5 (.tmp 7), none, []⟩,
 ⟨30, none, .store 1 (.tmp 68) (.tmp 67), none, []⟩]))
 (.reg [⟨0, (some 37), .mv (.tmp 8), none, []⟩,
 ⟨1, (some 38), .bin .add 3 true (.tmp 37) (.con (.int .i64 1)), none, []⟩,
 ⟨2, (some 8), .mv (.tmp 38), none, []⟩]))))))
 (.seq (.reg [⟨0, (some 69), .load (some 6) (.tmp 7), none, []⟩,
 ⟨1, none, .store 6 (.tmp 6) (.tmp 69), none, []⟩])
 (.ret)))),
 [.cell 6 (some 6)]⟩
theorem p_r26_Cut : prepFun Go.Proofs.Tryz.prog [0, 1, 2] Go.Proofs.Tryz.f32 = some v_r26_Cut := by kernel_rfl

def v_words_within : VFun :=
⟨.seq (.reg [⟨0, (some 4), .mv (.con (.bool false)), none, []⟩])
 (.seq (.reg [⟨0, (some 5), .mv (.tmp 0), none, []⟩,
 ⟨1, (some 6), .bin .geq 3 true (.tmp 5) (.con (.int .i64 0)), none, []⟩,
 ⟨2, (some 7), .mv (.tmp 6), none, []⟩,
 ⟨3, (some 8), .mv (.tmp 0), (some (7, true)), []⟩,
 ⟨4, (some 9), .mv (.tmp 1), (some (7, true)), []⟩,
 ⟨5, (some 10), .bin .lss 3 false (.tmp 8) (.tmp 9), (some (7, true)), []⟩,
 ⟨6, (some 11), .pick (.tmp 7) (.tmp 10) (.con (.bool false)), none, []⟩,
 ⟨7, (some 4), .mv (.tmp 11), none, []⟩])
 (.ret)),
 [.tmp 4]⟩
theorem p_words_within : prepFun Go.Proofs.Tryz.prog [0, 1, 2] Go.Proofs.Tryz.f33 = some v_words_within := by kernel_rfl

def v_words_next : VFun :=
⟨.seq (.reg [⟨0, (some 2), .box (.tmp 0), none, []⟩,
 ⟨1, (some 4), .mv (.con (.slice none 0 0)), none, []⟩])
 (.seq (.reg [⟨0, (some 5), .alloc [(.slice none 0 0)], none, []⟩])
 (.seq (.reg [⟨0, (some 6), .load (some 6) (.tmp 2), none, []⟩,
 ⟨1, (some 7), .mv (.tmp 1), none, []⟩,
 ⟨2, (some 8), .mkfn 84 [] [(.tmp 5)], none, []⟩,
 ⟨3, (some 9), .call 83 [(.tmp 6), (.tmp 7), (.tmp 8)], none, []⟩])
 (.seq (.reg [⟨0, (some 10), .load none (.tmp 5), none, []⟩,
 ⟨1, (some 11), .call 85 [(.tmp 10)], none, []⟩])
 (.seq (.reg [⟨0, (some 12), .load none (.tmp 5), none, []⟩,
 ⟨1, (some 13), .call 86 [(.tmp 12)], none, []⟩,
 ⟨2, (some 4), .mv (.tmp 13), none, []⟩])
 (.ret))))),
 [.tmp 4]⟩
theorem p_words_next : prepFun Go.Proofs.Tryz.prog [0, 1, 2] Go.Proofs.Tryz.f34 = some v_words_next := by kernel_rfl

def v_words_Met : VFun :=
⟨.seq (.reg [⟨0, (some 1), .box (.tmp 0), none, []⟩,
 ⟨1, (some 2), .mv (.con (.slice none 0 0)), none, []⟩])
 (.seq (.reg [⟨0, (some 8), .fieldA 5 (.tmp 1), none, []⟩,
 ⟨1, (some 9), .load none (.tmp 8), none, []⟩,
 ⟨2, (some 10), .len (.tmp 9), none, []⟩,
 ⟨3, (some 11), .mksl 1 1 [(.bool false)] (.tmp 10) (.tmp 10), none, []⟩,
 ⟨4, (some 3), .mv (.tmp 11), none, []⟩])
 (.seq (.reg [⟨0, (some 12), .mv (.tmp 3), none, []⟩,
 ⟨1, (some 13), .idxA none 1 (.tmp 12) (.con (.int .i64 0)), none, []⟩,
 ⟨2, none, .store 1 (.tmp 13) (.con (.bool true)), none, []⟩])
 (.seq (.seq (.reg [⟨0, (some 14), .bslice 1 1 [(.int .i64 0)] [(0, 1, (.con (.int .i64 0)))], none, []⟩,
 ⟨1, (some 4), .mv (.tmp 14), none, []⟩])
 (.block 0
 (.loop
 (.seq (.seq (.reg [⟨0, (some 15), .mv (.tmp 4), none, []⟩,
 ⟨1, (some 16), .len (.tmp 15), none, []⟩,
 ⟨2, (some 17), .bin .gtr 3 true (.tmp 16) (.con (.int .i64 0)), none, []⟩])
 (.cond (.tmp 17)
 (.skip)
 (.exit 0)))
 (.block 1
 (.seq (.reg [⟨0, (some 18), .mv (.tmp 4), none, []⟩,
 ⟨1, (some 19), .mv (.tmp 4), none, []⟩,
 ⟨2, (some 20), .len (.tmp 19), none, []⟩,
 ⟨3, (some 21), .bin .sub 3 true (.tmp 20) (.con (.int .i64 1)), none, []⟩,
 ⟨4, (some 22), .idxA none 1 (.tmp 18) (.tmp 21), none, []⟩,
 ⟨5, (some 23), .load none (.tmp 22), none, []⟩,
 ⟨6, (some 5), .mv (.tmp 23), none, []⟩])
 (.seq (.reg [⟨0, (some 24), .mv (.tmp 4), none, []⟩,
 ⟨1, (some 25), .mv (.tmp 4), none, []⟩,
 ⟨2, (some 26), .len (.tmp 25), none, []⟩,
 ⟨3, (some 27), .bin .sub 3 true (.tmp 26) (.con (.int .i64 1)), none, []⟩,
 ⟨4, (some 28), .slice none 1 (.tmp 24) none (some (.tmp 27)) none, none, []⟩,
 ⟨5, (some 4), .mv (.tmp 28), none, []⟩])
 (.seq (.reg [⟨0, (some 29), .load (some 6) (.tmp 1), none, []⟩,
 ⟨1, (some 30), .mv (.tmp 5), none, []⟩,
 ⟨2, (some 31), .call 34 [(.tmp 29), (.tmp 30)], none, []⟩,
 ⟨3, (some 32), .len (.tmp 31), none, []⟩,
 ⟨4, (some 33), .mv (.con (.int .i64 0)), none, []⟩])
 (.block 2
 (.loop
 (.seq (.reg [⟨0, (some 34), .bin .lss 3 false (.tmp 33) (.tmp 32), none, []⟩])
 (.seq (.cond (.tmp 34)
 (.skip)
 (.exit 2))
 (.seq (.block 3
 (.seq (.reg [⟨0, (some 35), .idxA none 1 (.tmp 31) (.tmp 33), none, []⟩,
 ⟨1, (some 36), .load none (.tmp 35), none, []⟩,
 ⟨2, (some 7), .mv (.tmp 36), none, []⟩])
 (.seq (.reg [⟨0, (some 37), .mv (.tmp 3), none, []⟩,
 ⟨1, (some 38), .mv (.tmp 7), none, []⟩,
 ⟨2, (some 39), .idxA none 1 (.tmp 37) (.tmp 38), none, []⟩,
 ⟨3, (some 40), .load none (.tmp 39), none, []⟩,
 ⟨4, (some 41), .un .not (.tmp 40), none, []⟩])
 (.cond (.tmp 41)
 (.seq (.reg [⟨0, (some 42), .mv (.tmp 3), none, []⟩,
 ⟨1, (some 43), .mv (.tmp 7), none, []⟩,
 ⟨2, (some 44), .idxA none 1 (.tmp 42) (.tmp 43), none, []⟩,
 ⟨3, none, .store 1 (.tmp 44) (.con (.bool true)), none, []⟩])
 (.reg [⟨0, (some 45), .mv (.tmp 4), none, []⟩,
 ⟨1, (some 46), .mv (.tmp 7), none, []⟩,
 ⟨2, (some 47), .bslice 1 1 [(.int .i64 0)] [(0, 1, (.tmp 46))], none, []⟩,
 ⟨3, (some 48), .append 1 8 (.tmp 45) (.tmp 47), none, []⟩,
 ⟨4, (some 4), .mv (.tmp 48), none, []⟩]))
 (.skip)))))
 (.reg [⟨0, (some 49), .bin .add 3 true (.tmp 33) (.con (.int .i64 1)), none, []⟩,
 ⟨1, (some 33), .mv (.tmp 49), none, []⟩]))))))))))))))
 (.seq (.reg [⟨0, (some 50), .mv (.tmp 3), none, []⟩,
 ⟨1, (some 2), .mv (.tmp 50), none, []⟩])
 (.ret))))),
 [.tmp 2]⟩
theorem p_words_Met : prepFun Go.Proofs.Tryz.prog [0, 1, 2] Go.Proofs.Tryz.f35 = some v_words_Met := by kernel_rfl

end Go.VX.Seat
end
section
set_option maxRecDepth 20000
/-! MADE BY PROGRAM (lits.py): functions as they are prepared. -/
namespace Go.VX.Seat
def v_l26_example : VFun :=
⟨.seq (.reg [⟨0, (some 0), .alloc [(.slice none 0 0), (.int .i64 0), (.int .i64 0), (.int .i64 0), (.int .i64 0), (.slice none 0 0)], none, []⟩])
 (.seq (.reg [⟨0, (some 1), .build [(.int .i64 0), (.int .i64 0), (.int .i64 0), (.int .i64 0), (.int .i64 0), (.int .i64 0), (.int .i64 0)] [(0, 1, (.con (.int .i64 1))), (5, 1, (.con (.int .i64 7))), (6, 1, (.con (.int .i64 (-1))))], none, []⟩,
 ⟨1, (some 2), .bslice 7 1 [(.int .i64 0), (.int .i64 0), (.int .i64 0), (.int .i64 0), (.int .i64 0), (.int .i64 0), (.int .i64 0)] [(0, 7, (.tmp 1))], none, []⟩,
 ⟨2, (some 3), .build [(.slice none 0 0), (.int .i64 0)] [(0, 1, (.tmp 2)), (1, 1, (.con (.int .i64 (-1))))], none, []⟩,
 ⟨3, (some 4), .build [(.int .i64 0), (.int .i64 0), (.int .i64 0), (.int .i64 0), (.int .i64 0), (.int .i64 0), (.int .i64 0)] [(0, 1, (.con (.int .i64 27))), (6, 1, (.con (.int .i64 (-1))))], none, []⟩,
 ⟨4, (some 5), .bslice 7 1 [(.int .i64 0), (.int .i64 0), (.int .i64 0), (.int .i64 0), (.int .i64 0), (.int .i64 0), (.int .i64 0)] [(0, 7, (.tmp 4))], none, []⟩,
 ⟨5, (some 6), .build [(.slice none 0 0), (.int .i64 0)] [(0, 1, (.tmp 5)), (1, 1, (.con (.int .i64 (-1))))], none, []⟩,
 ⟨6, (some 7), .bslice 2 2 [(.slice none 0 0), (.int .i64 0)] [(0, 2, (.tmp 3)), (2, 2, (.tmp 6))], none, []⟩,
 ⟨7, (some 8), .build [(.slice none 0 0), (.int .i64 0), (.int .i64 0), (.int .i64 0), (.int .i64 0), (.slice none 0 0)] [(2, 1, (.con (.int .i64 1))), (5, 1, (.tmp 7))], none, []⟩,
 ⟨8, none, .store 6 (.tmp 0) (.tmp 8), none, []⟩])
 (.ret)),
 [.cell 0 (some 6)]⟩
theorem p_l26_example : prepFun Go.Proofs.Tryz.prog [0, 1, 2] Go.Proofs.Tryz.f38 = some v_l26_example := by kernel_rfl

def v_words_Writer_Int : VFun :=
⟨.seq (.reg [⟨0, (some 6), .mv (.tmp 1), none, []⟩,
 ⟨1, (some 7), .len (.tmp 6), none, []⟩,
 ⟨2, (some 8), .mv (.con (.int .i64 0)), none, []⟩])
 (.block 0
 (.loop
 (.seq (.reg [⟨0, (some 9), .bin .lss 3 false (.tmp 8) (.tmp 7), none, []⟩])
 (.seq (.cond (.tmp 9)
 (.skip)
 (.exit 0))
 (.seq (.block 1
 (.seq (.reg [⟨0, (some 10), .idxA none 1 (.tmp 6) (.tmp 8), none, []⟩,
 ⟨1, (some 11), .load none (.tmp 10), none, []⟩,
 ⟨2, (some 5), .mv (.tmp 11), none, []⟩])
 (.reg [⟨0, (some 12), .mv (.tmp 0), none, []⟩,
 ⟨1, (some 13), .mv (.tmp 5), none, []⟩,
 ⟨2, (some 14), .call 44 [(.tmp 12), (.tmp 13)], none, []⟩])))
 (.reg [⟨0, (some 15), .bin .add 3 true (.tmp 8) (.con (.int .i64 1)), none, []⟩,
 ⟨1, (some 8), .mv (.tmp 15), none, []⟩])))))),
 []⟩
theorem p_words_Writer_Int : prepFun Go.Proofs.Tryz.prog [0, 1, 2] Go.Proofs.Tryz.f41 = some v_words_Writer_Int := by kernel_rfl

def v_words_regs : VFun :=
⟨.seq (.reg [⟨0, (some 2), .mv (.con (.slice none 0 0)), none, []⟩])
 (.seq (.reg [⟨0, (some 3), .mv (.con (.slice none 0 0)), none, []⟩])
 (.seq (.seq (.reg [⟨0, (some 5), .mv (.tmp 0), none, []⟩,
 ⟨1, (some 6), .nilck (.tmp 5), none, []⟩,
 ⟨2, (some 7), .fieldA 0 (.tmp 6), none, []⟩,
 ⟨3, (some 8), .load none (.tmp 7), none, []⟩,
 ⟨4, (some 9), .call 89 [(.tmp 8)], none, []⟩,
 ⟨5, (some 10), .un .not (.tmp 9), none, []⟩,
 ⟨6, (some 11), .mv (.tmp 10), none, []⟩,
 ⟨7, (some 12), .mv (.tmp 0), (some (11, true)), []⟩,
 ⟨8, (some 13), .nilck (.tmp 12), (some (11, true)), []⟩,
 ⟨9, (some 14), .fieldA 0 (.tmp 13), (some (11, true)), []⟩,
 ⟨10, (some 15), .load none (.tmp 14), (some (11, true)), []⟩,
 ⟨11, (some 16), .build [(.int .i64 0), (.int .i64 0), (.int .i64 0), (.int .i64 0), (.int .i64 0), (.int .i64 0), (.int .i64 0)] [(0, 1, (.tmp 15))], (some (11, true)), []⟩,
 ⟨12, (some 17), .call 90 [(.tmp 16)], (some (11, true)), []⟩,
 ⟨13, (some 18), .bin .eql 3 true (.tmp 17) (.con (.int .i64 0)), (some (11, true)), []⟩,
 ⟨14, (some 19), .pick (.tmp 11) (.tmp 18) (.con (.bool false)), none, []⟩])
 (.cond (.tmp 19)
 (.reg [⟨0, (some 20), .mv (.tmp 3), none, []⟩,
 ⟨1, (some 21), .mv (.tmp 0), none, []⟩,
 ⟨2, (some 22), .nilck (.tmp 21), none, []⟩,
 ⟨3, (some 23), .fieldA 1 (.tmp 22), none, []⟩,
 ⟨4, (some 24), .bslice 1 1 [(.pointer none)] [(0, 1, (.tmp 23))], none, []⟩,
 ⟨5, (some 25), .append 1 8 (.tmp 20) (.tmp 24), none, []⟩,
 ⟨6, (some 3), .mv (.tmp 25), none, []⟩])
 (.skip)))
 (.seq (.reg [⟨0, (some 4), .mv (.con (.int .i64 0)), none, []⟩])
 (.seq (.seq (.reg [⟨0, (some 26), .mv (.tmp 0), none, []⟩,
 ⟨1, (some 27), .nilck (.tmp 26), none, []⟩,
 ⟨2, (some 28), .fieldA 0 (.tmp 27), none, []⟩,
 ⟨3, (some 29), .load none (.tmp 28), none, []⟩])
 (.block 0
 (.seq (.seq (.reg [⟨0, (some 36), .bin .eql 3 true (.tmp 29) (.con (.int .i64 27)), none, []⟩,
 ⟨1, (some 35), .mv (.tmp 36), none, []⟩])
 (.cond (.tmp 35)
 (.skip)
 (.reg [⟨0, (some 37), .bin .eql 3 true (.tmp 29) (.con (.int .i64 28)), none, []⟩,
 ⟨1, (some 35), .mv (.tmp 37), none, []⟩])))
 (.cond (.tmp 35)
 (.reg [⟨0, (some 4), .mv (.con (.int .i64 1)), none, []⟩])
 (.seq (.reg [⟨0, (some 39), .bin .eql 3 true (.tmp 29) (.con (.int .i64 26)), none, []⟩,
 ⟨1, (some 38), .mv (.tmp 39), none, []⟩])
 (.cond (.tmp 38)
 (.skip)
 (.reg [⟨0, (some 30), .mv (.tmp 0), none, []⟩,
 ⟨1, (some 31), .nilck (.tmp 30), none, []⟩,
 ⟨2, (some 32), .load (some 7) (.tmp 31), none, []⟩,
 ⟨3, (some 33), .call 91 [(.tmp 32)], none, []⟩,
 ⟨4, (some 34), .len (.tmp 33), none, []⟩,
 ⟨5, (some 4), .mv (.tmp 34), none, []⟩])))))))
 (.seq (.reg [⟨0, (some 40), .mv (.tmp 3), none, []⟩,
 ⟨1, (some 41), .mv (.tmp 0), none, []⟩,
 ⟨2, (some 42), .nilck (.tmp 41), none, []⟩,
 ⟨3, (some 43), .fieldA 2 (.tmp 42), none, []⟩,
 ⟨4, (some 44), .mv (.tmp 0), none, []⟩,
 ⟨5, (some 45), .nilck (.tmp 44), none, []⟩,
 ⟨6, (some 46), .fieldA 3 (.tmp 45), none, []⟩,
 ⟨7, (some 47), .mv (.tmp 0), none, []⟩,
 ⟨8, (some 48), .nilck (.tmp 47), none, []⟩,
 ⟨9, (some 49), .fieldA 4 (.tmp 48), none, []⟩,
 ⟨10, (some 50), .bslice 1 3 [(.pointer none)] [(0, 1, (.tmp 43)), (1, 1, (.tmp 46)), (2, 1, (.tmp 49))], none, []⟩,
 ⟨11, (some 51), .mv (.tmp 4), none, []⟩,
 ⟨12, (some 52), .slice none 1 (.tmp 50) none (some (.tmp 51)) none, none, []⟩,
 ⟨13, (some 53), .append 1 8 (.tmp 40) (.tmp 52), none, []⟩,
 ⟨14, (some 2), .mv (.tmp 53), none, []⟩])
 (.ret)))))),
 [.tmp 2]⟩
theorem p_words_regs : prepFun Go.Proofs.Tryz.prog [0, 1, 2] Go.Proofs.Tryz.f42 = some v_words_regs := by kernel_rfl

def v_words_hasN : VFun :=
⟨.seq (.reg [⟨0, (some 2), .mv (.con (.bool false)), none, []⟩])
 (.seq (.seq (.reg [⟨0, (some 3), .mv (.tmp 0), none, []⟩])
 (.block 0
 (.seq (.seq (.reg [⟨0, (some 5), .bin .eql 3 true (.tmp 3) (.con (.int .i64 1)), none, []⟩,
 ⟨1, (some 4), .mv (.tmp 5), none, []⟩])
 (.cond (.tmp 4)
 (.skip)
 (.seq (.reg [⟨0, (some 6), .bin .eql 3 true (.tmp 3) (.con (.int .i64 16)), none, []⟩,
 ⟨1, (some 4), .mv (.tmp 6), none, []⟩])
 (.cond (.tmp 4)
 (.skip)
 (.seq (.reg [⟨0, (some 7), .bin .eql 3 true (.tmp 3) (.con (.int .i64 25)), none, []⟩,
 ⟨1, (some 4), .mv (.tmp 7), none, []⟩])
 (.cond (.tmp 4)
 (.skip)
 (.seq (.reg [⟨0, (some 8), .bin .eql 3 true (.tmp 3) (.con (.int .i64 17)), none, []⟩,
 ⟨1, (some 4), .mv (.tmp 8), none, []⟩])
 (.cond (.tmp 4)
 (.skip)
 (.seq (.reg [⟨0, (some 9), .bin .eql 3 true (.tmp 3) (.con (.int .i64 18)), none, []⟩,
 ⟨1, (some 4), .mv (.tmp 9), none, []⟩])
 (.cond (.tmp 4)
 (.skip)
 (.seq (.reg [⟨0, (some 10), .bin .eql 3 true (.tmp 3) (.con (.int .i64 19)), none, []⟩,
 ⟨1, (some 4), .mv (.tmp 10), none, []⟩])
 (.cond (.tmp 4)
 (.skip)
 (.seq (.reg [⟨0, (some 11), .bin .eql 3 true (.tmp 3) (.con (.int .i64 21)), none, []⟩,
 ⟨1, (some 4), .mv (.tmp 11), none, []⟩])
 (.cond (.tmp 4)
 (.skip)
 (.reg [⟨0, (some 12), .bin .eql 3 true (.tmp 3) (.con (.int .i64 26)), none, []⟩,
 ⟨1, (some 4), .mv (.tmp 12), none, []⟩])))))))))))))))
 (.cond (.tmp 4)
 (.seq (.reg [⟨0, (some 2), .mv (.con (.bool true)), none, []⟩])
 (.ret))
 (.skip)))))
 (.seq (.reg [⟨0, (some 2), .mv (.con (.bool false)), none, []⟩])
 (.ret))),
 [.tmp 2]⟩
theorem p_words_hasN : prepFun Go.Proofs.Tryz.prog [0, 1, 2] Go.Proofs.Tryz.f43 = some v_words_hasN := by kernel_rfl

def v_words_Writer_Number : VFun :=
⟨.seq (.reg [⟨0, (some 5), .mv (.tmp 1), none, []⟩,
 ⟨1, (some 6), .conv 2 146 (.tmp 5), none, []⟩,
 ⟨2, (some 7), .bin .shl 146 true (.tmp 6) (.con (.int .u64 1)), none, []⟩,
 ⟨3, (some 4), .mv (.tmp 7), none, []⟩])
 (.seq (.seq (.reg [⟨0, (some 8), .mv (.tmp 1), none, []⟩,
 ⟨1, (some 9), .bin .lss 2 true (.tmp 8) (.con (.int .i64 0)), none, []⟩])
 (.cond (.tmp 9)
 (.reg [⟨0, (some 10), .mv (.tmp 4), none, []⟩,
 ⟨1, (some 11), .un .xor (.tmp 10), none, []⟩,
 ⟨2, (some 4), .mv (.tmp 11), none, []⟩])
 (.skip)))
 (.seq (.block 0
 (.loop
 (.seq (.seq (.reg [⟨0, (some 12), .mv (.tmp 4), none, []⟩,
 ⟨1, (some 13), .bin .geq 146 true (.tmp 12) (.con (.int .u64 128)), none, []⟩])
 (.cond (.tmp 13)
 (.skip)
 (.exit 0)))
 (.seq (.block 1
 (.reg [⟨0, (some 16), .mv (.tmp 0), none, []⟩,
 ⟨1, (some 17), .mv (.tmp 0), none, []⟩,
 ⟨2, (some 18), .nilck (.tmp 17), none, []⟩,
 ⟨3, (some 19), .fieldA 0 (.tmp 18), none, []⟩,
 ⟨4, (some 20), .load none (.tmp 19), none, []⟩,
 ⟨5, (some 21), .mv (.tmp 4), none, []⟩,
 ⟨6, (some 22), .conv 146 5 (.tmp 21), none, []⟩,
 ⟨7, (some 23), .bin .or 5 true (.tmp 22) (.con (.int .u8 128)), none, []⟩,
 ⟨8, (some 24), .bslice 1 1 [(.int .u8 0)] [(0, 1, (.tmp 23))], none, []⟩,
 ⟨9, (some 25), .append 1 1 (.tmp 20) (.tmp 24), none, []⟩,
 ⟨10, (some 26), .nilck (.tmp 16), none, []⟩,
 ⟨11, (some 27), .fieldA 0 (.tmp 26), none, []⟩,
 ⟨12, none, .store 1 (.tmp 27) (.tmp 25), none, []⟩]))
 (.reg [⟨0, (some 14), .mv (.tmp 4), none, []⟩,
 ⟨1, (some 15), .bin .shr 146 true (.tmp 14) (.con (.int .u64 7)), none, []⟩,
 ⟨2, (some 4), .mv (.tmp 15), none, []⟩])))))
 (.reg [⟨0, (some 28), .mv (.tmp 0), none, []⟩,
 ⟨1, (some 29), .mv (.tmp 0), none, []⟩,
 ⟨2, (some 30), .nilck (.tmp 29), none, []⟩,
 ⟨3, (some 31), .fieldA 0 (.tmp 30), none, []⟩,
 ⟨4, (some 32), .load none (.tmp 31), none, []⟩,
 ⟨5, (some 33), .mv (.tmp 4), none, []⟩,
 ⟨6, (some 34), .conv 146 5 (.tmp 33), none, []⟩,
 ⟨7, (some 35), .bslice 1 1 [(.int .u8 0)] [(0, 1, (.tmp 34))], none, []⟩,
 ⟨8, (some 36), .append 1 1 (.tmp 32) (.tmp 35), none, []⟩,
 ⟨9, (some 37), .nilck (.tmp 28), none, []⟩,
 ⟨10, (some 38), .fieldA 0 (.tmp 37), none, []⟩,
 ⟨11, none, .store 1 (.tmp 38) (.tmp 36), none, []⟩]))),
 []⟩
theorem p_words_Writer_Number : prepFun Go.Proofs.Tryz.prog [0, 1, 2] Go.Proofs.Tryz.f44 = some v_words_Writer_Number := by kernel_rfl

def v_words_Writer_Sealed : VFun :=
⟨.seq (.reg [⟨0, (some 2), .mv (.con (.slice none 0 0)), none, []⟩])
 (.seq (.reg [⟨0, (some 4), .mv (.tmp 0), none, []⟩,
 ⟨1, (some 5), .nilck (.tmp 4), none, []⟩,
 ⟨2, (some 6), .fieldA 0 (.tmp 5), none, []⟩,
 ⟨3, (some 7), .load none (.tmp 6), none, []⟩,
 ⟨4, (some 8), .call 92 [(.tmp 7)], none, []⟩,
 ⟨5, (some 3), .mv (.tmp 8), none, []⟩])
 (.seq (.reg [⟨0, (some 9), .mv (.tmp 0), none, []⟩,
 ⟨1, (some 10), .nilck (.tmp 9), none, []⟩,
 ⟨2, (some 11), .fieldA 0 (.tmp 10), none, []⟩,
 ⟨3, (some 12), .load none (.tmp 11), none, []⟩,
 ⟨4, (some 13), .mv (.tmp 3), none, []⟩,
 ⟨5, (some 14), .conv 148 5 (.tmp 13), none, []⟩,
 ⟨6, (some 15), .mv (.tmp 3), none, []⟩,
 ⟨7, (some 16), .bin .shr 148 true (.tmp 15) (.con (.int .u64 8)), none, []⟩,
 ⟨8, (some 17), .conv 148 5 (.tmp 16), none, []⟩,
 ⟨9, (some 18), .mv (.tmp 3), none, []⟩,
 ⟨10, (some 19), .bin .shr 148 true (.tmp 18) (.con (.int .u64 16)), none, []⟩,
 ⟨11, (some 20), .conv 148 5 (.tmp 19), none, []⟩,
 ⟨12, (some 21), .mv (.tmp 3), none, []⟩,
 ⟨13, (some 22), .bin .shr 148 true (.tmp 21) (.con (.int .u64 24)), none, []⟩,
 ⟨14, (some 23), .conv 148 5 (.tmp 22), none, []⟩,
 ⟨15, (some 24), .bslice 1 4 [(.int .u8 0)] [(0, 1, (.tmp 14)), (1, 1, (.tmp 17)), (2, 1, (.tmp 20)), (3, 1, (.tmp 23))], none, []⟩,
 ⟨16, (some 25), .append 1 1 (.tmp 12) (.tmp 24), none, []⟩,
 ⟨17, (some 2), .mv (.tmp 25), none, []⟩])
 (.ret))),
 [.tmp 2]⟩
theorem p_words_Writer_Sealed : prepFun Go.Proofs.Tryz.prog [0, 1, 2] Go.Proofs.Tryz.f45 = some v_words_Writer_Sealed := by kernel_rfl

def v_words_Open : VFun :=
⟨.seq (.reg [⟨0, (some 4), .mv (.con (.pointer none)), none, []⟩])
 (.seq (.reg [⟨0, (some 8), .build [(.slice none 0 0), (.int .i64 0)] [], none, []⟩,
 ⟨1, (some 9), .box (.tmp 8), none, []⟩,
 ⟨2, (some 5), .mv (.tmp 9), none, []⟩])
 (.seq (.reg [⟨0, (some 10), .mv (.tmp 0), none, []⟩,
 ⟨1, (some 11), .len (.tmp 10), none, []⟩,
 ⟨2, (some 12), .bin .sub 3 true (.tmp 11) (.con (.int .i64 4)), none, []⟩,
 ⟨3, (some 6), .mv (.tmp 12), none, []⟩])
 (.seq (.seq (.reg [⟨0, (some 13), .mv (.tmp 6), none, []⟩,
 ⟨1, (some 14), .bin .lss 3 true (.tmp 13) (.con (.int .i64 4)), none, []⟩])
 (.cond (.tmp 14)
 (.seq (.reg [⟨0, (some 15), .mv (.tmp 5), none, []⟩,
 ⟨1, (some 16), .call 94 [(.tmp 15), (.con (.int .i64 9))], none, []⟩])
 (.seq (.reg [⟨0, (some 17), .mv (.tmp 5), none, []⟩,
 ⟨1, (some 4), .mv (.tmp 17), none, []⟩])
 (.ret)))
 (.skip)))
 (.seq (.reg [⟨0, (some 18), .mv (.tmp 0), none, []⟩,
 ⟨1, (some 19), .mv (.tmp 6), none, []⟩,
 ⟨2, (some 20), .slice none 1 (.tmp 18) none (some (.tmp 19)) none, none, []⟩,
 ⟨3, (some 21), .call 92 [(.tmp 20)], none, []⟩,
 ⟨4, (some 7), .mv (.tmp 21), none, []⟩])
 (.seq (.seq (.reg [⟨0, (some 22), .mv (.tmp 0), none, []⟩,
 ⟨1, (some 23), .mv (.tmp 6), none, []⟩,
 ⟨2, (some 24), .slice none 1 (.tmp 22) (some (.tmp 23)) none none, none, []⟩,
 ⟨3, (some 25), .b2s (.tmp 24), none, []⟩,
 ⟨4, (some 26), .mv (.tmp 7), none, []⟩,
 ⟨5, (some 27), .conv 148 5 (.tmp 26), none, []⟩,
 ⟨6, (some 28), .mv (.tmp 7), none, []⟩,
 ⟨7, (some 29), .bin .shr 148 true (.tmp 28) (.con (.int .u64 8)), none, []⟩,
 ⟨8, (some 30), .conv 148 5 (.tmp 29), none, []⟩,
 ⟨9, (some 31), .mv (.tmp 7), none, []⟩,
 ⟨10, (some 32), .bin .shr 148 true (.tmp 31) (.con (.int .u64 16)), none, []⟩,
 ⟨11, (some 33), .conv 148 5 (.tmp 32), none, []⟩,
 ⟨12, (some 34), .mv (.tmp 7), none, []⟩,
 ⟨13, (some 35), .bin .shr 148 true (.tmp 34) (.con (.int .u64 24)), none, []⟩,
 ⟨14, (some 36), .conv 148 5 (.tmp 35), none, []⟩,
 ⟨15, (some 37), .bslice 1 4 [(.int .u8 0)] [(0, 1, (.tmp 27)), (1, 1, (.tmp 30)), (2, 1, (.tmp 33)), (3, 1, (.tmp 36))], none, []⟩,
 ⟨16, (some 38), .b2s (.tmp 37), none, []⟩,
 ⟨17, (some 39), .bin .neq 9 false (.tmp 25) (.tmp 38), none, []⟩])
 (.cond (.tmp 39)
 (.seq (.reg [⟨0, (some 40), .mv (.tmp 5), none, []⟩,
 ⟨1, (some 41), .call 94 [(.tmp 40), (.con (.int .i64 9))], none, []⟩])
 (.seq (.reg [⟨0, (some 42), .mv (.tmp 5), none, []⟩,
 ⟨1, (some 4), .mv (.tmp 42), none, []⟩])
 (.ret)))
 (.skip)))
 (.seq (.seq (.reg [⟨0, (some 43), .mv (.tmp 0), none, []⟩,
 ⟨1, (some 44), .slice none 1 (.tmp 43) none (some (.con (.int .i64 4))) none, none, []⟩,
 ⟨2, (some 45), .b2s (.tmp 44), none, []⟩,
 ⟨3, (some 46), .mv (.tmp 1), none, []⟩,
 ⟨4, (some 47), .bin .neq 9 false (.tmp 45) (.tmp 46), none, []⟩])
 (.cond (.tmp 47)
 (.reg [⟨0, (some 48), .mv (.tmp 5), none, []⟩,
 ⟨1, (some 49), .call 94 [(.tmp 48), (.con (.int .i64 4))], none, []⟩])
 (.skip)))
 (.seq (.reg [⟨0, (some 50), .mv (.tmp 5), none, []⟩,
 ⟨1, (some 51), .mv (.tmp 0), none, []⟩,
 ⟨2, (some 52), .mv (.tmp 6), none, []⟩,
 ⟨3, (some 53), .slice none 1 (.tmp 51) (some (.con (.int .i64 4))) (some (.tmp 52)) none, none, []⟩,
 ⟨4, (some 54), .nilck (.tmp 50), none, []⟩,
 ⟨5, (some 55), .fieldA 0 (.tmp 54), none, []⟩,
 ⟨6, none, .store 1 (.tmp 55) (.tmp 53), none, []⟩])
 (.seq (.reg [⟨0, (some 56), .mv (.tmp 5), none, []⟩,
 ⟨1, (some 4), .mv (.tmp 56), none, []⟩])
 (.ret))))))))),
 [.tmp 4]⟩
theorem p_words_Open : prepFun Go.Proofs.Tryz.prog [0, 1, 2] Go.Proofs.Tryz.f49 = some v_words_Open := by kernel_rfl

def v_words_Reader_Count : VFun :=
⟨.seq (.reg [⟨0, (some 4), .mv (.con (.int .i64 0)), none, []⟩])
 (.seq (.reg [⟨0, (some 6), .mv (.tmp 0), none, []⟩,
 ⟨1, (some 7), .call 95 [(.tmp 6)], none, []⟩,
 ⟨2, (some 5), .mv (.tmp 7), none, []⟩])
 (.seq (.seq (.reg [⟨0, (some 8), .mv (.tmp 0), none, []⟩,
 ⟨1, (some 9), .nilck (.tmp 8), none, []⟩,
 ⟨2, (some 10), .fieldA 1 (.tmp 9), none, []⟩,
 ⟨3, (some 11), .load none (.tmp 10), none, []⟩,
 ⟨4, (some 12), .bin .eql 27 true (.tmp 11) (.con (.int .i64 0)), none, []⟩,
 ⟨5, (some 13), .mv (.tmp 12), none, []⟩,
 ⟨6, (some 14), .mv (.tmp 5), (some (13, true)), []⟩,
 ⟨7, (some 15), .bin .lss 2 true (.tmp 14) (.con (.int .i64 0)), (some (13, true)), []⟩,
 ⟨8, (some 16), .pick (.tmp 13) (.tmp 15) (.con (.bool false)), none, []⟩])
 (.cond (.tmp 16)
 (.reg [⟨0, (some 17), .mv (.tmp 0), none, []⟩,
 ⟨1, (some 18), .call 94 [(.tmp 17), (.con (.int .i64 4))], none, []⟩])
 (.skip)))
 (.seq (.seq (.reg [⟨0, (some 19), .mv (.tmp 0), none, []⟩,
 ⟨1, (some 20), .nilck (.tmp 19), none, []⟩,
 ⟨2, (some 21), .fieldA 1 (.tmp 20), none, []⟩,
 ⟨3, (some 22), .load none (.tmp 21), none, []⟩,
 ⟨4, (some 23), .bin .eql 27 true (.tmp 22) (.con (.int .i64 0)), none, []⟩,
 ⟨5, (some 24), .mv (.tmp 23), none, []⟩,
 ⟨6, (some 25), .mv (.tmp 5), (some (24, true)), []⟩,
 ⟨7, (some 26), .mv (.tmp 1), (some (24, true)), []⟩,
 ⟨8, (some 27), .bin .gtr 2 false (.tmp 25) (.tmp 26), (some (24, true)), []⟩,
 ⟨9, (some 28), .pick (.tmp 24) (.tmp 27) (.con (.bool false)), none, []⟩])
 (.cond (.tmp 28)
 (.reg [⟨0, (some 29), .mv (.tmp 0), none, []⟩,
 ⟨1, (some 30), .call 94 [(.tmp 29), (.con (.int .i64 3))], none, []⟩])
 (.skip)))
 (.seq (.seq (.reg [⟨0, (some 31), .mv (.tmp 0), none, []⟩,
 ⟨1, (some 32), .nilck (.tmp 31), none, []⟩,
 ⟨2, (some 33), .fieldA 1 (.tmp 32), none, []⟩,
 ⟨3, (some 34), .load none (.tmp 33), none, []⟩,
 ⟨4, (some 35), .bin .neq 27 true (.tmp 34) (.con (.int .i64 0)), none, []⟩])
 (.cond (.tmp 35)
 (.seq (.reg [⟨0, (some 4), .mv (.con (.int .i64 0)), none, []⟩])
 (.ret))
 (.skip)))
 (.seq (.reg [⟨0, (some 36), .mv (.tmp 5), none, []⟩,
 ⟨1, (some 4), .mv (.tmp 36), none, []⟩])
 (.ret)))))),
 [.tmp 4]⟩
theorem p_words_Reader_Count : prepFun Go.Proofs.Tryz.prog [0, 1, 2] Go.Proofs.Tryz.f50 = some v_words_Reader_Count := by kernel_rfl

def v_words_Reader_Int : VFun :=
⟨.seq (.reg [⟨0, (some 2), .mv (.con (.int .i64 0)), none, []⟩])
 (.seq (.reg [⟨0, (some 3), .mv (.tmp 0), none, []⟩,
 ⟨1, (some 4), .call 95 [(.tmp 3)], none, []⟩,
 ⟨2, (some 2), .mv (.tmp 4), none, []⟩])
 (.ret)),
 [.tmp 2]⟩
theorem p_words_Reader_Int : prepFun Go.Proofs.Tryz.prog [0, 1, 2] Go.Proofs.Tryz.f51 = some v_words_Reader_Int := by kernel_rfl

def v_words_Reader_op : VFun :=
⟨.seq (.reg [⟨0, (some 2), .alloc [(.int .i64 0), (.int .i64 0), (.int .i64 0), (.int .i64 0), (.int .i64 0), (.int .i64 0), (.int .i64 0)], none, []⟩])
 (.seq (.reg [⟨0, (some 6), .mv (.tmp 0), none, []⟩,
 ⟨1, (some 7), .call 51 [(.tmp 6)], none, []⟩,
 ⟨2, (some 8), .build [(.int .i64 0), (.int .i64 0), (.int .i64 0), (.int .i64 0), (.int .i64 0), (.int .i64 0), (.int .i64 0)] [(0, 1, (.tmp 7))], none, []⟩,
 ⟨3, (some 3), .alloc [(.int .i64 0), (.int .i64 0), (.int .i64 0), (.int .i64 0), (.int .i64 0), (.int .i64 0), (.int .i64 0)], none, []⟩,
 ⟨4, none, .store 7 (.tmp 3) (.tmp 8), none, []⟩])
 (.seq (.seq (.reg [⟨0, (some 9), .mv (.tmp 0), none, []⟩,
 ⟨1, (some 10), .nilck (.tmp 9), none, []⟩,
 ⟨2, (some 11), .fieldA 1 (.tmp 10), none, []⟩,
 ⟨3, (some 12), .load none (.tmp 11), none, []⟩,
 ⟨4, (some 13), .bin .eql 27 true (.tmp 12) (.con (.int .i64 0)), none, []⟩,
 ⟨5, (some 14), .mv (.tmp 13), none, []⟩,
 ⟨6, (some 15), .fieldA 0 (.tmp 3), (some (14, true)), []⟩,
 ⟨7, (some 16), .load none (.tmp 15), (some (14, true)), []⟩,
 ⟨8, (some 17), .bin .lss 3 true (.tmp 16) (.con (.int .i64 1)), (some (14, true)), []⟩,
 ⟨9, (some 18), .mv (.tmp 17), (some (14, true)), []⟩,
 ⟨10, (some 19), .fieldA 0 (.tmp 3), (some (18, false)), []⟩,
 ⟨11, (some 20), .load none (.tmp 19), (some (18, false)), []⟩,
 ⟨12, (some 21), .bin .gtr 3 true (.tmp 20) (.con (.int .i64 28)), (some (18, false)), []⟩,
 ⟨13, (some 22), .pick (.tmp 18) (.con (.bool true)) (.tmp 21), (some (14, true)), []⟩,
 ⟨14, (some 23), .pick (.tmp 14) (.tmp 22) (.con (.bool false)), none, []⟩])
 (.cond (.tmp 23)
 (.reg [⟨0, (some 24), .mv (.tmp 0), none, []⟩,
 ⟨1, (some 25), .call 94 [(.tmp 24), (.con (.int .i64 4))], none, []⟩])
 (.skip)))
 (.seq (.seq (.reg [⟨0, (some 26), .mv (.tmp 0), none, []⟩,
 ⟨1, (some 27), .nilck (.tmp 26), none, []⟩,
 ⟨2, (some 28), .fieldA 1 (.tmp 27), none, []⟩,
 ⟨3, (some 29), .load none (.tmp 28), none, []⟩,
 ⟨4, (some 30), .bin .neq 27 true (.tmp 29) (.con (.int .i64 0)), none, []⟩])
 (.cond (.tmp 30)
 (.seq (.reg [⟨0, (some 31), .build [(.int .i64 0), (.int .i64 0), (.int .i64 0), (.int .i64 0), (.int .i64 0), (.int .i64 0), (.int .i64 0)] [], none, []⟩,
 ⟨1, none, .store 7 (.tmp 2) (.tmp 31), none, []⟩])
 (.ret))
 (.skip)))
 (.seq (.reg [⟨0, (some 32), .mv (.tmp 0), none, []⟩,
 ⟨1, (some 33), .call 51 [(.tmp 32)], none, []⟩,
 ⟨2, (some 34), .fieldA 6 (.tmp 3), none, []⟩,
 ⟨3, none, .store 1 (.tmp 34) (.tmp 33), none, []⟩])
 (.seq (.seq (.reg [⟨0, (some 35), .call 42 [(.tmp 3)], none, []⟩,
 ⟨1, (some 36), .len (.tmp 35), none, []⟩,
 ⟨2, (some 37), .mv (.con (.int .i64 0)), none, []⟩])
 (.block 0
 (.loop
 (.seq (.reg [⟨0, (some 38), .bin .lss 3 false (.tmp 37) (.tmp 36), none, []⟩])
 (.seq (.cond (.tmp 38)
 (.skip)
 (.exit 0))
 (.seq (.block 1
 (.seq (.reg [⟨0, (some 39), .idxA none 1 (.tmp 35) (.tmp 37), none, []⟩,
 ⟨1, (some 40), .load none (.tmp 39), none, []⟩,
 ⟨2, (some 5), .mv (.tmp 40), none, []⟩])
 (.reg [⟨0, (some 41), .mv (.tmp 5), none, []⟩,
 ⟨1, (some 42), .mv (.tmp 0), none, []⟩,
 ⟨2, (some 43), .call 51 [(.tmp 42)], none, []⟩,
 ⟨3, (some 44), .nilck (.tmp 41), none, []⟩,
 ⟨4, none, .store 1 (.tmp 44) (.tmp 43), none, []⟩])))
 (.reg [⟨0, (some 45), .bin .add 3 true (.tmp 37) (.con (.int .i64 1)), none, []⟩,
 ⟨1, (some 37), .mv (.tmp 45), none, []⟩])))))))
 (.seq (.seq (.reg [⟨0, (some 46), .fieldA 0 (.tmp 3), none, []⟩,
 ⟨1, (some 47), .load none (.tmp 46), none, []⟩,
 ⟨2, (some 48), .call 43 [(.tmp 47)], none, []⟩])
 (.cond (.tmp 48)
 (.reg [⟨0, (some 49), .mv (.tmp 0), none, []⟩,
 ⟨1, (some 50), .call 95 [(.tmp 49)], none, []⟩,
 ⟨2, (some 51), .fieldA 5 (.tmp 3), none, []⟩,
 ⟨3, none, .store 1 (.tmp 51) (.tmp 50), none, []⟩])
 (.skip)))
 (.seq (.reg [⟨0, (some 52), .load (some 7) (.tmp 3), none, []⟩,
 ⟨1, none, .store 7 (.tmp 2) (.tmp 52), none, []⟩])
 (.ret)))))))),
 [.cell 2 (some 7)]⟩
theorem p_words_Reader_op : prepFun Go.Proofs.Tryz.prog [0, 1, 2] Go.Proofs.Tryz.f52 = some v_words_Reader_op := by kernel_rfl

def v_words_Reader_End : VFun :=
⟨.seq (.reg [⟨0, (some 2), .mv (.tmp 0), none, []⟩,
 ⟨1, (some 3), .nilck (.tmp 2), none, []⟩,
 ⟨2, (some 4), .fieldA 0 (.tmp 3), none, []⟩,
 ⟨3, (some 5), .load none (.tmp 4), none, []⟩,
 ⟨4, (some 6), .len (.tmp 5), none, []⟩,
 ⟨5, (some 7), .bin .gtr 3 true (.tmp 6) (.con (.int .i64 0)), none, []⟩])
 (.cond (.tmp 7)
 (.reg [⟨0, (some 8), .mv (.tmp 0), none, []⟩,
 ⟨1, (some 9), .call 94 [(.tmp 8), (.con (.int .i64 4))], none, []⟩])
 (.skip)),
 []⟩
theorem p_words_Reader_End : prepFun Go.Proofs.Tryz.prog [0, 1, 2] Go.Proofs.Tryz.f53 = some v_words_Reader_End := by kernel_rfl

def v_strings_Builder_WriteString : VFun :=
⟨.seq (.reg [⟨0, (some 4), .mv (.con (.int .i64 0)), none, []⟩,
 ⟨1, (some 5), .mv (.con .nilIface), none, []⟩])
 (.seq (.reg [⟨0, (some 6), .mv (.tmp 0), none, []⟩,
 ⟨1, (some 7), .call 96 [(.tmp 6)], none, []⟩])
 (.seq (.reg [⟨0, (some 8), .mv (.tmp 0), none, []⟩,
 ⟨1, (some 9), .mv (.tmp 0), none, []⟩,
 ⟨2, (some 10), .nilck (.tmp 9), none, []⟩,
 ⟨3, (some 11), .fieldA 1 (.tmp 10), none, []⟩,
 ⟨4, (some 12), .load none (.tmp 11), none, []⟩,
 ⟨5, (some 13), .mv (.tmp 1), none, []⟩,
 ⟨6, (some 14), .append 1 1 (.tmp 12) (.tmp 13), none, []⟩,
 ⟨7, (some 15), .nilck (.tmp 8), none, []⟩,
 ⟨8, (some 16), .fieldA 1 (.tmp 15), none, []⟩,
 ⟨9, none, .store 1 (.tmp 16) (.tmp 14), none, []⟩])
 (.seq (.reg [⟨0, (some 17), .mv (.tmp 1), none, []⟩,
 ⟨1, (some 18), .bi .len [9] 3 [(.tmp 17)], none, []⟩,
 ⟨2, (some 4), .mv (.tmp 18), none, []⟩,
 ⟨3, (some 5), .mv (.con .nilIface), none, []⟩])
 (.ret)))),
 [.tmp 4, .tmp 5]⟩
theorem p_strings_Builder_WriteString : prepFun Go.Proofs.Tryz.prog [0, 1, 2] Go.Proofs.Tryz.f59 = some v_strings_Builder_WriteString := by kernel_rfl

def v_strconv_Itoa : VFun :=
⟨.seq (.reg [⟨0, (some 2), .mv (.con (.string ⟨#[]⟩)), none, []⟩])
 (.seq (.reg [⟨0, (some 3), .mv (.tmp 0), none, []⟩,
 ⟨1, (some 4), .call 97 [(.tmp 3)], none, []⟩,
 ⟨2, (some 2), .mv (.tmp 4), none, []⟩])
 (.ret)),
 [.tmp 2]⟩
theorem p_strconv_Itoa : prepFun Go.Proofs.Tryz.prog [0, 1, 2] Go.Proofs.Tryz.f60 = some v_strconv_Itoa := by kernel_rfl

def v_words_opText : VFun :=
⟨.seq (.reg [⟨0, (some 1), .box (.tmp 0), none, []⟩,
 ⟨1, (some 2), .mv (.con (.string ⟨#[]⟩)), none, []⟩])
 (.seq (.reg [⟨0, (some 3), .mv (.con (.slice none 0 0)), none, []⟩])
 (.seq (.seq (.reg [⟨0, (some 7), .fieldA 6 (.tmp 1), none, []⟩,
 ⟨1, (some 8), .load none (.tmp 7), none, []⟩,
 ⟨2, (some 9), .bin .neq 3 true (.tmp 8) (.con (.int .i64 (-1))), none, []⟩])
 (.cond (.tmp 9)
 (.reg [⟨0, (some 10), .mv (.tmp 3), none, []⟩,
 ⟨1, (some 11), .fieldA 6 (.tmp 1), none, []⟩,
 ⟨2, (some 12), .load none (.tmp 11), none, []⟩,
 ⟨3, (some 13), .call 60 [(.tmp 12)], none, []⟩,
 ⟨4, (some 14), .bslice 1 2 [(.string ⟨#[]⟩)] [(0, 1, (.con (.string ⟨#[63]⟩))), (1, 1, (.tmp 13))], none, []⟩,
 ⟨5, (some 15), .append 1 16 (.tmp 10) (.tmp 14), none, []⟩,
 ⟨6, (some 3), .mv (.tmp 15), none, []⟩])
 (.skip)))
 (.seq (.reg [⟨0, (some 16), .call 42 [(.tmp 1)], none, []⟩,
 ⟨1, (some 4), .mv (.tmp 16), none, []⟩])
 (.seq (.seq (.reg [⟨0, (some 17), .mv (.tmp 4), none, []⟩,
 ⟨1, (some 18), .len (.tmp 17), none, []⟩,
 ⟨2, (some 19), .bin .gtr 3 true (.tmp 18) (.con (.int .i64 0)), none, []⟩,
 ⟨3, (some 20), .mv (.tmp 19), none, []⟩,
 ⟨4, (some 21), .mv (.tmp 4), (some (20, true)), []⟩,
 ⟨5, (some 22), .idxA none 1 (.tmp 21) (.con (.int .i64 0)), (some (20, true)), []⟩,
 ⟨6, (some 23), .load none (.tmp 22), (some (20, true)), []⟩,
 ⟨7, (some 24), .fieldA 1 (.tmp 1), (some (20, true)), []⟩,
 ⟨8, (some 25), .peq false (.tmp 23) (.tmp 24), (some (20, true)), []⟩,
 ⟨9, (some 26), .pick (.tmp 20) (.tmp 25) (.con (.bool false)), none, []⟩])
 (.cond (.tmp 26)
 (.seq (.reg [⟨0, (some 27), .mv (.tmp 3), none, []⟩,
 ⟨1, (some 28), .fieldA 1 (.tmp 1), none, []⟩,
 ⟨2, (some 29), .load none (.tmp 28), none, []⟩,
 ⟨3, (some 30), .call 60 [(.tmp 29)], none, []⟩,
 ⟨4, (some 31), .bslice 1 2 [(.string ⟨#[]⟩)] [(0, 1, (.tmp 30)), (1, 1, (.con (.string ⟨#[61]⟩)))], none, []⟩,
 ⟨5, (some 32), .append 1 16 (.tmp 27) (.tmp 31), none, []⟩,
 ⟨6, (some 3), .mv (.tmp 32), none, []⟩])
 (.reg [⟨0, (some 33), .mv (.tmp 4), none, []⟩,
 ⟨1, (some 34), .slice none 1 (.tmp 33) (some (.con (.int .i64 1))) none none, none, []⟩,
 ⟨2, (some 4), .mv (.tmp 34), none, []⟩]))
 (.skip)))
 (.seq (.reg [⟨0, (some 35), .mv (.tmp 3), none, []⟩,
 ⟨1, (some 36), .fieldA 0 (.tmp 1), none, []⟩,
 ⟨2, (some 37), .load none (.tmp 36), none, []⟩,
 ⟨3, (some 38), .call 98 [(.tmp 37)], none, []⟩,
 ⟨4, (some 39), .bslice 1 1 [(.string ⟨#[]⟩)] [(0, 1, (.tmp 38))], none, []⟩,
 ⟨5, (some 40), .append 1 16 (.tmp 35) (.tmp 39), none, []⟩,
 ⟨6, (some 3), .mv (.tmp 40), none, []⟩])
 (.seq (.seq (.reg [⟨0, (some 41), .mv (.tmp 4), none, []⟩,
 ⟨1, (some 42), .len (.tmp 41), none, []⟩,
 ⟨2, (some 43), .mv (.con (.int .i64 0)), none, []⟩])
 (.block 0
 (.loop
 (.seq (.reg [⟨0, (some 44), .bin .lss 3 false (.tmp 43) (.tmp 42), none, []⟩])
 (.seq (.cond (.tmp 44)
 (.skip)
 (.exit 0))
 (.seq (.block 1
 (.seq (.reg [⟨0, (some 45), .idxA none 1 (.tmp 41) (.tmp 43), none, []⟩,
 ⟨1, (some 46), .load none (.tmp 45), none, []⟩,
 ⟨2, (some 6), .mv (.tmp 46), none, []⟩])
 (.reg [⟨0, (some 47), .mv (.tmp 3), none, []⟩,
 ⟨1, (some 48), .mv (.tmp 6), none, []⟩,
 ⟨2, (some 49), .nilck (.tmp 48), none, []⟩,
 ⟨3, (some 50), .load none (.tmp 49), none, []⟩,
 ⟨4, (some 51), .call 60 [(.tmp 50)], none, []⟩,
 ⟨5, (some 52), .bslice 1 1 [(.string ⟨#[]⟩)] [(0, 1, (.tmp 51))], none, []⟩,
 ⟨6, (some 53), .append 1 16 (.tmp 47) (.tmp 52), none, []⟩,
 ⟨7, (some 3), .mv (.tmp 53), none, []⟩])))
 (.reg [⟨0, (some 54), .bin .add 3 true (.tmp 43) (.con (.int .i64 1)), none, []⟩,
 ⟨1, (some 43), .mv (.tmp 54), none, []⟩])))))))
 (.seq (.seq (.reg [⟨0, (some 55), .fieldA 0 (.tmp 1), none, []⟩,
 ⟨1, (some 56), .load none (.tmp 55), none, []⟩,
 ⟨2, (some 57), .call 43 [(.tmp 56)], none, []⟩])
 (.cond (.tmp 57)
 (.reg [⟨0, (some 58), .mv (.tmp 3), none, []⟩,
 ⟨1, (some 59), .fieldA 5 (.tmp 1), none, []⟩,
 ⟨2, (some 60), .load none (.tmp 59), none, []⟩,
 ⟨3, (some 61), .call 99 [(.tmp 60)], none, []⟩,
 ⟨4, (some 62), .bslice 1 1 [(.string ⟨#[]⟩)] [(0, 1, (.tmp 61))], none, []⟩,
 ⟨5, (some 63), .append 1 16 (.tmp 58) (.tmp 62), none, []⟩,
 ⟨6, (some 3), .mv (.tmp 63), none, []⟩])
 (.skip)))
 (.seq (.reg [⟨0, (some 64), .mv (.tmp 3), none, []⟩,
 ⟨1, (some 65), .call 100 [(.tmp 64), (.con (.string ⟨#[32]⟩))], none, []⟩,
 ⟨2, (some 2), .mv (.tmp 65), none, []⟩])
 (.ret))))))))),
 [.tmp 2]⟩
theorem p_words_opText : prepFun Go.Proofs.Tryz.prog [0, 1, 2] Go.Proofs.Tryz.f61 = some v_words_opText := by kernel_rfl

end Go.VX.Seat
end
section
set_option maxRecDepth 20000
/-! MADE BY PROGRAM (lits.py): functions as they are prepared. -/
namespace Go.VX.Seat
def v_words_lines_read : VFun :=
⟨.seq (.reg [⟨0, (some 2), .alloc [(.slice none 0 0), (.int .i64 0), (.int .i64 0), (.int .i64 0), (.int .i64 0), (.slice none 0 0)], none, []⟩,
 ⟨1, (some 3), .mv (.con (.bool false)), none, []⟩])
 (.seq (.reg [⟨0, (some 4), .alloc [(.slice none 0 0), (.int .i64 0), (.int .i64 0), (.int .i64 0), (.int .i64 0), (.slice none 0 0)], none, []⟩])
 (.seq (.reg [⟨0, (some 5), .alloc [(.int .i64 0), (.int .i64 0), (.int .i64 0), (.int .i64 0)], none, []⟩])
 (.seq (.seq (.reg [⟨0, (some 9), .mv (.tmp 0), none, []⟩,
 ⟨1, (some 10), .idxA (some 4) 1 (.tmp 5) (.con (.int .i64 0)), none, []⟩,
 ⟨2, (some 11), .idxA (some 4) 1 (.tmp 5) (.con (.int .i64 1)), none, []⟩,
 ⟨3, (some 12), .idxA (some 4) 1 (.tmp 5) (.con (.int .i64 2)), none, []⟩,
 ⟨4, (some 13), .idxA (some 4) 1 (.tmp 5) (.con (.int .i64 3)), none, []⟩,
 ⟨5, (some 14), .bslice 1 4 [(.pointer none)] [(0, 1, (.tmp 10)), (1, 1, (.tmp 11)), (2, 1, (.tmp 12)), (3, 1, (.tmp 13))], none, []⟩,
 ⟨6, (some 15), .call 103 [(.tmp 9), (.con (.string ⟨#[99, 111, 100, 101]⟩)), (.tmp 14)], none, []⟩,
 ⟨7, (some 16), .un .not (.tmp 15), none, []⟩])
 (.cond (.tmp 16)
 (.seq (.reg [⟨0, (some 17), .load (some 6) (.tmp 4), none, []⟩,
 ⟨1, none, .store 6 (.tmp 2) (.tmp 17), none, []⟩,
 ⟨2, (some 3), .mv (.con (.bool false)), none, []⟩])
 (.ret))
 (.skip)))
 (.seq (.reg [⟨0, (some 18), .idxA (some 4) 1 (.tmp 5) (.con (.int .i64 0)), none, []⟩,
 ⟨1, (some 19), .load none (.tmp 18), none, []⟩,
 ⟨2, (some 20), .idxA (some 4) 1 (.tmp 5) (.con (.int .i64 1)), none, []⟩,
 ⟨3, (some 21), .load none (.tmp 20), none, []⟩,
 ⟨4, (some 22), .idxA (some 4) 1 (.tmp 5) (.con (.int .i64 2)), none, []⟩,
 ⟨5, (some 23), .load none (.tmp 22), none, []⟩,
 ⟨6, (some 24), .idxA (some 4) 1 (.tmp 5) (.con (.int .i64 3)), none, []⟩,
 ⟨7, (some 25), .load none (.tmp 24), none, []⟩,
 ⟨8, (some 26), .fieldA 1 (.tmp 4), none, []⟩,
 ⟨9, none, .store 1 (.tmp 26) (.tmp 19), none, [(.tmp 20), (.tmp 22), (.tmp 24)]⟩,
 ⟨10, (some 27), .fieldA 2 (.tmp 4), none, []⟩,
 ⟨11, none, .store 1 (.tmp 27) (.tmp 21), none, [(.tmp 22), (.tmp 24)]⟩,
 ⟨12, (some 28), .fieldA 3 (.tmp 4), none, []⟩,
 ⟨13, none, .store 1 (.tmp 28) (.tmp 23), none, [(.tmp 24)]⟩,
 ⟨14, (some 29), .fieldA 4 (.tmp 4), none, []⟩,
 ⟨15, none, .store 1 (.tmp 29) (.tmp 25), none, []⟩])
 (.seq (.block 0
 (.loop
 (.seq (.seq (.reg [⟨0, (some 30), .mv (.tmp 0), none, []⟩,
 ⟨1, (some 31), .idxA (some 4) 1 (.tmp 5) (.con (.int .i64 0)), none, []⟩,
 ⟨2, (some 32), .bslice 1 1 [(.pointer none)] [(0, 1, (.tmp 31))], none, []⟩,
 ⟨3, (some 33), .call 103 [(.tmp 30), (.con (.string ⟨#[97, 114, 114, 97, 121]⟩)), (.tmp 32)], none, []⟩])
 (.cond (.tmp 33)
 (.skip)
 (.exit 0)))
 (.block 1
 (.reg [⟨0, (some 34), .fieldA 0 (.tmp 4), none, []⟩,
 ⟨1, (some 35), .load none (.tmp 34), none, []⟩,
 ⟨2, (some 36), .idxA (some 4) 1 (.tmp 5) (.con (.int .i64 0)), none, []⟩,
 ⟨3, (some 37), .load none (.tmp 36), none, []⟩,
 ⟨4, (some 38), .bslice 1 1 [(.int .i64 0)] [(0, 1, (.tmp 37))], none, []⟩,
 ⟨5, (some 39), .append 1 8 (.tmp 35) (.tmp 38), none, []⟩,
 ⟨6, (some 40), .fieldA 0 (.tmp 4), none, []⟩,
 ⟨7, none, .store 1 (.tmp 40) (.tmp 39), none, []⟩])))))
 (.seq (.block 2
 (.loop
 (.seq (.seq (.reg [⟨0, (some 41), .mv (.tmp 0), none, []⟩,
 ⟨1, (some 42), .idxA (some 4) 1 (.tmp 5) (.con (.int .i64 0)), none, []⟩,
 ⟨2, (some 43), .bslice 1 1 [(.pointer none)] [(0, 1, (.tmp 42))], none, []⟩,
 ⟨3, (some 44), .call 103 [(.tmp 41), (.con (.string ⟨#[119, 111, 114, 100]⟩)), (.tmp 43)], none, []⟩])
 (.cond (.tmp 44)
 (.skip)
 (.exit 2)))
 (.block 3
 (.seq (.reg [⟨0, (some 45), .idxA (some 4) 1 (.tmp 5) (.con (.int .i64 0)), none, []⟩,
 ⟨1, (some 46), .load none (.tmp 45), none, []⟩,
 ⟨2, (some 47), .build [(.slice none 0 0), (.int .i64 0)] [(1, 1, (.tmp 46))], none, []⟩,
 ⟨3, (some 6), .alloc [(.slice none 0 0), (.int .i64 0)], none, []⟩,
 ⟨4, none, .store 2 (.tmp 6) (.tmp 47), none, []⟩])
 (.seq (.block 4
 (.loop
 (.block 5
 (.seq (.reg [⟨0, (some 49), .mv (.tmp 0), none, []⟩,
 ⟨1, (some 50), .call 104 [(.tmp 49)], none, []⟩,
 ⟨2, (some 48), .mv (.tmp 50), none, []⟩,
 ⟨3, (some 51), .ext (.tmp 48) 0, none, []⟩,
 ⟨4, (some 52), .ext (.tmp 48) 1, none, []⟩,
 ⟨5, (some 7), .alloc [(.int .i64 0), (.int .i64 0), (.int .i64 0), (.int .i64 0), (.int .i64 0), (.int .i64 0), (.int .i64 0)], none, []⟩,
 ⟨6, none, .store 7 (.tmp 7) (.tmp 51), none, []⟩,
 ⟨7, (some 8), .mv (.tmp 52), none, []⟩])
 (.seq (.seq (.reg [⟨0, (some 53), .mv (.tmp 8), none, []⟩,
 ⟨1, (some 54), .un .not (.tmp 53), none, []⟩])
 (.cond (.tmp 54)
 (.exit 4)
 (.skip)))
 (.reg [⟨0, (some 55), .fieldA 0 (.tmp 6), none, []⟩,
 ⟨1, (some 56), .load none (.tmp 55), none, []⟩,
 ⟨2, (some 57), .load (some 7) (.tmp 7), none, []⟩,
 ⟨3, (some 58), .bslice 7 1 [(.int .i64 0), (.int .i64 0), (.int .i64 0), (.int .i64 0), (.int .i64 0), (.int .i64 0), (.int .i64 0)] [(0, 7, (.tmp 57))], none, []⟩,
 ⟨4, (some 59), .append 7 56 (.tmp 56) (.tmp 58), none, []⟩,
 ⟨5, (some 60), .fieldA 0 (.tmp 6), none, []⟩,
 ⟨6, none, .store 1 (.tmp 60) (.tmp 59), none, []⟩]))))))
 (.reg [⟨0, (some 61), .fieldA 5 (.tmp 4), none, []⟩,
 ⟨1, (some 62), .load none (.tmp 61), none, []⟩,
 ⟨2, (some 63), .load (some 2) (.tmp 6), none, []⟩,
 ⟨3, (some 64), .bslice 2 1 [(.slice none 0 0), (.int .i64 0)] [(0, 2, (.tmp 63))], none, []⟩,
 ⟨4, (some 65), .append 2 32 (.tmp 62) (.tmp 64), none, []⟩,
 ⟨5, (some 66), .fieldA 5 (.tmp 4), none, []⟩,
 ⟨6, none, .store 1 (.tmp 66) (.tmp 65), none, []⟩])))))))
 (.seq (.reg [⟨0, (some 67), .load (some 6) (.tmp 4), none, []⟩,
 ⟨1, (some 68), .mv (.tmp 0), none, []⟩,
 ⟨2, (some 69), .nilck (.tmp 68), none, []⟩,
 ⟨3, (some 70), .fieldA 0 (.tmp 69), none, []⟩,
 ⟨4, (some 71), .load none (.tmp 70), none, []⟩,
 ⟨5, (some 72), .bin .eql 9 true (.tmp 71) (.con (.string ⟨#[]⟩)), none, []⟩,
 ⟨6, none, .store 6 (.tmp 2) (.tmp 67), none, [(.tmp 70)]⟩,
 ⟨7, (some 3), .mv (.tmp 72), none, []⟩])
 (.ret)))))))),
 [.cell 2 (some 6), .tmp 3]⟩
theorem p_words_lines_read : prepFun Go.Proofs.Tryz.prog [0, 1, 2] Go.Proofs.Tryz.f65 = some v_words_lines_read := by kernel_rfl

def v_slices_Clip_int : VFun :=
⟨.seq (.reg [⟨0, (some 2), .mv (.con (.slice none 0 0)), none, []⟩])
 (.seq (.reg [⟨0, (some 3), .mv (.tmp 0), none, []⟩,
 ⟨1, (some 4), .mv (.tmp 0), none, []⟩,
 ⟨2, (some 5), .len (.tmp 4), none, []⟩,
 ⟨3, (some 6), .mv (.tmp 0), none, []⟩,
 ⟨4, (some 7), .len (.tmp 6), none, []⟩,
 ⟨5, (some 8), .slice none 1 (.tmp 3) none (some (.tmp 5)) (some (.tmp 7)), none, []⟩,
 ⟨6, (some 2), .mv (.tmp 8), none, []⟩])
 (.ret)),
 [.tmp 2]⟩
theorem p_slices_Clip_int : prepFun Go.Proofs.Tryz.prog [0, 1, 2] Go.Proofs.Tryz.f66 = some v_slices_Clip_int := by kernel_rfl

def v_slices_Equal_int : VFun :=
⟨.seq (.reg [⟨0, (some 4), .mv (.con (.bool false)), none, []⟩])
 (.seq (.seq (.reg [⟨0, (some 6), .mv (.tmp 0), none, []⟩,
 ⟨1, (some 7), .len (.tmp 6), none, []⟩,
 ⟨2, (some 8), .mv (.tmp 1), none, []⟩,
 ⟨3, (some 9), .len (.tmp 8), none, []⟩,
 ⟨4, (some 10), .bin .neq 3 false (.tmp 7) (.tmp 9), none, []⟩])
 (.cond (.tmp 10)
 (.seq (.reg [⟨0, (some 4), .mv (.con (.bool false)), none, []⟩])
 (.ret))
 (.skip)))
 (.seq (.seq (.reg [⟨0, (some 11), .mv (.tmp 0), none, []⟩,
 ⟨1, (some 12), .len (.tmp 11), none, []⟩,
 ⟨2, (some 13), .mv (.con (.int .i64 0)), none, []⟩])
 (.block 0
 (.loop
 (.seq (.reg [⟨0, (some 14), .bin .lss 3 false (.tmp 13) (.tmp 12), none, []⟩])
 (.seq (.cond (.tmp 14)
 (.skip)
 (.exit 0))
 (.seq (.block 1
 (.seq (.reg [⟨0, (some 15), .mv (.tmp 13), none, []⟩,
 ⟨1, (some 5), .mv (.tmp 15), none, []⟩])
 (.seq (.reg [⟨0, (some 16), .mv (.tmp 0), none, []⟩,
 ⟨1, (some 17), .mv (.tmp 5), none, []⟩,
 ⟨2, (some 18), .idxA none 1 (.tmp 16) (.tmp 17), none, []⟩,
 ⟨3, (some 19), .load none (.tmp 18), none, []⟩,
 ⟨4, (some 20), .mv (.tmp 1), none, []⟩,
 ⟨5, (some 21), .mv (.tmp 5), none, []⟩,
 ⟨6, (some 22), .idxA none 1 (.tmp 20) (.tmp 21), none, []⟩,
 ⟨7, (some 23), .load none (.tmp 22), none, []⟩,
 ⟨8, (some 24), .bin .neq 3 false (.tmp 19) (.tmp 23), none, []⟩])
 (.cond (.tmp 24)
 (.seq (.reg [⟨0, (some 4), .mv (.con (.bool false)), none, []⟩])
 (.ret))
 (.skip)))))
 (.reg [⟨0, (some 25), .bin .add 3 true (.tmp 13) (.con (.int .i64 1)), none, []⟩,
 ⟨1, (some 13), .mv (.tmp 25), none, []⟩])))))))
 (.seq (.reg [⟨0, (some 4), .mv (.con (.bool true)), none, []⟩])
 (.ret)))),
 [.tmp 4]⟩
theorem p_slices_Equal_int : prepFun Go.Proofs.Tryz.prog [0, 1, 2] Go.Proofs.Tryz.f68 = some v_slices_Equal_int := by kernel_rfl

def v_slices_EqualFunc_Word : VFun :=
⟨.seq (.reg [⟨0, (some 6), .mv (.con (.bool false)), none, []⟩])
 (.seq (.seq (.reg [⟨0, (some 10), .mv (.tmp 0), none, []⟩,
 ⟨1, (some 11), .len (.tmp 10), none, []⟩,
 ⟨2, (some 12), .mv (.tmp 1), none, []⟩,
 ⟨3, (some 13), .len (.tmp 12), none, []⟩,
 ⟨4, (some 14), .bin .neq 3 false (.tmp 11) (.tmp 13), none, []⟩])
 (.cond (.tmp 14)
 (.seq (.reg [⟨0, (some 6), .mv (.con (.bool false)), none, []⟩])
 (.ret))
 (.skip)))
 (.seq (.seq (.reg [⟨0, (some 15), .mv (.tmp 0), none, []⟩,
 ⟨1, (some 16), .len (.tmp 15), none, []⟩,
 ⟨2, (some 17), .mv (.con (.int .i64 0)), none, []⟩])
 (.block 0
 (.loop
 (.seq (.reg [⟨0, (some 18), .bin .lss 3 false (.tmp 17) (.tmp 16), none, []⟩])
 (.seq (.cond (.tmp 18)
 (.skip)
 (.exit 0))
 (.seq (.block 1
 (.seq (.reg [⟨0, (some 19), .mv (.tmp 17), none, []⟩,
 ⟨1, (some 20), .idxA none 2 (.tmp 15) (.tmp 17), none, []⟩,
 ⟨2, (some 21), .load (some 2) (.tmp 20), none, []⟩,
 ⟨3, (some 8), .alloc [(.slice none 0 0), (.int .i64 0)], none, []⟩,
 ⟨4, (some 7), .mv (.tmp 19), none, []⟩,
 ⟨5, none, .store 2 (.tmp 8) (.tmp 21), none, []⟩])
 (.seq (.reg [⟨0, (some 22), .mv (.tmp 1), none, []⟩,
 ⟨1, (some 23), .mv (.tmp 7), none, []⟩,
 ⟨2, (some 24), .idxA none 2 (.tmp 22) (.tmp 23), none, []⟩,
 ⟨3, (some 25), .load (some 2) (.tmp 24), none, []⟩,
 ⟨4, (some 9), .alloc [(.slice none 0 0), (.int .i64 0)], none, []⟩,
 ⟨5, none, .store 2 (.tmp 9) (.tmp 25), none, []⟩])
 (.seq (.reg [⟨0, (some 26), .mv (.tmp 2), none, []⟩,
 ⟨1, (some 27), .load (some 2) (.tmp 8), none, []⟩,
 ⟨2, (some 28), .load (some 2) (.tmp 9), none, []⟩,
 ⟨3, (some 29), .callv (.tmp 26) [(.tmp 27), (.tmp 28)], none, []⟩,
 ⟨4, (some 30), .un .not (.tmp 29), none, []⟩])
 (.cond (.tmp 30)
 (.seq (.reg [⟨0, (some 6), .mv (.con (.bool false)), none, []⟩])
 (.ret))
 (.skip))))))
 (.reg [⟨0, (some 31), .bin .add 3 true (.tmp 17) (.con (.int .i64 1)), none, []⟩,
 ⟨1, (some 17), .mv (.tmp 31), none, []⟩])))))))
 (.seq (.reg [⟨0, (some 6), .mv (.con (.bool true)), none, []⟩])
 (.ret)))),
 [.tmp 6]⟩
theorem p_slices_EqualFunc_Word : prepFun Go.Proofs.Tryz.prog [0, 1, 2] Go.Proofs.Tryz.f69 = some v_slices_EqualFunc_Word := by kernel_rfl

def v_words_Same_c1 : VFun :=
⟨.seq (.reg [⟨0, (some 2), .box (.tmp 0), none, []⟩,
 ⟨1, (some 3), .box (.tmp 1), none, []⟩,
 ⟨2, (some 4), .mv (.con (.bool false)), none, []⟩])
 (.seq (.reg [⟨0, (some 5), .fieldA 1 (.tmp 2), none, []⟩,
 ⟨1, (some 6), .load none (.tmp 5), none, []⟩,
 ⟨2, (some 7), .fieldA 1 (.tmp 3), none, []⟩,
 ⟨3, (some 8), .load none (.tmp 7), none, []⟩,
 ⟨4, (some 9), .bin .eql 3 false (.tmp 6) (.tmp 8), none, []⟩,
 ⟨5, (some 10), .mv (.tmp 9), none, []⟩,
 ⟨6, (some 11), .fieldA 0 (.tmp 2), (some (10, true)), []⟩,
 ⟨7, (some 12), .load none (.tmp 11), (some (10, true)), []⟩,
 ⟨8, (some 13), .fieldA 0 (.tmp 3), (some (10, true)), []⟩,
 ⟨9, (some 14), .load none (.tmp 13), (some (10, true)), []⟩,
 ⟨10, (some 15), .call 71 [(.tmp 12), (.tmp 14)], (some (10, true)), []⟩,
 ⟨11, (some 16), .pick (.tmp 10) (.tmp 15) (.con (.bool false)), none, []⟩,
 ⟨12, (some 4), .mv (.tmp 16), none, []⟩])
 (.ret)),
 [.tmp 4]⟩
theorem p_words_Same_c1 : prepFun Go.Proofs.Tryz.prog [0, 1, 2] Go.Proofs.Tryz.f70 = some v_words_Same_c1 := by kernel_rfl

def v_slices_Equal_Op : VFun :=
⟨.seq (.reg [⟨0, (some 4), .mv (.con (.bool false)), none, []⟩])
 (.seq (.seq (.reg [⟨0, (some 6), .mv (.tmp 0), none, []⟩,
 ⟨1, (some 7), .len (.tmp 6), none, []⟩,
 ⟨2, (some 8), .mv (.tmp 1), none, []⟩,
 ⟨3, (some 9), .len (.tmp 8), none, []⟩,
 ⟨4, (some 10), .bin .neq 3 false (.tmp 7) (.tmp 9), none, []⟩])
 (.cond (.tmp 10)
 (.seq (.reg [⟨0, (some 4), .mv (.con (.bool false)), none, []⟩])
 (.ret))
 (.skip)))
 (.seq (.seq (.reg [⟨0, (some 11), .mv (.tmp 0), none, []⟩,
 ⟨1, (some 12), .len (.tmp 11), none, []⟩,
 ⟨2, (some 13), .mv (.con (.int .i64 0)), none, []⟩])
 (.block 0
 (.loop
 (.seq (.reg [⟨0, (some 14), .bin .lss 3 false (.tmp 13) (.tmp 12), none, []⟩])
 (.seq (.cond (.tmp 14)
 (.skip)
 (.exit 0))
 (.seq (.block 1
 (.seq (.reg [⟨0, (some 15), .mv (.tmp 13), none, []⟩,
 ⟨1, (some 5), .mv (.tmp 15), none, []⟩])
 (.seq (.reg [⟨0, (some 16), .mv (.tmp 0), none, []⟩,
 ⟨1, (some 17), .mv (.tmp 5), none, []⟩,
 ⟨2, (some 18), .idxA none 7 (.tmp 16) (.tmp 17), none, []⟩,
 ⟨3, (some 19), .load (some 7) (.tmp 18), none, []⟩,
 ⟨4, (some 20), .mv (.tmp 1), none, []⟩,
 ⟨5, (some 21), .mv (.tmp 5), none, []⟩,
 ⟨6, (some 22), .idxA none 7 (.tmp 20) (.tmp 21), none, []⟩,
 ⟨7, (some 23), .load (some 7) (.tmp 22), none, []⟩,
 ⟨8, (some 24), .bin .neq 72 false (.tmp 19) (.tmp 23), none, []⟩])
 (.cond (.tmp 24)
 (.seq (.reg [⟨0, (some 4), .mv (.con (.bool false)), none, []⟩])
 (.ret))
 (.skip)))))
 (.reg [⟨0, (some 25), .bin .add 3 true (.tmp 13) (.con (.int .i64 1)), none, []⟩,
 ⟨1, (some 13), .mv (.tmp 25), none, []⟩])))))))
 (.seq (.reg [⟨0, (some 4), .mv (.con (.bool true)), none, []⟩])
 (.ret)))),
 [.tmp 4]⟩
theorem p_slices_Equal_Op : prepFun Go.Proofs.Tryz.prog [0, 1, 2] Go.Proofs.Tryz.f71 = some v_slices_Equal_Op := by kernel_rfl

def v_code_Check : VFun :=
⟨.seq (.reg [⟨0, (some 1), .box (.tmp 0), none, []⟩,
 ⟨1, (some 2), .mv (.con (.int .i64 0)), none, []⟩])
 (.seq (.reg [⟨0, (some 3), .load (some 6) (.tmp 1), none, []⟩,
 ⟨1, (some 4), .call 107 [(.tmp 3)], none, []⟩,
 ⟨2, (some 5), .field 2 none (.tmp 4), none, []⟩,
 ⟨3, (some 2), .mv (.tmp 5), none, []⟩])
 (.ret)),
 [.tmp 2]⟩
theorem p_code_Check : prepFun Go.Proofs.Tryz.prog [0, 1, 2] Go.Proofs.Tryz.f72 = some v_code_Check := by kernel_rfl

def v_words_head : VFun :=
⟨.seq (.reg [⟨0, (some 2), .box (.tmp 0), none, []⟩,
 ⟨1, (some 4), .alloc [(.slice none 0 0), (.int .i64 0), (.int .i64 0), (.int .i64 0), (.int .i64 0), (.slice none 0 0)], none, []⟩])
 (.seq (.reg [⟨0, (some 6), .fieldA 0 (.tmp 2), none, []⟩,
 ⟨1, (some 7), .load none (.tmp 6), none, []⟩,
 ⟨2, (some 8), .fieldA 1 (.tmp 2), none, []⟩,
 ⟨3, (some 9), .load none (.tmp 8), none, []⟩,
 ⟨4, (some 10), .fieldA 2 (.tmp 2), none, []⟩,
 ⟨5, (some 11), .load none (.tmp 10), none, []⟩,
 ⟨6, (some 12), .fieldA 3 (.tmp 2), none, []⟩,
 ⟨7, (some 13), .load none (.tmp 12), none, []⟩,
 ⟨8, (some 14), .fieldA 4 (.tmp 2), none, []⟩,
 ⟨9, (some 15), .load none (.tmp 14), none, []⟩,
 ⟨10, (some 16), .build [(.slice none 0 0), (.int .i64 0), (.int .i64 0), (.int .i64 0), (.int .i64 0), (.slice none 0 0)] [(0, 1, (.tmp 7)), (1, 1, (.tmp 9)), (2, 1, (.tmp 11)), (3, 1, (.tmp 13)), (4, 1, (.tmp 15))], none, []⟩,
 ⟨11, (some 5), .alloc [(.slice none 0 0), (.int .i64 0), (.int .i64 0), (.int .i64 0), (.int .i64 0), (.slice none 0 0)], none, []⟩,
 ⟨12, none, .store 6 (.tmp 5) (.tmp 16), none, []⟩])
 (.seq (.reg [⟨0, (some 17), .build [(.int .i64 0), (.int .i64 0), (.int .i64 0), (.int .i64 0)] [(0, 1, (.con (.int .i64 1)))], none, []⟩,
 ⟨1, (some 18), .build [(.slice none 0 0), (.int .i64 0), (.int .i64 0), (.int .i64 0), (.int .i64 0), (.int .i64 0)] [(1, 4, (.tmp 17)), (5, 1, (.con (.int .i64 (-1))))], none, []⟩,
 ⟨2, (some 19), .bslice 6 1 [(.slice none 0 0), (.int .i64 0), (.int .i64 0), (.int .i64 0), (.int .i64 0), (.int .i64 0)] [(0, 6, (.tmp 18))], none, []⟩,
 ⟨3, (some 20), .mv (.tmp 1), none, []⟩,
 ⟨4, (some 21), .call 108 [(.tmp 19), (.tmp 20)], none, []⟩,
 ⟨5, (some 22), .fieldA 5 (.tmp 5), none, []⟩,
 ⟨6, none, .store 1 (.tmp 22) (.tmp 21), none, []⟩])
 (.seq (.reg [⟨0, (some 23), .load (some 6) (.tmp 5), none, []⟩,
 ⟨1, none, .store 6 (.tmp 4) (.tmp 23), none, []⟩])
 (.ret)))),
 [.cell 4 (some 6)]⟩
theorem p_words_head : prepFun Go.Proofs.Tryz.prog [0, 1, 2] Go.Proofs.Tryz.f73 = some v_words_head := by kernel_rfl

def v_words_op : VFun :=
⟨.seq (.reg [⟨0, (some 2), .box (.tmp 0), none, []⟩,
 ⟨1, (some 3), .box (.tmp 1), none, []⟩,
 ⟨2, (some 4), .mv (.con (.int .i64 0)), none, []⟩])
 (.seq (.seq (.reg [⟨0, (some 7), .fieldA 0 (.tmp 3), none, []⟩,
 ⟨1, (some 8), .load none (.tmp 7), none, []⟩,
 ⟨2, (some 9), .call 89 [(.tmp 8)], none, []⟩])
 (.cond (.tmp 9)
 (.seq (.reg [⟨0, (some 10), .load (some 6) (.tmp 2), none, []⟩,
 ⟨1, (some 11), .load (some 7) (.tmp 3), none, []⟩,
 ⟨2, (some 12), .call 109 [(.tmp 10), (.tmp 11)], none, []⟩,
 ⟨3, (some 4), .mv (.tmp 12), none, []⟩])
 (.ret))
 (.skip)))
 (.seq (.reg [⟨0, (some 13), .load (some 6) (.tmp 2), none, []⟩,
 ⟨1, (some 14), .call 73 [(.tmp 13), (.con (.int .i64 1))], none, []⟩,
 ⟨2, (some 5), .alloc [(.slice none 0 0), (.int .i64 0), (.int .i64 0), (.int .i64 0), (.int .i64 0), (.slice none 0 0)], none, []⟩,
 ⟨3, none, .store 6 (.tmp 5) (.tmp 14), none, []⟩])
 (.seq (.seq (.reg [⟨0, (some 15), .fieldA 0 (.tmp 3), none, []⟩,
 ⟨1, (some 16), .load none (.tmp 15), none, []⟩,
 ⟨2, (some 17), .bin .eql 3 true (.tmp 16) (.con (.int .i64 21)), none, []⟩])
 (.cond (.tmp 17)
 (.seq (.reg [⟨0, (some 18), .fieldA 5 (.tmp 3), none, []⟩,
 ⟨1, (some 19), .load none (.tmp 18), none, []⟩,
 ⟨2, (some 6), .mv (.tmp 19), none, []⟩])
 (.seq (.reg [⟨0, (some 20), .mv (.tmp 6), none, []⟩,
 ⟨1, (some 21), .bin .lss 2 true (.tmp 20) (.con (.int .i64 0)), none, []⟩,
 ⟨2, (some 22), .mv (.tmp 21), none, []⟩,
 ⟨3, (some 23), .mv (.tmp 6), (some (22, false)), []⟩,
 ⟨4, (some 24), .fieldA 5 (.tmp 2), (some (22, false)), []⟩,
 ⟨5, (some 25), .load none (.tmp 24), (some (22, false)), []⟩,
 ⟨6, (some 26), .len (.tmp 25), (some (22, false)), []⟩,
 ⟨7, (some 27), .bin .geq 2 false (.tmp 23) (.tmp 26), (some (22, false)), []⟩,
 ⟨8, (some 28), .pick (.tmp 22) (.con (.bool true)) (.tmp 27), none, []⟩])
 (.cond (.tmp 28)
 (.reg [⟨0, (some 29), .fieldA 5 (.tmp 3), none, []⟩,
 ⟨1, none, .store 1 (.tmp 29) (.con (.int .i64 1)), none, []⟩])
 (.reg [⟨0, (some 30), .fieldA 5 (.tmp 3), none, []⟩,
 ⟨1, none, .store 1 (.tmp 30) (.con (.int .i64 0)), none, []⟩]))))
 (.skip)))
 (.seq (.reg [⟨0, (some 31), .fieldA 5 (.tmp 5), none, []⟩,
 ⟨1, (some 32), .load none (.tmp 31), none, []⟩,
 ⟨2, (some 33), .load (some 7) (.tmp 3), none, []⟩,
 ⟨3, (some 34), .bslice 7 1 [(.int .i64 0), (.int .i64 0), (.int .i64 0), (.int .i64 0), (.int .i64 0), (.int .i64 0), (.int .i64 0)] [(0, 7, (.tmp 33))], none, []⟩,
 ⟨4, (some 35), .idxA none 6 (.tmp 32) (.con (.int .i64 0)), none, []⟩,
 ⟨5, (some 36), .fieldA 0 (.tmp 35), none, []⟩,
 ⟨6, none, .store 1 (.tmp 36) (.tmp 34), none, []⟩])
 (.seq (.reg [⟨0, (some 37), .load (some 6) (.tmp 5), none, []⟩,
 ⟨1, (some 38), .call 72 [(.tmp 37)], none, []⟩,
 ⟨2, (some 4), .mv (.tmp 38), none, []⟩])
 (.ret)))))),
 [.tmp 4]⟩
theorem p_words_op : prepFun Go.Proofs.Tryz.prog [0, 1, 2] Go.Proofs.Tryz.f74 = some v_words_op := by kernel_rfl

def v_slices_ContainsFunc_Op : VFun :=
⟨.seq (.reg [⟨0, (some 4), .mv (.con (.bool false)), none, []⟩])
 (.seq (.reg [⟨0, (some 5), .mv (.tmp 0), none, []⟩,
 ⟨1, (some 6), .mv (.tmp 1), none, []⟩,
 ⟨2, (some 7), .call 110 [(.tmp 5), (.tmp 6)], none, []⟩,
 ⟨3, (some 8), .bin .geq 3 true (.tmp 7) (.con (.int .i64 0)), none, []⟩,
 ⟨4, (some 4), .mv (.tmp 8), none, []⟩])
 (.ret)),
 [.tmp 4]⟩
theorem p_slices_ContainsFunc_Op : prepFun Go.Proofs.Tryz.prog [0, 1, 2] Go.Proofs.Tryz.f75 = some v_slices_ContainsFunc_Op := by kernel_rfl

def v_words_Leaves : VFun :=
⟨.seq (.reg [⟨0, (some 1), .box (.tmp 0), none, []⟩,
 ⟨1, (some 2), .mv (.con (.bool false)), none, []⟩])
 (.seq (.reg [⟨0, (some 3), .fieldA 0 (.tmp 1), none, []⟩,
 ⟨1, (some 4), .load none (.tmp 3), none, []⟩,
 ⟨2, (some 5), .call 89 [(.tmp 4)], none, []⟩,
 ⟨3, (some 6), .mv (.tmp 5), none, []⟩,
 ⟨4, (some 7), .fieldA 6 (.tmp 1), (some (6, true)), []⟩,
 ⟨5, (some 8), .load none (.tmp 7), (some (6, true)), []⟩,
 ⟨6, (some 9), .bin .eql 3 true (.tmp 8) (.con (.int .i64 (-1))), (some (6, true)), []⟩,
 ⟨7, (some 10), .pick (.tmp 6) (.tmp 9) (.con (.bool false)), none, []⟩,
 ⟨8, (some 2), .mv (.tmp 10), none, []⟩])
 (.ret)),
 [.tmp 2]⟩
theorem p_words_Leaves : prepFun Go.Proofs.Tryz.prog [0, 1, 2] Go.Proofs.Tryz.f76 = some v_words_Leaves := by kernel_rfl

def v_words_Ways : VFun :=
⟨.seq (.reg [⟨0, (some 3), .box (.tmp 0), none, []⟩])
 (.seq (.reg [⟨0, (some 9), .fieldA 5 (.tmp 3), none, []⟩,
 ⟨1, (some 10), .load none (.tmp 9), none, []⟩,
 ⟨2, (some 11), .mv (.tmp 1), none, []⟩,
 ⟨3, (some 12), .idxA none 2 (.tmp 10) (.tmp 11), none, []⟩,
 ⟨4, (some 13), .load (some 2) (.tmp 12), none, []⟩,
 ⟨5, (some 6), .alloc [(.slice none 0 0), (.int .i64 0)], none, []⟩,
 ⟨6, none, .store 2 (.tmp 6) (.tmp 13), none, []⟩])
 (.seq (.seq (.reg [⟨0, (some 14), .fieldA 0 (.tmp 6), none, []⟩,
 ⟨1, (some 15), .load none (.tmp 14), none, []⟩,
 ⟨2, (some 16), .len (.tmp 15), none, []⟩,
 ⟨3, (some 17), .mv (.con (.int .i64 0)), none, []⟩])
 (.block 0
 (.loop
 (.seq (.reg [⟨0, (some 18), .bin .lss 3 false (.tmp 17) (.tmp 16), none, []⟩])
 (.seq (.cond (.tmp 18)
 (.skip)
 (.exit 0))
 (.seq (.block 1
 (.seq (.reg [⟨0, (some 19), .mv (.tmp 17), none, []⟩,
 ⟨1, (some 20), .idxA none 7 (.tmp 15) (.tmp 17), none, []⟩,
 ⟨2, (some 21), .load (some 7) (.tmp 20), none, []⟩,
 ⟨3, (some 8), .alloc [(.int .i64 0), (.int .i64 0), (.int .i64 0), (.int .i64 0), (.int .i64 0), (.int .i64 0), (.int .i64 0)], none, []⟩,
 ⟨4, (some 7), .mv (.tmp 19), none, []⟩,
 ⟨5, none, .store 7 (.tmp 8) (.tmp 21), none, []⟩])
 (.seq (.seq (.reg [⟨0, (some 22), .fieldA 0 (.tmp 8), none, []⟩,
 ⟨1, (some 23), .load none (.tmp 22), none, []⟩,
 ⟨2, (some 24), .bin .eql 3 true (.tmp 23) (.con (.int .i64 21)), none, []⟩,
 ⟨3, (some 25), .mv (.tmp 24), none, []⟩,
 ⟨4, (some 26), .fieldA 0 (.tmp 8), (some (25, false)), []⟩,
 ⟨5, (some 27), .load none (.tmp 26), (some (25, false)), []⟩,
 ⟨6, (some 28), .bin .eql 3 true (.tmp 27) (.con (.int .i64 26)), (some (25, false)), []⟩,
 ⟨7, (some 29), .pick (.tmp 25) (.con (.bool true)) (.tmp 28), none, []⟩])
 (.cond (.tmp 29)
 (.reg [⟨0, (some 30), .mv (.tmp 2), none, []⟩,
 ⟨1, (some 31), .fieldA 5 (.tmp 8), none, []⟩,
 ⟨2, (some 32), .load none (.tmp 31), none, []⟩,
 ⟨3, (some 33), .mv (.tmp 7), none, []⟩,
 ⟨4, (some 34), .callv (.tmp 30) [(.tmp 32), (.tmp 33), (.con (.bool false))], none, []⟩])
 (.skip)))
 (.seq (.seq (.reg [⟨0, (some 35), .load (some 7) (.tmp 8), none, []⟩,
 ⟨1, (some 36), .call 116 [(.tmp 35)], none, []⟩,
 ⟨2, (some 37), .mv (.tmp 36), none, []⟩,
 ⟨3, (some 38), .fieldA 1 (.tmp 6), (some (37, true)), []⟩,
 ⟨4, (some 39), .load none (.tmp 38), (some (37, true)), []⟩,
 ⟨5, (some 40), .bin .geq 3 true (.tmp 39) (.con (.int .i64 0)), (some (37, true)), []⟩,
 ⟨6, (some 41), .pick (.tmp 37) (.tmp 40) (.con (.bool false)), none, []⟩])
 (.cond (.tmp 41)
 (.reg [⟨0, (some 42), .mv (.tmp 2), none, []⟩,
 ⟨1, (some 43), .fieldA 1 (.tmp 6), none, []⟩,
 ⟨2, (some 44), .load none (.tmp 43), none, []⟩,
 ⟨3, (some 45), .mv (.tmp 7), none, []⟩,
 ⟨4, (some 46), .callv (.tmp 42) [(.tmp 44), (.tmp 45), (.con (.bool true))], none, []⟩])
 (.skip)))
 (.seq (.reg [⟨0, (some 47), .load (some 7) (.tmp 8), none, []⟩,
 ⟨1, (some 48), .call 76 [(.tmp 47)], none, []⟩])
 (.cond (.tmp 48)
 (.ret)
 (.skip)))))))
 (.reg [⟨0, (some 49), .bin .add 3 true (.tmp 17) (.con (.int .i64 1)), none, []⟩,
 ⟨1, (some 17), .mv (.tmp 49), none, []⟩])))))))
 (.reg [⟨0, (some 50), .mv (.tmp 2), none, []⟩,
 ⟨1, (some 51), .mv (.tmp 1), none, []⟩,
 ⟨2, (some 52), .bin .add 3 true (.tmp 51) (.con (.int .i64 1)), none, []⟩,
 ⟨3, (some 53), .fieldA 0 (.tmp 6), none, []⟩,
 ⟨4, (some 54), .load none (.tmp 53), none, []⟩,
 ⟨5, (some 55), .len (.tmp 54), none, []⟩,
 ⟨6, (some 56), .callv (.tmp 50) [(.tmp 52), (.tmp 55), (.con (.bool false))], none, []⟩]))),
 []⟩
theorem p_words_Ways : prepFun Go.Proofs.Tryz.prog [0, 1, 2] Go.Proofs.Tryz.f83 = some v_words_Ways := by kernel_rfl

def v_words_next_c1 : VFun :=
⟨.reg [⟨0, (some 7), .load none (.tmp 3), none, []⟩,
 ⟨1, (some 8), .mv (.tmp 0), none, []⟩,
 ⟨2, (some 9), .bslice 1 1 [(.int .i64 0)] [(0, 1, (.tmp 8))], none, []⟩,
 ⟨3, (some 10), .append 1 8 (.tmp 7) (.tmp 9), none, []⟩,
 ⟨4, none, .store 1 (.tmp 3) (.tmp 10), none, []⟩],
 []⟩
theorem p_words_next_c1 : prepFun Go.Proofs.Tryz.prog [0, 1, 2] Go.Proofs.Tryz.f84 = some v_words_next_c1 := by kernel_rfl

def v_slices_Sort_int : VFun :=
⟨.seq (.reg [⟨0, (some 3), .mv (.tmp 0), none, []⟩,
 ⟨1, (some 4), .len (.tmp 3), none, []⟩,
 ⟨2, (some 2), .mv (.tmp 4), none, []⟩])
 (.reg [⟨0, (some 5), .mv (.tmp 0), none, []⟩,
 ⟨1, (some 6), .mv (.tmp 2), none, []⟩,
 ⟨2, (some 7), .mv (.tmp 2), none, []⟩,
 ⟨3, (some 8), .conv 3 147 (.tmp 7), none, []⟩,
 ⟨4, (some 9), .call 118 [(.tmp 8)], none, []⟩,
 ⟨5, (some 10), .call 117 [(.tmp 5), (.con (.int .i64 0)), (.tmp 6), (.tmp 9)], none, []⟩]),
 []⟩
theorem p_slices_Sort_int : prepFun Go.Proofs.Tryz.prog [0, 1, 2] Go.Proofs.Tryz.f85 = some v_slices_Sort_int := by kernel_rfl

def v_slices_Compact_int : VFun :=
⟨.seq (.reg [⟨0, (some 2), .mv (.con (.slice none 0 0)), none, []⟩])
 (.seq (.seq (.reg [⟨0, (some 6), .mv (.tmp 0), none, []⟩,
 ⟨1, (some 7), .len (.tmp 6), none, []⟩,
 ⟨2, (some 8), .bin .lss 3 true (.tmp 7) (.con (.int .i64 2)), none, []⟩])
 (.cond (.tmp 8)
 (.seq (.reg [⟨0, (some 9), .mv (.tmp 0), none, []⟩,
 ⟨1, (some 2), .mv (.tmp 9), none, []⟩])
 (.ret))
 (.skip)))
 (.seq (.seq (.reg [⟨0, (some 3), .mv (.con (.int .i64 1)), none, []⟩])
 (.block 0
 (.loop
 (.seq (.seq (.reg [⟨0, (some 10), .mv (.tmp 3), none, []⟩,
 ⟨1, (some 11), .mv (.tmp 0), none, []⟩,
 ⟨2, (some 12), .len (.tmp 11), none, []⟩,
 ⟨3, (some 13), .bin .lss 3 false (.tmp 10) (.tmp 12), none, []⟩])
 (.cond (.tmp 13)
 (.skip)
 (.exit 0)))
 (.seq (.block 1
 (.seq (.reg [⟨0, (some 16), .mv (.tmp 0), none, []⟩,
 ⟨1, (some 17), .mv (.tmp 3), none, []⟩,
 ⟨2, (some 18), .idxA none 1 (.tmp 16) (.tmp 17), none, []⟩,
 ⟨3, (some 19), .load none (.tmp 18), none, []⟩,
 ⟨4, (some 20), .mv (.tmp 0), none, []⟩,
 ⟨5, (some 21), .mv (.tmp 3), none, []⟩,
 ⟨6, (some 22), .bin .sub 3 true (.tmp 21) (.con (.int .i64 1)), none, []⟩,
 ⟨7, (some 23), .idxA none 1 (.tmp 20) (.tmp 22), none, []⟩,
 ⟨8, (some 24), .load none (.tmp 23), none, []⟩,
 ⟨9, (some 25), .bin .eql 3 false (.tmp 19) (.tmp 24), none, []⟩])
 (.cond (.tmp 25)
 (.seq (.reg [⟨0, (some 26), .mv (.tmp 0), none, []⟩,
 ⟨1, (some 27), .mv (.tmp 3), none, []⟩,
 ⟨2, (some 28), .slice none 1 (.tmp 26) (some (.tmp 27)) none none, none, []⟩,
 ⟨3, (some 4), .mv (.tmp 28), none, []⟩])
 (.seq (.seq (.reg [⟨0, (some 5), .mv (.con (.int .i64 1)), none, []⟩])
 (.block 2
 (.loop
 (.seq (.seq (.reg [⟨0, (some 29), .mv (.tmp 5), none, []⟩,
 ⟨1, (some 30), .mv (.tmp 4), none, []⟩,
 ⟨2, (some 31), .len (.tmp 30), none, []⟩,
 ⟨3, (some 32), .bin .lss 3 false (.tmp 29) (.tmp 31), none, []⟩])
 (.cond (.tmp 32)
 (.skip)
 (.exit 2)))
 (.seq (.block 3
 (.seq (.reg [⟨0, (some 35), .mv (.tmp 4), none, []⟩,
 ⟨1, (some 36), .mv (.tmp 5), none, []⟩,
 ⟨2, (some 37), .idxA none 1 (.tmp 35) (.tmp 36), none, []⟩,
 ⟨3, (some 38), .load none (.tmp 37), none, []⟩,
 ⟨4, (some 39), .mv (.tmp 4), none, []⟩,
 ⟨5, (some 40), .mv (.tmp 5), none, []⟩,
 ⟨6, (some 41), .bin .sub 3 true (.tmp 40) (.con (.int .i64 1)), none, []⟩,
 ⟨7, (some 42), .idxA none 1 (.tmp 39) (.tmp 41), none, []⟩,
 ⟨8, (some 43), .load none (.tmp 42), none, []⟩,
 ⟨9, (some 44), .bin .neq 3 false (.tmp 38) (.tmp 43), none, []⟩])
 (.cond (.tmp 44)
 (.seq (.reg [⟨0, (some 45), .mv (.tmp 0), none, []⟩,
 ⟨1, (some 46), .mv (.tmp 3), none, []⟩,
 ⟨2, (some 47), .mv (.tmp 4), none, []⟩,
 ⟨3, (some 48), .mv (.tmp 5), none, []⟩,
 ⟨4, (some 49), .idxA none 1 (.tmp 47) (.tmp 48), none, []⟩,
 ⟨5, (some 50), .load none (.tmp 49), none, []⟩,
 ⟨6, (some 51), .idxA none 1 (.tmp 45) (.tmp 46), none, []⟩,
 ⟨7, none, .store 1 (.tmp 51) (.tmp 50), none, []⟩])
 (.reg [⟨0, (some 52), .mv (.tmp 3), none, []⟩,
 ⟨1, (some 53), .bin .add 3 true (.tmp 52) (.con (.int .i64 1)), none, []⟩,
 ⟨2, (some 3), .mv (.tmp 53), none, []⟩]))
 (.skip))))
 (.reg [⟨0, (some 33), .mv (.tmp 5), none, []⟩,
 ⟨1, (some 34), .bin .add 3 true (.tmp 33) (.con (.int .i64 1)), none, []⟩,
 ⟨2, (some 5), .mv (.tmp 34), none, []⟩]))))))
 (.seq (.reg [⟨0, (some 54), .mv (.tmp 0), none, []⟩,
 ⟨1, (some 55), .mv (.tmp 3), none, []⟩,
 ⟨2, (some 56), .slice none 1 (.tmp 54) (some (.tmp 55)) none none, none, []⟩,
 ⟨3, none, .ext (.con (.int .i64 0)) 0, none, []⟩])
 (.seq (.reg [⟨0, (some 57), .mv (.tmp 0), none, []⟩,
 ⟨1, (some 58), .mv (.tmp 3), none, []⟩,
 ⟨2, (some 59), .slice none 1 (.tmp 57) none (some (.tmp 58)) none, none, []⟩,
 ⟨3, (some 2), .mv (.tmp 59), none, []⟩])
 (.ret)))))
 (.skip))))
 (.reg [⟨0, (some 14), .mv (.tmp 3), none, []⟩,
 ⟨1, (some 15), .bin .add 3 true (.tmp 14) (.con (.int .i64 1)), none, []⟩,
 ⟨2, (some 3), .mv (.tmp 15), none, []⟩]))))))
 (.seq (.reg [⟨0, (some 60), .mv (.tmp 0), none, []⟩,
 ⟨1, (some 2), .mv (.tmp 60), none, []⟩])
 (.ret)))),
 [.tmp 2]⟩
theorem p_slices_Compact_int : prepFun Go.Proofs.Tryz.prog [0, 1, 2] Go.Proofs.Tryz.f86 = some v_slices_Compact_int := by kernel_rfl

end Go.VX.Seat
end
section
set_option maxRecDepth 20000
/-! MADE BY PROGRAM (lits.py): functions as they are prepared. -/
namespace Go.VX.Seat
def v_words_isOwn : VFun :=
⟨.seq (.reg [⟨0, (some 2), .mv (.con (.bool false)), none, []⟩])
 (.seq (.reg [⟨0, (some 3), .mv (.tmp 0), none, []⟩,
 ⟨1, (some 4), .bin .geq 3 true (.tmp 3) (.con (.int .i64 26)), none, []⟩,
 ⟨2, (some 5), .mv (.tmp 4), none, []⟩,
 ⟨3, (some 6), .mv (.tmp 0), (some (5, true)), []⟩,
 ⟨4, (some 7), .bin .leq 3 true (.tmp 6) (.con (.int .i64 28)), (some (5, true)), []⟩,
 ⟨5, (some 8), .pick (.tmp 5) (.tmp 7) (.con (.bool false)), none, []⟩,
 ⟨6, (some 2), .mv (.tmp 8), none, []⟩])
 (.ret)),
 [.tmp 2]⟩
theorem p_words_isOwn : prepFun Go.Proofs.Tryz.prog [0, 1, 2] Go.Proofs.Tryz.f89 = some v_words_isOwn := by kernel_rfl

def v_code_Write : VFun :=
⟨.seq (.reg [⟨0, (some 1), .box (.tmp 0), none, []⟩,
 ⟨1, (some 2), .mv (.con (.int .i64 0)), none, []⟩])
 (.seq (.seq (.reg [⟨0, (some 6), .fieldA 0 (.tmp 1), none, []⟩,
 ⟨1, (some 7), .load none (.tmp 6), none, []⟩,
 ⟨2, (some 8), .call 119 [(.tmp 7)], none, []⟩,
 ⟨3, (some 5), .mv (.tmp 8), none, []⟩,
 ⟨4, (some 9), .ext (.tmp 5) 0, none, []⟩,
 ⟨5, (some 10), .ext (.tmp 5) 1, none, []⟩,
 ⟨6, (some 3), .alloc [(.int .i64 0), (.int .i64 0), (.string ⟨#[]⟩)], none, []⟩,
 ⟨7, none, .store 3 (.tmp 3) (.tmp 9), none, []⟩,
 ⟨8, (some 4), .mv (.tmp 10), none, []⟩])
 (.seq (.reg [⟨0, (some 11), .fieldA 0 (.tmp 3), none, []⟩,
 ⟨1, (some 12), .load none (.tmp 11), none, []⟩,
 ⟨2, (some 13), .bin .and 3 true (.tmp 12) (.con (.int .i64 1)), none, []⟩,
 ⟨3, (some 14), .bin .neq 3 true (.tmp 13) (.con (.int .i64 0)), none, []⟩])
 (.cond (.tmp 14)
 (.seq (.reg [⟨0, (some 15), .fieldA 1 (.tmp 1), none, []⟩,
 ⟨1, (some 16), .load none (.tmp 15), none, []⟩,
 ⟨2, (some 2), .mv (.tmp 16), none, []⟩])
 (.ret))
 (.skip))))
 (.seq (.reg [⟨0, (some 2), .mv (.con (.int .i64 (-1))), none, []⟩])
 (.ret))),
 [.tmp 2]⟩
theorem p_code_Write : prepFun Go.Proofs.Tryz.prog [0, 1, 2] Go.Proofs.Tryz.f90 = some v_code_Write := by kernel_rfl

def v_code_Read : VFun :=
⟨.seq (.reg [⟨0, (some 1), .box (.tmp 0), none, []⟩,
 ⟨1, (some 2), .mv (.con (.slice none 0 0)), none, []⟩])
 (.seq (.reg [⟨0, (some 9), .fieldA 0 (.tmp 1), none, []⟩,
 ⟨1, (some 10), .load none (.tmp 9), none, []⟩,
 ⟨2, (some 11), .call 119 [(.tmp 10)], none, []⟩,
 ⟨3, (some 8), .mv (.tmp 11), none, []⟩,
 ⟨4, (some 12), .ext (.tmp 8) 0, none, []⟩,
 ⟨5, (some 13), .ext (.tmp 8) 1, none, []⟩,
 ⟨6, (some 3), .alloc [(.int .i64 0), (.int .i64 0), (.string ⟨#[]⟩)], none, []⟩,
 ⟨7, none, .store 3 (.tmp 3) (.tmp 12), none, []⟩,
 ⟨8, (some 4), .mv (.tmp 13), none, []⟩])
 (.seq (.reg [⟨0, (some 5), .mv (.con (.slice none 0 0)), none, []⟩])
 (.seq (.seq (.reg [⟨0, (some 14), .fieldA 2 (.tmp 1), none, []⟩,
 ⟨1, (some 15), .load none (.tmp 14), none, []⟩,
 ⟨2, (some 16), .fieldA 3 (.tmp 1), none, []⟩,
 ⟨3, (some 17), .load none (.tmp 16), none, []⟩,
 ⟨4, (some 18), .fieldA 4 (.tmp 1), none, []⟩,
 ⟨5, (some 19), .load none (.tmp 18), none, []⟩,
 ⟨6, (some 20), .build [(.int .i64 0), (.int .i64 0), (.int .i64 0)] [(0, 1, (.tmp 15)), (1, 1, (.tmp 17)), (2, 1, (.tmp 19))], none, []⟩,
 ⟨7, (some 21), .mv (.con (.int .i64 0)), none, []⟩])
 (.block 0
 (.loop
 (.seq (.reg [⟨0, (some 22), .bin .lss 3 true (.tmp 21) (.con (.int .i64 3)), none, []⟩])
 (.seq (.cond (.tmp 22)
 (.skip)
 (.exit 0))
 (.seq (.block 1
 (.seq (.reg [⟨0, (some 23), .mv (.tmp 21), none, []⟩,
 ⟨1, (some 24), .idx 3 none 1 (.tmp 20) (.tmp 21), none, []⟩,
 ⟨2, (some 6), .mv (.tmp 23), none, []⟩,
 ⟨3, (some 7), .mv (.tmp 24), none, []⟩])
 (.seq (.reg [⟨0, (some 25), .fieldA 0 (.tmp 3), none, []⟩,
 ⟨1, (some 26), .load none (.tmp 25), none, []⟩,
 ⟨2, (some 27), .mv (.tmp 6), none, []⟩,
 ⟨3, (some 28), .bin .shl 3 true (.con (.int .i64 2)) (.tmp 27), none, []⟩,
 ⟨4, (some 29), .bin .and 3 false (.tmp 26) (.tmp 28), none, []⟩,
 ⟨5, (some 30), .bin .neq 3 true (.tmp 29) (.con (.int .i64 0)), none, []⟩])
 (.cond (.tmp 30)
 (.reg [⟨0, (some 31), .mv (.tmp 5), none, []⟩,
 ⟨1, (some 32), .mv (.tmp 7), none, []⟩,
 ⟨2, (some 33), .bslice 1 1 [(.int .i64 0)] [(0, 1, (.tmp 32))], none, []⟩,
 ⟨3, (some 34), .append 1 8 (.tmp 31) (.tmp 33), none, []⟩,
 ⟨4, (some 5), .mv (.tmp 34), none, []⟩])
 (.skip)))))
 (.reg [⟨0, (some 35), .bin .add 3 true (.tmp 21) (.con (.int .i64 1)), none, []⟩,
 ⟨1, (some 21), .mv (.tmp 35), none, []⟩])))))))
 (.seq (.reg [⟨0, (some 36), .mv (.tmp 5), none, []⟩,
 ⟨1, (some 2), .mv (.tmp 36), none, []⟩])
 (.ret))))),
 [.tmp 2]⟩
theorem p_code_Read : prepFun Go.Proofs.Tryz.prog [0, 1, 2] Go.Proofs.Tryz.f91 = some v_code_Read := by kernel_rfl

def v_words_sum : VFun :=
⟨.seq (.reg [⟨0, (some 2), .mv (.con (.int .u32 0)), none, []⟩])
 (.seq (.reg [⟨0, (some 3), .mv (.con (.int .u32 1)), none, []⟩])
 (.seq (.seq (.reg [⟨0, (some 6), .mv (.tmp 0), none, []⟩,
 ⟨1, (some 7), .len (.tmp 6), none, []⟩,
 ⟨2, (some 8), .mv (.con (.int .i64 0)), none, []⟩])
 (.block 0
 (.loop
 (.seq (.reg [⟨0, (some 9), .bin .lss 3 false (.tmp 8) (.tmp 7), none, []⟩])
 (.seq (.cond (.tmp 9)
 (.skip)
 (.exit 0))
 (.seq (.block 1
 (.seq (.reg [⟨0, (some 10), .idxA none 1 (.tmp 6) (.tmp 8), none, []⟩,
 ⟨1, (some 11), .load none (.tmp 10), none, []⟩,
 ⟨2, (some 5), .mv (.tmp 11), none, []⟩])
 (.reg [⟨0, (some 12), .mv (.tmp 3), none, []⟩,
 ⟨1, (some 13), .bin .mul 148 true (.tmp 12) (.con (.int .u32 16777619)), none, []⟩,
 ⟨2, (some 14), .mv (.tmp 5), none, []⟩,
 ⟨3, (some 15), .conv 5 148 (.tmp 14), none, []⟩,
 ⟨4, (some 16), .bin .add 148 false (.tmp 13) (.tmp 15), none, []⟩,
 ⟨5, (some 3), .mv (.tmp 16), none, []⟩])))
 (.reg [⟨0, (some 17), .bin .add 3 true (.tmp 8) (.con (.int .i64 1)), none, []⟩,
 ⟨1, (some 8), .mv (.tmp 17), none, []⟩])))))))
 (.seq (.reg [⟨0, (some 18), .mv (.tmp 3), none, []⟩,
 ⟨1, (some 2), .mv (.tmp 18), none, []⟩])
 (.ret)))),
 [.tmp 2]⟩
theorem p_words_sum : prepFun Go.Proofs.Tryz.prog [0, 1, 2] Go.Proofs.Tryz.f92 = some v_words_sum := by kernel_rfl

def v_words_Reader_Fail : VFun :=
⟨.seq (.reg [⟨0, (some 4), .mv (.tmp 0), none, []⟩,
 ⟨1, (some 5), .nilck (.tmp 4), none, []⟩,
 ⟨2, (some 6), .fieldA 1 (.tmp 5), none, []⟩,
 ⟨3, (some 7), .load none (.tmp 6), none, []⟩,
 ⟨4, (some 8), .bin .eql 27 true (.tmp 7) (.con (.int .i64 0)), none, []⟩])
 (.cond (.tmp 8)
 (.reg [⟨0, (some 9), .mv (.tmp 0), none, []⟩,
 ⟨1, (some 10), .mv (.tmp 1), none, []⟩,
 ⟨2, (some 11), .nilck (.tmp 9), none, []⟩,
 ⟨3, (some 12), .fieldA 1 (.tmp 11), none, []⟩,
 ⟨4, none, .store 1 (.tmp 12) (.tmp 10), none, []⟩])
 (.skip)),
 []⟩
theorem p_words_Reader_Fail : prepFun Go.Proofs.Tryz.prog [0, 1, 2] Go.Proofs.Tryz.f94 = some v_words_Reader_Fail := by kernel_rfl

def v_words_Reader_Number : VFun :=
⟨.seq (.reg [⟨0, (some 2), .mv (.con (.int .i64 0)), none, []⟩])
 (.seq (.reg [⟨0, (some 3), .mv (.con (.int .u64 0)), none, []⟩,
 ⟨1, (some 4), .mv (.con (.int .i64 0)), none, []⟩])
 (.seq (.seq (.reg [⟨0, (some 8), .mv (.tmp 0), none, []⟩,
 ⟨1, (some 9), .nilck (.tmp 8), none, []⟩,
 ⟨2, (some 10), .fieldA 0 (.tmp 9), none, []⟩,
 ⟨3, (some 11), .load none (.tmp 10), none, []⟩,
 ⟨4, (some 12), .len (.tmp 11), none, []⟩,
 ⟨5, (some 13), .mv (.con (.int .i64 0)), none, []⟩])
 (.block 0
 (.loop
 (.seq (.reg [⟨0, (some 14), .bin .lss 3 false (.tmp 13) (.tmp 12), none, []⟩])
 (.seq (.cond (.tmp 14)
 (.skip)
 (.exit 0))
 (.seq (.block 1
 (.seq (.reg [⟨0, (some 15), .mv (.tmp 13), none, []⟩,
 ⟨1, (some 16), .idxA none 1 (.tmp 11) (.tmp 13), none, []⟩,
 ⟨2, (some 17), .load none (.tmp 16), none, []⟩,
 ⟨3, (some 5), .mv (.tmp 15), none, []⟩,
 ⟨4, (some 6), .mv (.tmp 17), none, []⟩])
 (.seq (.seq (.reg [⟨0, (some 18), .mv (.tmp 4), none, []⟩,
 ⟨1, (some 19), .bin .eql 3 true (.tmp 18) (.con (.int .i64 63)), none, []⟩,
 ⟨2, (some 20), .mv (.tmp 19), none, []⟩,
 ⟨3, (some 21), .mv (.tmp 6), (some (20, true)), []⟩,
 ⟨4, (some 22), .bin .gtr 5 true (.tmp 21) (.con (.int .u8 1)), (some (20, true)), []⟩,
 ⟨5, (some 23), .pick (.tmp 20) (.tmp 22) (.con (.bool false)), none, []⟩,
 ⟨6, (some 24), .mv (.tmp 23), none, []⟩,
 ⟨7, (some 25), .mv (.tmp 5), (some (24, false)), []⟩,
 ⟨8, (some 26), .bin .gtr 3 true (.tmp 25) (.con (.int .i64 0)), (some (24, false)), []⟩,
 ⟨9, (some 27), .mv (.tmp 26), (some (24, false)), []⟩,
 ⟨10, (some 28), .mv (.tmp 6), (some (27, true)), []⟩,
 ⟨11, (some 29), .bin .eql 5 true (.tmp 28) (.con (.int .u8 0)), (some (27, true)), []⟩,
 ⟨12, (some 30), .pick (.tmp 27) (.tmp 29) (.con (.bool false)), (some (24, false)), []⟩,
 ⟨13, (some 31), .pick (.tmp 24) (.con (.bool true)) (.tmp 30), none, []⟩])
 (.cond (.tmp 31)
 (.exit 0)
 (.skip)))
 (.seq (.reg [⟨0, (some 32), .mv (.tmp 3), none, []⟩,
 ⟨1, (some 33), .mv (.tmp 6), none, []⟩,
 ⟨2, (some 34), .bin .and 5 true (.tmp 33) (.con (.int .u8 127)), none, []⟩,
 ⟨3, (some 35), .conv 5 146 (.tmp 34), none, []⟩,
 ⟨4, (some 36), .mv (.tmp 4), none, []⟩,
 ⟨5, (some 37), .bin .shl 146 false (.tmp 35) (.tmp 36), none, []⟩,
 ⟨6, (some 38), .bin .or 146 false (.tmp 32) (.tmp 37), none, []⟩,
 ⟨7, (some 3), .mv (.tmp 38), none, []⟩])
 (.seq (.reg [⟨0, (some 39), .mv (.tmp 4), none, []⟩,
 ⟨1, (some 40), .bin .add 3 true (.tmp 39) (.con (.int .i64 7)), none, []⟩,
 ⟨2, (some 4), .mv (.tmp 40), none, []⟩])
 (.seq (.reg [⟨0, (some 41), .mv (.tmp 6), none, []⟩,
 ⟨1, (some 42), .bin .lss 5 true (.tmp 41) (.con (.int .u8 128)), none, []⟩])
 (.cond (.tmp 42)
 (.seq (.reg [⟨0, (some 43), .mv (.tmp 0), none, []⟩,
 ⟨1, (some 44), .mv (.tmp 0), none, []⟩,
 ⟨2, (some 45), .nilck (.tmp 44), none, []⟩,
 ⟨3, (some 46), .fieldA 0 (.tmp 45), none, []⟩,
 ⟨4, (some 47), .load none (.tmp 46), none, []⟩,
 ⟨5, (some 48), .mv (.tmp 5), none, []⟩,
 ⟨6, (some 49), .bin .add 3 true (.tmp 48) (.con (.int .i64 1)), none, []⟩,
 ⟨7, (some 50), .slice none 1 (.tmp 47) (some (.tmp 49)) none none, none, []⟩,
 ⟨8, (some 51), .nilck (.tmp 43), none, []⟩,
 ⟨9, (some 52), .fieldA 0 (.tmp 51), none, []⟩,
 ⟨10, none, .store 1 (.tmp 52) (.tmp 50), none, []⟩])
 (.seq (.reg [⟨0, (some 53), .mv (.tmp 3), none, []⟩,
 ⟨1, (some 54), .bin .shr 146 true (.tmp 53) (.con (.int .u64 1)), none, []⟩,
 ⟨2, (some 55), .conv 146 2 (.tmp 54), none, []⟩,
 ⟨3, (some 7), .mv (.tmp 55), none, []⟩])
 (.seq (.seq (.reg [⟨0, (some 56), .mv (.tmp 3), none, []⟩,
 ⟨1, (some 57), .bin .and 146 true (.tmp 56) (.con (.int .u64 1)), none, []⟩,
 ⟨2, (some 58), .bin .eql 146 true (.tmp 57) (.con (.int .u64 1)), none, []⟩])
 (.cond (.tmp 58)
 (.reg [⟨0, (some 59), .mv (.tmp 7), none, []⟩,
 ⟨1, (some 60), .un .xor (.tmp 59), none, []⟩,
 ⟨2, (some 7), .mv (.tmp 60), none, []⟩])
 (.skip)))
 (.seq (.reg [⟨0, (some 61), .mv (.tmp 7), none, []⟩,
 ⟨1, (some 2), .mv (.tmp 61), none, []⟩])
 (.ret)))))
 (.skip))))))))
 (.reg [⟨0, (some 62), .bin .add 3 true (.tmp 13) (.con (.int .i64 1)), none, []⟩,
 ⟨1, (some 13), .mv (.tmp 62), none, []⟩])))))))
 (.seq (.reg [⟨0, (some 63), .mv (.tmp 0), none, []⟩,
 ⟨1, (some 64), .call 94 [(.tmp 63), (.con (.int .i64 4))], none, []⟩])
 (.seq (.reg [⟨0, (some 2), .mv (.con (.int .i64 0)), none, []⟩])
 (.ret))))),
 [.tmp 2]⟩
theorem p_words_Reader_Number : prepFun Go.Proofs.Tryz.prog [0, 1, 2] Go.Proofs.Tryz.f95 = some v_words_Reader_Number := by kernel_rfl

def v_internal_strconv_Itoa : VFun :=
⟨.seq (.reg [⟨0, (some 2), .mv (.con (.string ⟨#[]⟩)), none, []⟩])
 (.seq (.reg [⟨0, (some 3), .mv (.tmp 0), none, []⟩,
 ⟨1, (some 4), .call 121 [(.tmp 3), (.con (.int .i64 10))], none, []⟩,
 ⟨2, (some 2), .mv (.tmp 4), none, []⟩])
 (.ret)),
 [.tmp 2]⟩
theorem p_internal_strconv_Itoa : prepFun Go.Proofs.Tryz.prog [0, 1, 2] Go.Proofs.Tryz.f97 = some v_internal_strconv_Itoa := by kernel_rfl

def v_words_name : VFun :=
⟨.seq (.reg [⟨0, (some 2), .mv (.con (.string ⟨#[]⟩)), none, []⟩])
 (.seq (.seq (.reg [⟨0, (some 5), .mv (.tmp 0), none, []⟩,
 ⟨1, (some 6), .call 89 [(.tmp 5)], none, []⟩])
 (.cond (.tmp 6)
 (.seq (.reg [⟨0, (some 7), .bslice 1 3 [(.string ⟨#[]⟩)] [(0, 1, (.con (.string ⟨#[106, 117, 109, 112]⟩))), (1, 1, (.con (.string ⟨#[114, 101, 116, 117, 114, 110]⟩))), (2, 1, (.con (.string ⟨#[116, 104, 114, 111, 119]⟩)))], none, []⟩,
 ⟨1, (some 8), .mv (.tmp 0), none, []⟩,
 ⟨2, (some 9), .bin .sub 3 true (.tmp 8) (.con (.int .i64 26)), none, []⟩,
 ⟨3, (some 10), .idxA none 1 (.tmp 7) (.tmp 9), none, []⟩,
 ⟨4, (some 11), .load none (.tmp 10), none, []⟩,
 ⟨5, (some 2), .mv (.tmp 11), none, []⟩])
 (.ret))
 (.skip)))
 (.seq (.reg [⟨0, (some 13), .mv (.tmp 0), none, []⟩,
 ⟨1, (some 14), .call 122 [(.tmp 13)], none, []⟩,
 ⟨2, (some 12), .mv (.tmp 14), none, []⟩,
 ⟨3, (some 15), .ext (.tmp 12) 0, none, []⟩,
 ⟨4, (some 16), .ext (.tmp 12) 1, none, []⟩,
 ⟨5, (some 3), .mv (.tmp 15), none, []⟩,
 ⟨6, (some 4), .mv (.tmp 16), none, []⟩])
 (.seq (.reg [⟨0, (some 17), .mv (.tmp 3), none, []⟩,
 ⟨1, (some 2), .mv (.tmp 17), none, []⟩])
 (.ret)))),
 [.tmp 2]⟩
theorem p_words_name : prepFun Go.Proofs.Tryz.prog [0, 1, 2] Go.Proofs.Tryz.f98 = some v_words_name := by kernel_rfl

def v_word_Show : VFun :=
⟨.seq (.reg [⟨0, (some 2), .mv (.con (.string ⟨#[]⟩)), none, []⟩])
 (.seq (.reg [⟨0, (some 3), .mv (.tmp 0), none, []⟩,
 ⟨1, (some 4), .call 123 [(.tmp 3), (.con (.int .i64 10))], none, []⟩,
 ⟨2, (some 2), .mv (.tmp 4), none, []⟩])
 (.ret)),
 [.tmp 2]⟩
theorem p_word_Show : prepFun Go.Proofs.Tryz.prog [0, 1, 2] Go.Proofs.Tryz.f99 = some v_word_Show := by kernel_rfl

def v_strings_Join : VFun :=
⟨.seq (.reg [⟨0, (some 4), .mv (.con (.string ⟨#[]⟩)), none, []⟩])
 (.seq (.seq (.reg [⟨0, (some 11), .mv (.tmp 0), none, []⟩,
 ⟨1, (some 12), .len (.tmp 11), none, []⟩])
 (.block 0
 (.seq (.reg [⟨0, (some 14), .bin .eql 3 true (.tmp 12) (.con (.int .i64 0)), none, []⟩,
 ⟨1, (some 13), .mv (.tmp 14), none, []⟩])
 (.cond (.tmp 13)
 (.seq (.reg [⟨0, (some 4), .mv (.con (.string ⟨#[]⟩)), none, []⟩])
 (.ret))
 (.seq (.reg [⟨0, (some 16), .bin .eql 3 true (.tmp 12) (.con (.int .i64 1)), none, []⟩,
 ⟨1, (some 15), .mv (.tmp 16), none, []⟩])
 (.cond (.tmp 15)
 (.seq (.reg [⟨0, (some 17), .mv (.tmp 0), none, []⟩,
 ⟨1, (some 18), .idxA none 1 (.tmp 17) (.con (.int .i64 0)), none, []⟩,
 ⟨2, (some 19), .load none (.tmp 18), none, []⟩,
 ⟨3, (some 4), .mv (.tmp 19), none, []⟩])
 (.ret))
 (.skip)))))))
 (.seq (.reg [⟨0, (some 5), .mv (.con (.int .i64 0)), none, []⟩])
 (.seq (.seq (.reg [⟨0, (some 20), .mv (.tmp 1), none, []⟩,
 ⟨1, (some 21), .bi .len [9] 3 [(.tmp 20)], none, []⟩,
 ⟨2, (some 22), .bin .gtr 3 true (.tmp 21) (.con (.int .i64 0)), none, []⟩])
 (.cond (.tmp 22)
 (.seq (.seq (.reg [⟨0, (some 23), .mv (.tmp 1), none, []⟩,
 ⟨1, (some 24), .bi .len [9] 3 [(.tmp 23)], none, []⟩,
 ⟨2, (some 25), .mv (.tmp 0), none, []⟩,
 ⟨3, (some 26), .len (.tmp 25), none, []⟩,
 ⟨4, (some 27), .bin .sub 3 true (.tmp 26) (.con (.int .i64 1)), none, []⟩,
 ⟨5, (some 28), .bin .quo 3 true (.con (.int .i64 9223372036854775807)) (.tmp 27), none, []⟩,
 ⟨6, (some 29), .bin .geq 3 false (.tmp 24) (.tmp 28), none, []⟩])
 (.cond (.tmp 29)
 (.reg [⟨0, (some 30), .mkif 9 (.con (.string ⟨#[115, 116, 114, 105, 110, 103, 115, 58, 32, 74, 111, 105, 110, 32, 111, 117, 116, 112, 117, 116, 32, 108, 101, 110, 103, 116, 104, 32, 111, 118, 101, 114, 102, 108, 111, 119]⟩)), none, []⟩,
 ⟨1, none, .panic (.tmp 30), none, []⟩])
 (.skip)))
 (.reg [⟨0, (some 31), .mv (.tmp 5), none, []⟩,
 ⟨1, (some 32), .mv (.tmp 1), none, []⟩,
 ⟨2, (some 33), .bi .len [9] 3 [(.tmp 32)], none, []⟩,
 ⟨3, (some 34), .mv (.tmp 0), none, []⟩,
 ⟨4, (some 35), .len (.tmp 34), none, []⟩,
 ⟨5, (some 36), .bin .sub 3 true (.tmp 35) (.con (.int .i64 1)), none, []⟩,
 ⟨6, (some 37), .bin .mul 3 false (.tmp 33) (.tmp 36), none, []⟩,
 ⟨7, (some 38), .bin .add 3 false (.tmp 31) (.tmp 37), none, []⟩,
 ⟨8, (some 5), .mv (.tmp 38), none, []⟩]))
 (.skip)))
 (.seq (.seq (.reg [⟨0, (some 39), .mv (.tmp 0), none, []⟩,
 ⟨1, (some 40), .len (.tmp 39), none, []⟩,
 ⟨2, (some 41), .mv (.con (.int .i64 0)), none, []⟩])
 (.block 1
 (.loop
 (.seq (.reg [⟨0, (some 42), .bin .lss 3 false (.tmp 41) (.tmp 40), none, []⟩])
 (.seq (.cond (.tmp 42)
 (.skip)
 (.exit 1))
 (.seq (.block 2
 (.seq (.reg [⟨0, (some 43), .idxA none 1 (.tmp 39) (.tmp 41), none, []⟩,
 ⟨1, (some 44), .load none (.tmp 43), none, []⟩,
 ⟨2, (some 7), .mv (.tmp 44), none, []⟩])
 (.seq (.seq (.reg [⟨0, (some 45), .mv (.tmp 7), none, []⟩,
 ⟨1, (some 46), .bi .len [9] 3 [(.tmp 45)], none, []⟩,
 ⟨2, (some 47), .mv (.tmp 5), none, []⟩,
 ⟨3, (some 48), .bin .sub 3 true (.con (.int .i64 9223372036854775807)) (.tmp 47), none, []⟩,
 ⟨4, (some 49), .bin .gtr 3 false (.tmp 46) (.tmp 48), none, []⟩])
 (.cond (.tmp 49)
 (.reg [⟨0, (some 50), .mkif 9 (.con (.string ⟨#[115, 116, 114, 105, 110, 103, 115, 58, 32, 74, 111, 105, 110, 32, 111, 117, 116, 112, 117, 116, 32, 108, 101, 110, 103, 116, 104, 32, 111, 118, 101, 114, 102, 108, 111, 119]⟩)), none, []⟩,
 ⟨1, none, .panic (.tmp 50), none, []⟩])
 (.skip)))
 (.reg [⟨0, (some 51), .mv (.tmp 5), none, []⟩,
 ⟨1, (some 52), .mv (.tmp 7), none, []⟩,
 ⟨2, (some 53), .bi .len [9] 3 [(.tmp 52)], none, []⟩,
 ⟨3, (some 54), .bin .add 3 false (.tmp 51) (.tmp 53), none, []⟩,
 ⟨4, (some 5), .mv (.tmp 54), none, []⟩]))))
 (.reg [⟨0, (some 55), .bin .add 3 true (.tmp 41) (.con (.int .i64 1)), none, []⟩,
 ⟨1, (some 41), .mv (.tmp 55), none, []⟩])))))))
 (.seq (.reg [⟨0, (some 8), .allocF [(.int .i64 1), (.int .i64 105), (.int .i64 5), (.string ⟨#[]⟩)], none, []⟩])
 (.seq (.reg [⟨0, (some 56), .mv (.tmp 5), none, []⟩,
 ⟨1, (some 57), .call 124 [(.tmp 8), (.tmp 56)], none, []⟩])
 (.seq (.reg [⟨0, (some 58), .mv (.tmp 0), none, []⟩,
 ⟨1, (some 59), .idxA none 1 (.tmp 58) (.con (.int .i64 0)), none, []⟩,
 ⟨2, (some 60), .load none (.tmp 59), none, []⟩,
 ⟨3, (some 61), .call 59 [(.tmp 8), (.tmp 60)], none, []⟩])
 (.seq (.seq (.reg [⟨0, (some 62), .mv (.tmp 0), none, []⟩,
 ⟨1, (some 63), .slice none 1 (.tmp 62) (some (.con (.int .i64 1))) none none, none, []⟩,
 ⟨2, (some 64), .len (.tmp 63), none, []⟩,
 ⟨3, (some 65), .mv (.con (.int .i64 0)), none, []⟩])
 (.block 3
 (.loop
 (.seq (.reg [⟨0, (some 66), .bin .lss 3 false (.tmp 65) (.tmp 64), none, []⟩])
 (.seq (.cond (.tmp 66)
 (.skip)
 (.exit 3))
 (.seq (.block 4
 (.seq (.reg [⟨0, (some 67), .idxA none 1 (.tmp 63) (.tmp 65), none, []⟩,
 ⟨1, (some 68), .load none (.tmp 67), none, []⟩,
 ⟨2, (some 10), .mv (.tmp 68), none, []⟩])
 (.seq (.reg [⟨0, (some 69), .mv (.tmp 1), none, []⟩,
 ⟨1, (some 70), .call 59 [(.tmp 8), (.tmp 69)], none, []⟩])
 (.reg [⟨0, (some 71), .mv (.tmp 10), none, []⟩,
 ⟨1, (some 72), .call 59 [(.tmp 8), (.tmp 71)], none, []⟩]))))
 (.reg [⟨0, (some 73), .bin .add 3 true (.tmp 65) (.con (.int .i64 1)), none, []⟩,
 ⟨1, (some 65), .mv (.tmp 73), none, []⟩])))))))
 (.seq (.reg [⟨0, (some 74), .call 62 [(.tmp 8)], none, []⟩,
 ⟨1, (some 4), .mv (.tmp 74), none, []⟩])
 (.ret)))))))))),
 [.tmp 4]⟩
theorem p_strings_Join : prepFun Go.Proofs.Tryz.prog [0, 1, 2] Go.Proofs.Tryz.f100 = some v_strings_Join := by kernel_rfl

def v_words_lines_next : VFun :=
⟨.seq (.reg [⟨0, (some 6), .mv (.con (.bool false)), none, []⟩])
 (.seq (.reg [⟨0, (some 12), .mv (.tmp 0), none, []⟩,
 ⟨1, (some 13), .nilck (.tmp 12), none, []⟩,
 ⟨2, (some 14), .fieldA 0 (.tmp 13), none, []⟩,
 ⟨3, (some 15), .load none (.tmp 14), none, []⟩,
 ⟨4, (some 16), .call 125 [(.tmp 15), (.con (.string ⟨#[10]⟩))], none, []⟩,
 ⟨5, (some 11), .mv (.tmp 16), none, []⟩,
 ⟨6, (some 17), .ext (.tmp 11) 0, none, []⟩,
 ⟨7, (some 18), .ext (.tmp 11) 1, none, []⟩,
 ⟨8, (some 19), .ext (.tmp 11) 2, none, []⟩,
 ⟨9, (some 7), .mv (.tmp 17), none, []⟩,
 ⟨10, (some 8), .mv (.tmp 18), none, []⟩,
 ⟨11, (some 9), .mv (.tmp 19), none, []⟩])
 (.seq (.reg [⟨0, (some 20), .mv (.tmp 7), none, []⟩,
 ⟨1, (some 21), .call 126 [(.tmp 20), (.con (.string ⟨#[32]⟩))], none, []⟩,
 ⟨2, (some 10), .mv (.tmp 21), none, []⟩])
 (.seq (.seq (.reg [⟨0, (some 22), .mv (.tmp 9), none, []⟩,
 ⟨1, (some 23), .un .not (.tmp 22), none, []⟩,
 ⟨2, (some 24), .mv (.tmp 23), none, []⟩,
 ⟨3, (some 25), .mv (.tmp 10), (some (24, false)), []⟩,
 ⟨4, (some 26), .idxA none 1 (.tmp 25) (.con (.int .i64 0)), (some (24, false)), []⟩,
 ⟨5, (some 27), .load none (.tmp 26), (some (24, false)), []⟩,
 ⟨6, (some 28), .mv (.tmp 1), (some (24, false)), []⟩,
 ⟨7, (some 29), .bin .neq 9 false (.tmp 27) (.tmp 28), (some (24, false)), []⟩,
 ⟨8, (some 30), .pick (.tmp 24) (.con (.bool true)) (.tmp 29), none, []⟩,
 ⟨9, (some 31), .mv (.tmp 30), none, []⟩,
 ⟨10, (some 32), .mv (.tmp 10), (some (31, false)), []⟩,
 ⟨11, (some 33), .slice none 1 (.tmp 32) (some (.con (.int .i64 1))) none none, (some (31, false)), []⟩,
 ⟨12, (some 34), .mv (.tmp 2), (some (31, false)), []⟩,
 ⟨13, (some 35), .call 127 [(.tmp 33), (.tmp 34)], (some (31, false)), []⟩,
 ⟨14, (some 36), .un .not (.tmp 35), (some (31, false)), []⟩,
 ⟨15, (some 37), .pick (.tmp 31) (.con (.bool true)) (.tmp 36), none, []⟩])
 (.cond (.tmp 37)
 (.seq (.reg [⟨0, (some 6), .mv (.con (.bool false)), none, []⟩])
 (.ret))
 (.skip)))
 (.seq (.reg [⟨0, (some 38), .mv (.tmp 0), none, []⟩,
 ⟨1, (some 39), .mv (.tmp 0), none, []⟩,
 ⟨2, (some 40), .mv (.tmp 8), none, []⟩,
 ⟨3, (some 41), .mv (.tmp 0), none, []⟩,
 ⟨4, (some 42), .nilck (.tmp 41), none, []⟩,
 ⟨5, (some 43), .fieldA 1 (.tmp 42), none, []⟩,
 ⟨6, (some 44), .load none (.tmp 43), none, []⟩,
 ⟨7, (some 45), .bin .add 3 true (.tmp 44) (.con (.int .i64 1)), none, []⟩,
 ⟨8, (some 46), .nilck (.tmp 38), none, []⟩,
 ⟨9, (some 47), .fieldA 0 (.tmp 46), none, []⟩,
 ⟨10, none, .store 1 (.tmp 47) (.tmp 40), none, []⟩,
 ⟨11, (some 48), .nilck (.tmp 39), none, []⟩,
 ⟨12, (some 49), .fieldA 1 (.tmp 48), none, []⟩,
 ⟨13, none, .store 1 (.tmp 49) (.tmp 45), none, []⟩])
 (.seq (.reg [⟨0, (some 6), .mv (.con (.bool true)), none, []⟩])
 (.ret)))))),
 [.tmp 6]⟩
theorem p_words_lines_next : prepFun Go.Proofs.Tryz.prog [0, 1, 2] Go.Proofs.Tryz.f103 = some v_words_lines_next := by kernel_rfl

def v_words_lines_op : VFun :=
⟨.seq (.reg [⟨0, (some 2), .alloc [(.int .i64 0), (.int .i64 0), (.int .i64 0), (.int .i64 0), (.int .i64 0), (.int .i64 0), (.int .i64 0)], none, []⟩,
 ⟨1, (some 3), .mv (.con (.bool false)), none, []⟩])
 (.seq (.reg [⟨0, (some 10), .mv (.tmp 0), none, []⟩,
 ⟨1, (some 11), .nilck (.tmp 10), none, []⟩,
 ⟨2, (some 12), .fieldA 0 (.tmp 11), none, []⟩,
 ⟨3, (some 13), .load none (.tmp 12), none, []⟩,
 ⟨4, (some 14), .call 125 [(.tmp 13), (.con (.string ⟨#[10]⟩))], none, []⟩,
 ⟨5, (some 9), .mv (.tmp 14), none, []⟩,
 ⟨6, (some 15), .ext (.tmp 9) 0, none, []⟩,
 ⟨7, (some 16), .ext (.tmp 9) 1, none, []⟩,
 ⟨8, (some 17), .ext (.tmp 9) 2, none, []⟩,
 ⟨9, (some 4), .mv (.tmp 15), none, []⟩,
 ⟨10, (some 5), .mv (.tmp 16), none, []⟩,
 ⟨11, (some 6), .mv (.tmp 17), none, []⟩])
 (.seq (.reg [⟨0, (some 19), .mv (.tmp 4), none, []⟩,
 ⟨1, (some 20), .call 128 [(.tmp 19), (.con (.string ⟨#[32, 32]⟩))], none, []⟩,
 ⟨2, (some 18), .mv (.tmp 20), none, []⟩,
 ⟨3, (some 21), .ext (.tmp 18) 0, none, []⟩,
 ⟨4, (some 22), .ext (.tmp 18) 1, none, []⟩,
 ⟨5, (some 4), .mv (.tmp 21), none, []⟩,
 ⟨6, (some 7), .mv (.tmp 22), none, []⟩])
 (.seq (.seq (.reg [⟨0, (some 23), .mv (.tmp 6), none, []⟩,
 ⟨1, (some 24), .un .not (.tmp 23), none, []⟩,
 ⟨2, (some 25), .mv (.tmp 24), none, []⟩,
 ⟨3, (some 26), .mv (.tmp 7), (some (25, false)), []⟩,
 ⟨4, (some 27), .un .not (.tmp 26), (some (25, false)), []⟩,
 ⟨5, (some 28), .pick (.tmp 25) (.con (.bool true)) (.tmp 27), none, []⟩])
 (.cond (.tmp 28)
 (.seq (.reg [⟨0, (some 29), .build [(.int .i64 0), (.int .i64 0), (.int .i64 0), (.int .i64 0), (.int .i64 0), (.int .i64 0), (.int .i64 0)] [], none, []⟩,
 ⟨1, none, .store 7 (.tmp 2) (.tmp 29), none, []⟩,
 ⟨2, (some 3), .mv (.con (.bool false)), none, []⟩])
 (.ret))
 (.skip)))
 (.seq (.reg [⟨0, (some 31), .mv (.tmp 4), none, []⟩,
 ⟨1, (some 32), .call 129 [(.tmp 31)], none, []⟩,
 ⟨2, (some 30), .mv (.tmp 32), none, []⟩,
 ⟨3, (some 33), .ext (.tmp 30) 0, none, []⟩,
 ⟨4, (some 34), .ext (.tmp 30) 1, none, []⟩,
 ⟨5, (some 8), .alloc [(.int .i64 0), (.int .i64 0), (.int .i64 0), (.int .i64 0), (.int .i64 0), (.int .i64 0), (.int .i64 0)], none, []⟩,
 ⟨6, none, .store 7 (.tmp 8) (.tmp 33), none, []⟩,
 ⟨7, (some 6), .mv (.tmp 34), none, []⟩])
 (.seq (.seq (.reg [⟨0, (some 35), .mv (.tmp 6), none, []⟩])
 (.cond (.tmp 35)
 (.reg [⟨0, (some 36), .mv (.tmp 0), none, []⟩,
 ⟨1, (some 37), .mv (.tmp 0), none, []⟩,
 ⟨2, (some 38), .mv (.tmp 5), none, []⟩,
 ⟨3, (some 39), .mv (.tmp 0), none, []⟩,
 ⟨4, (some 40), .nilck (.tmp 39), none, []⟩,
 ⟨5, (some 41), .fieldA 1 (.tmp 40), none, []⟩,
 ⟨6, (some 42), .load none (.tmp 41), none, []⟩,
 ⟨7, (some 43), .bin .add 3 true (.tmp 42) (.con (.int .i64 1)), none, []⟩,
 ⟨8, (some 44), .nilck (.tmp 36), none, []⟩,
 ⟨9, (some 45), .fieldA 0 (.tmp 44), none, []⟩,
 ⟨10, none, .store 1 (.tmp 45) (.tmp 38), none, []⟩,
 ⟨11, (some 46), .nilck (.tmp 37), none, []⟩,
 ⟨12, (some 47), .fieldA 1 (.tmp 46), none, []⟩,
 ⟨13, none, .store 1 (.tmp 47) (.tmp 43), none, []⟩])
 (.skip)))
 (.seq (.reg [⟨0, (some 48), .load (some 7) (.tmp 8), none, []⟩,
 ⟨1, (some 49), .mv (.tmp 6), none, []⟩,
 ⟨2, none, .store 7 (.tmp 2) (.tmp 48), none, []⟩,
 ⟨3, (some 3), .mv (.tmp 49), none, []⟩])
 (.ret))))))),
 [.cell 2 (some 7), .tmp 3]⟩
theorem p_words_lines_op : prepFun Go.Proofs.Tryz.prog [0, 1, 2] Go.Proofs.Tryz.f104 = some v_words_lines_op := by kernel_rfl

def v_slices_Repeat_Block : VFun :=
⟨.seq (.reg [⟨0, (some 4), .mv (.con (.slice none 0 0)), none, []⟩])
 (.seq (.seq (.reg [⟨0, (some 9), .mv (.tmp 1), none, []⟩,
 ⟨1, (some 10), .bin .lss 3 true (.tmp 9) (.con (.int .i64 0)), none, []⟩])
 (.cond (.tmp 10)
 (.reg [⟨0, (some 11), .mkif 9 (.con (.string ⟨#[99, 97, 110, 110, 111, 116, 32, 98, 101, 32, 110, 101, 103, 97, 116, 105, 118, 101]⟩)), none, []⟩,
 ⟨1, none, .panic (.tmp 11), none, []⟩])
 (.skip)))
 (.seq (.reg [⟨0, (some 13), .mv (.tmp 0), none, []⟩,
 ⟨1, (some 14), .len (.tmp 13), none, []⟩,
 ⟨2, (some 15), .conv 3 147 (.tmp 14), none, []⟩,
 ⟨3, (some 16), .mv (.tmp 1), none, []⟩,
 ⟨4, (some 17), .conv 3 147 (.tmp 16), none, []⟩,
 ⟨5, (some 18), .call 134 [(.tmp 15), (.tmp 17)], none, []⟩,
 ⟨6, (some 12), .mv (.tmp 18), none, []⟩,
 ⟨7, (some 19), .ext (.tmp 12) 0, none, []⟩,
 ⟨8, (some 20), .ext (.tmp 12) 1, none, []⟩,
 ⟨9, (some 5), .mv (.tmp 19), none, []⟩,
 ⟨10, (some 6), .mv (.tmp 20), none, []⟩])
 (.seq (.seq (.reg [⟨0, (some 21), .mv (.tmp 5), none, []⟩,
 ⟨1, (some 22), .bin .gtr 147 true (.tmp 21) (.con (.int .u64 0)), none, []⟩,
 ⟨2, (some 23), .mv (.tmp 22), none, []⟩,
 ⟨3, (some 24), .mv (.tmp 6), (some (23, false)), []⟩,
 ⟨4, (some 25), .bin .gtr 147 true (.tmp 24) (.con (.int .u64 9223372036854775807)), (some (23, false)), []⟩,
 ⟨5, (some 26), .pick (.tmp 23) (.con (.bool true)) (.tmp 25), none, []⟩])
 (.cond (.tmp 26)
 (.reg [⟨0, (some 27), .mkif 9 (.con (.string ⟨#[116, 104, 101, 32, 114, 101, 115, 117, 108, 116, 32, 111, 102, 32, 40, 108, 101, 110, 40, 120, 41, 32, 42, 32, 99, 111, 117, 110, 116, 41, 32, 111, 118, 101, 114, 102, 108, 111, 119, 115]⟩)), none, []⟩,
 ⟨1, none, .panic (.tmp 27), none, []⟩])
 (.skip)))
 (.seq (.reg [⟨0, (some 28), .mv (.tmp 6), none, []⟩,
 ⟨1, (some 29), .conv 147 3 (.tmp 28), none, []⟩,
 ⟨2, (some 30), .mksl 6 64 [(.slice none 0 0), (.int .i64 0), (.int .i64 0), (.int .i64 0), (.int .i64 0), (.int .i64 0)] (.tmp 29) (.tmp 29), none, []⟩,
 ⟨3, (some 7), .mv (.tmp 30), none, []⟩])
 (.seq (.reg [⟨0, (some 31), .mv (.tmp 7), none, []⟩,
 ⟨1, (some 32), .mv (.tmp 0), none, []⟩,
 ⟨2, (some 33), .copy 6 (.tmp 31) (.tmp 32), none, []⟩,
 ⟨3, (some 8), .mv (.tmp 33), none, []⟩])
 (.seq (.block 0
 (.loop
 (.seq (.seq (.reg [⟨0, (some 34), .mv (.tmp 8), none, []⟩,
 ⟨1, (some 35), .mv (.tmp 7), none, []⟩,
 ⟨2, (some 36), .len (.tmp 35), none, []⟩,
 ⟨3, (some 37), .bin .lss 3 false (.tmp 34) (.tmp 36), none, []⟩])
 (.cond (.tmp 37)
 (.skip)
 (.exit 0)))
 (.block 1
 (.reg [⟨0, (some 38), .mv (.tmp 8), none, []⟩,
 ⟨1, (some 39), .mv (.tmp 7), none, []⟩,
 ⟨2, (some 40), .mv (.tmp 8), none, []⟩,
 ⟨3, (some 41), .slice none 6 (.tmp 39) (some (.tmp 40)) none none, none, []⟩,
 ⟨4, (some 42), .mv (.tmp 7), none, []⟩,
 ⟨5, (some 43), .mv (.tmp 8), none, []⟩,
 ⟨6, (some 44), .slice none 6 (.tmp 42) none (some (.tmp 43)) none, none, []⟩,
 ⟨7, (some 45), .copy 6 (.tmp 41) (.tmp 44), none, []⟩,
 ⟨8, (some 46), .bin .add 3 false (.tmp 38) (.tmp 45), none, []⟩,
 ⟨9, (some 8), .mv (.tmp 46), none, []⟩])))))
 (.seq (.reg [⟨0, (some 47), .mv (.tmp 7), none, []⟩,
 ⟨1, (some 4), .mv (.tmp 47), none, []⟩])
 (.ret)))))))),
 [.tmp 4]⟩
theorem p_slices_Repeat_Block : prepFun Go.Proofs.Tryz.prog [0, 1, 2] Go.Proofs.Tryz.f108 = some v_slices_Repeat_Block := by kernel_rfl

def v_words_own : VFun :=
⟨.seq (.reg [⟨0, (some 2), .box (.tmp 0), none, []⟩,
 ⟨1, (some 3), .box (.tmp 1), none, []⟩,
 ⟨2, (some 4), .mv (.con (.int .i64 0)), none, []⟩])
 (.seq (.reg [⟨0, (some 6), .bslice 1 0 [(.int .i64 0)] [], none, []⟩,
 ⟨1, (some 5), .mv (.tmp 6), none, []⟩])
 (.seq (.seq (.reg [⟨0, (some 7), .fieldA 6 (.tmp 3), none, []⟩,
 ⟨1, (some 8), .load none (.tmp 7), none, []⟩,
 ⟨2, (some 9), .bin .neq 3 true (.tmp 8) (.con (.int .i64 (-1))), none, []⟩])
 (.cond (.tmp 9)
 (.reg [⟨0, (some 10), .mv (.tmp 5), none, []⟩,
 ⟨1, (some 11), .fieldA 6 (.tmp 3), none, []⟩,
 ⟨2, (some 12), .load none (.tmp 11), none, []⟩,
 ⟨3, (some 13), .bslice 1 1 [(.int .i64 0)] [(0, 1, (.tmp 12))], none, []⟩,
 ⟨4, (some 14), .append 1 8 (.tmp 10) (.tmp 13), none, []⟩,
 ⟨5, (some 5), .mv (.tmp 14), none, []⟩])
 (.skip)))
 (.seq (.seq (.reg [⟨0, (some 15), .fieldA 0 (.tmp 3), none, []⟩,
 ⟨1, (some 16), .load none (.tmp 15), none, []⟩,
 ⟨2, (some 17), .bin .neq 3 true (.tmp 16) (.con (.int .i64 26)), none, []⟩])
 (.cond (.tmp 17)
 (.reg [⟨0, (some 18), .mv (.tmp 5), none, []⟩,
 ⟨1, (some 19), .fieldA 2 (.tmp 3), none, []⟩,
 ⟨2, (some 20), .load none (.tmp 19), none, []⟩,
 ⟨3, (some 21), .bslice 1 1 [(.int .i64 0)] [(0, 1, (.tmp 20))], none, []⟩,
 ⟨4, (some 22), .append 1 8 (.tmp 18) (.tmp 21), none, []⟩,
 ⟨5, (some 5), .mv (.tmp 22), none, []⟩])
 (.skip)))
 (.seq (.seq (.reg [⟨0, (some 23), .mv (.tmp 5), none, []⟩,
 ⟨1, (some 24), .mkfn 136 [] [(.tmp 2)], none, []⟩,
 ⟨2, (some 25), .call 135 [(.tmp 23), (.tmp 24)], none, []⟩])
 (.cond (.tmp 25)
 (.seq (.reg [⟨0, (some 4), .mv (.con (.int .i64 2)), none, []⟩])
 (.ret))
 (.skip)))
 (.seq (.seq (.reg [⟨0, (some 26), .fieldA 0 (.tmp 3), none, []⟩,
 ⟨1, (some 27), .load none (.tmp 26), none, []⟩,
 ⟨2, (some 28), .bin .eql 3 true (.tmp 27) (.con (.int .i64 26)), none, []⟩,
 ⟨3, (some 29), .mv (.tmp 28), none, []⟩,
 ⟨4, (some 30), .fieldA 5 (.tmp 3), (some (29, true)), []⟩,
 ⟨5, (some 31), .load none (.tmp 30), (some (29, true)), []⟩,
 ⟨6, (some 32), .bin .lss 2 true (.tmp 31) (.con (.int .i64 0)), (some (29, true)), []⟩,
 ⟨7, (some 33), .mv (.tmp 32), (some (29, true)), []⟩,
 ⟨8, (some 34), .fieldA 5 (.tmp 3), (some (33, false)), []⟩,
 ⟨9, (some 35), .load none (.tmp 34), (some (33, false)), []⟩,
 ⟨10, (some 36), .fieldA 5 (.tmp 2), (some (33, false)), []⟩,
 ⟨11, (some 37), .load none (.tmp 36), (some (33, false)), []⟩,
 ⟨12, (some 38), .len (.tmp 37), (some (33, false)), []⟩,
 ⟨13, (some 39), .bin .geq 2 false (.tmp 35) (.tmp 38), (some (33, false)), []⟩,
 ⟨14, (some 40), .pick (.tmp 33) (.con (.bool true)) (.tmp 39), (some (29, true)), []⟩,
 ⟨15, (some 41), .pick (.tmp 29) (.tmp 40) (.con (.bool false)), none, []⟩])
 (.cond (.tmp 41)
 (.seq (.reg [⟨0, (some 4), .mv (.con (.int .i64 5)), none, []⟩])
 (.ret))
 (.skip)))
 (.seq (.seq (.reg [⟨0, (some 42), .fieldA 1 (.tmp 3), none, []⟩,
 ⟨1, (some 43), .load none (.tmp 42), none, []⟩,
 ⟨2, (some 44), .bin .neq 3 true (.tmp 43) (.con (.int .i64 0)), none, []⟩,
 ⟨3, (some 45), .mv (.tmp 44), none, []⟩,
 ⟨4, (some 46), .fieldA 3 (.tmp 3), (some (45, false)), []⟩,
 ⟨5, (some 47), .load none (.tmp 46), (some (45, false)), []⟩,
 ⟨6, (some 48), .bin .neq 3 true (.tmp 47) (.con (.int .i64 0)), (some (45, false)), []⟩,
 ⟨7, (some 49), .pick (.tmp 45) (.con (.bool true)) (.tmp 48), none, []⟩,
 ⟨8, (some 50), .mv (.tmp 49), none, []⟩,
 ⟨9, (some 51), .fieldA 4 (.tmp 3), (some (50, false)), []⟩,
 ⟨10, (some 52), .load none (.tmp 51), (some (50, false)), []⟩,
 ⟨11, (some 53), .bin .neq 3 true (.tmp 52) (.con (.int .i64 0)), (some (50, false)), []⟩,
 ⟨12, (some 54), .pick (.tmp 50) (.con (.bool true)) (.tmp 53), none, []⟩,
 ⟨13, (some 55), .mv (.tmp 54), none, []⟩,
 ⟨14, (some 56), .fieldA 0 (.tmp 3), (some (55, false)), []⟩,
 ⟨15, (some 57), .load none (.tmp 56), (some (55, false)), []⟩,
 ⟨16, (some 58), .bin .eql 3 true (.tmp 57) (.con (.int .i64 26)), (some (55, false)), []⟩,
 ⟨17, (some 59), .mv (.tmp 58), (some (55, false)), []⟩,
 ⟨18, (some 60), .fieldA 2 (.tmp 3), (some (59, true)), []⟩,
 ⟨19, (some 61), .load none (.tmp 60), (some (59, true)), []⟩,
 ⟨20, (some 62), .bin .neq 3 true (.tmp 61) (.con (.int .i64 0)), (some (59, true)), []⟩,
 ⟨21, (some 63), .pick (.tmp 59) (.tmp 62) (.con (.bool false)), (some (55, false)), []⟩,
 ⟨22, (some 64), .pick (.tmp 55) (.con (.bool true)) (.tmp 63), none, []⟩,
 ⟨23, (some 65), .mv (.tmp 64), none, []⟩,
 ⟨24, (some 66), .fieldA 0 (.tmp 3), (some (65, false)), []⟩,
 ⟨25, (some 67), .load none (.tmp 66), (some (65, false)), []⟩,
 ⟨26, (some 68), .bin .neq 3 true (.tmp 67) (.con (.int .i64 26)), (some (65, false)), []⟩,
 ⟨27, (some 69), .mv (.tmp 68), (some (65, false)), []⟩,
 ⟨28, (some 70), .fieldA 5 (.tmp 3), (some (69, true)), []⟩,
 ⟨29, (some 71), .load none (.tmp 70), (some (69, true)), []⟩,
 ⟨30, (some 72), .bin .neq 2 true (.tmp 71) (.con (.int .i64 0)), (some (69, true)), []⟩,
 ⟨31, (some 73), .pick (.tmp 69) (.tmp 72) (.con (.bool false)), (some (65, false)), []⟩,
 ⟨32, (some 74), .pick (.tmp 65) (.con (.bool true)) (.tmp 73), none, []⟩])
 (.cond (.tmp 74)
 (.seq (.reg [⟨0, (some 4), .mv (.con (.int .i64 4)), none, []⟩])
 (.ret))
 (.skip)))
 (.seq (.reg [⟨0, (some 4), .mv (.con (.int .i64 0)), none, []⟩])
 (.ret)))))))),
 [.tmp 4]⟩
theorem p_words_own : prepFun Go.Proofs.Tryz.prog [0, 1, 2] Go.Proofs.Tryz.f109 = some v_words_own := by kernel_rfl

end Go.VX.Seat
end
section
set_option maxRecDepth 20000
/-! MADE BY PROGRAM (lits.py): functions as they are prepared. -/
namespace Go.VX.Seat
def v_slices_IndexFunc_Op : VFun :=
⟨.seq (.reg [⟨0, (some 4), .mv (.con (.int .i64 0)), none, []⟩])
 (.seq (.seq (.reg [⟨0, (some 6), .mv (.tmp 0), none, []⟩,
 ⟨1, (some 7), .len (.tmp 6), none, []⟩,
 ⟨2, (some 8), .mv (.con (.int .i64 0)), none, []⟩])
 (.block 0
 (.loop
 (.seq (.reg [⟨0, (some 9), .bin .lss 3 false (.tmp 8) (.tmp 7), none, []⟩])
 (.seq (.cond (.tmp 9)
 (.skip)
 (.exit 0))
 (.seq (.block 1
 (.seq (.reg [⟨0, (some 10), .mv (.tmp 8), none, []⟩,
 ⟨1, (some 5), .mv (.tmp 10), none, []⟩])
 (.seq (.reg [⟨0, (some 11), .mv (.tmp 1), none, []⟩,
 ⟨1, (some 12), .mv (.tmp 0), none, []⟩,
 ⟨2, (some 13), .mv (.tmp 5), none, []⟩,
 ⟨3, (some 14), .idxA none 7 (.tmp 12) (.tmp 13), none, []⟩,
 ⟨4, (some 15), .load (some 7) (.tmp 14), none, []⟩,
 ⟨5, (some 16), .callv (.tmp 11) [(.tmp 15)], none, []⟩])
 (.cond (.tmp 16)
 (.seq (.reg [⟨0, (some 17), .mv (.tmp 5), none, []⟩,
 ⟨1, (some 4), .mv (.tmp 17), none, []⟩])
 (.ret))
 (.skip)))))
 (.reg [⟨0, (some 18), .bin .add 3 true (.tmp 8) (.con (.int .i64 1)), none, []⟩,
 ⟨1, (some 8), .mv (.tmp 18), none, []⟩])))))))
 (.seq (.reg [⟨0, (some 4), .mv (.con (.int .i64 (-1))), none, []⟩])
 (.ret))),
 [.tmp 4]⟩
theorem p_slices_IndexFunc_Op : prepFun Go.Proofs.Tryz.prog [0, 1, 2] Go.Proofs.Tryz.f110 = some v_slices_IndexFunc_Op := by kernel_rfl

def v_words_MayTrap : VFun :=
⟨.seq (.reg [⟨0, (some 1), .box (.tmp 0), none, []⟩,
 ⟨1, (some 2), .mv (.con (.bool false)), none, []⟩])
 (.seq (.seq (.reg [⟨0, (some 3), .fieldA 0 (.tmp 1), none, []⟩,
 ⟨1, (some 4), .load none (.tmp 3), none, []⟩])
 (.block 0
 (.seq (.seq (.reg [⟨0, (some 6), .bin .eql 3 true (.tmp 4) (.con (.int .i64 14)), none, []⟩,
 ⟨1, (some 5), .mv (.tmp 6), none, []⟩])
 (.cond (.tmp 5)
 (.skip)
 (.seq (.reg [⟨0, (some 7), .bin .eql 3 true (.tmp 4) (.con (.int .i64 15)), none, []⟩,
 ⟨1, (some 5), .mv (.tmp 7), none, []⟩])
 (.cond (.tmp 5)
 (.skip)
 (.seq (.reg [⟨0, (some 8), .bin .eql 3 true (.tmp 4) (.con (.int .i64 16)), none, []⟩,
 ⟨1, (some 5), .mv (.tmp 8), none, []⟩])
 (.cond (.tmp 5)
 (.skip)
 (.seq (.reg [⟨0, (some 9), .bin .eql 3 true (.tmp 4) (.con (.int .i64 17)), none, []⟩,
 ⟨1, (some 5), .mv (.tmp 9), none, []⟩])
 (.cond (.tmp 5)
 (.skip)
 (.seq (.reg [⟨0, (some 10), .bin .eql 3 true (.tmp 4) (.con (.int .i64 20)), none, []⟩,
 ⟨1, (some 5), .mv (.tmp 10), none, []⟩])
 (.cond (.tmp 5)
 (.skip)
 (.seq (.reg [⟨0, (some 11), .bin .eql 3 true (.tmp 4) (.con (.int .i64 21)), none, []⟩,
 ⟨1, (some 5), .mv (.tmp 11), none, []⟩])
 (.cond (.tmp 5)
 (.skip)
 (.seq (.reg [⟨0, (some 12), .bin .eql 3 true (.tmp 4) (.con (.int .i64 22)), none, []⟩,
 ⟨1, (some 5), .mv (.tmp 12), none, []⟩])
 (.cond (.tmp 5)
 (.skip)
 (.seq (.reg [⟨0, (some 13), .bin .eql 3 true (.tmp 4) (.con (.int .i64 27)), none, []⟩,
 ⟨1, (some 5), .mv (.tmp 13), none, []⟩])
 (.cond (.tmp 5)
 (.skip)
 (.reg [⟨0, (some 14), .bin .eql 3 true (.tmp 4) (.con (.int .i64 28)), none, []⟩,
 ⟨1, (some 5), .mv (.tmp 14), none, []⟩])))))))))))))))))
 (.cond (.tmp 5)
 (.seq (.reg [⟨0, (some 2), .mv (.con (.bool true)), none, []⟩])
 (.ret))
 (.skip)))))
 (.seq (.reg [⟨0, (some 15), .fieldA 6 (.tmp 1), none, []⟩,
 ⟨1, (some 16), .load none (.tmp 15), none, []⟩,
 ⟨2, (some 17), .bin .neq 3 true (.tmp 16) (.con (.int .i64 (-1))), none, []⟩,
 ⟨3, (some 2), .mv (.tmp 17), none, []⟩])
 (.ret))),
 [.tmp 2]⟩
theorem p_words_MayTrap : prepFun Go.Proofs.Tryz.prog [0, 1, 2] Go.Proofs.Tryz.f116 = some v_words_MayTrap := by kernel_rfl

def v_slices_pdqsortOrdered_int : VFun :=
⟨.seq (.reg [⟨0, (some 8), .mv (.con (.bool true)), none, []⟩])
 (.seq (.reg [⟨0, (some 9), .mv (.con (.bool true)), none, []⟩])
 (.block 0
 (.loop
 (.block 1
 (.seq (.reg [⟨0, (some 19), .mv (.tmp 2), none, []⟩,
 ⟨1, (some 20), .mv (.tmp 1), none, []⟩,
 ⟨2, (some 21), .bin .sub 3 false (.tmp 19) (.tmp 20), none, []⟩,
 ⟨3, (some 10), .mv (.tmp 21), none, []⟩])
 (.seq (.seq (.reg [⟨0, (some 22), .mv (.tmp 10), none, []⟩,
 ⟨1, (some 23), .bin .leq 3 true (.tmp 22) (.con (.int .i64 12)), none, []⟩])
 (.cond (.tmp 23)
 (.seq (.reg [⟨0, (some 24), .mv (.tmp 0), none, []⟩,
 ⟨1, (some 25), .mv (.tmp 1), none, []⟩,
 ⟨2, (some 26), .mv (.tmp 2), none, []⟩,
 ⟨3, (some 27), .call 141 [(.tmp 24), (.tmp 25), (.tmp 26)], none, []⟩])
 (.ret))
 (.skip)))
 (.seq (.seq (.reg [⟨0, (some 28), .mv (.tmp 3), none, []⟩,
 ⟨1, (some 29), .bin .eql 3 true (.tmp 28) (.con (.int .i64 0)), none, []⟩])
 (.cond (.tmp 29)
 (.seq (.reg [⟨0, (some 30), .mv (.tmp 0), none, []⟩,
 ⟨1, (some 31), .mv (.tmp 1), none, []⟩,
 ⟨2, (some 32), .mv (.tmp 2), none, []⟩,
 ⟨3, (some 33), .call 142 [(.tmp 30), (.tmp 31), (.tmp 32)], none, []⟩])
 (.ret))
 (.skip)))
 (.seq (.seq (.reg [⟨0, (some 34), .mv (.tmp 8), none, []⟩,
 ⟨1, (some 35), .un .not (.tmp 34), none, []⟩])
 (.cond (.tmp 35)
 (.seq (.reg [⟨0, (some 36), .mv (.tmp 0), none, []⟩,
 ⟨1, (some 37), .mv (.tmp 1), none, []⟩,
 ⟨2, (some 38), .mv (.tmp 2), none, []⟩,
 ⟨3, (some 39), .call 143 [(.tmp 36), (.tmp 37), (.tmp 38)], none, []⟩])
 (.reg [⟨0, (some 40), .mv (.tmp 3), none, []⟩,
 ⟨1, (some 41), .bin .sub 3 true (.tmp 40) (.con (.int .i64 1)), none, []⟩,
 ⟨2, (some 3), .mv (.tmp 41), none, []⟩]))
 (.skip)))
 (.seq (.reg [⟨0, (some 43), .mv (.tmp 0), none, []⟩,
 ⟨1, (some 44), .mv (.tmp 1), none, []⟩,
 ⟨2, (some 45), .mv (.tmp 2), none, []⟩,
 ⟨3, (some 46), .call 144 [(.tmp 43), (.tmp 44), (.tmp 45)], none, []⟩,
 ⟨4, (some 42), .mv (.tmp 46), none, []⟩,
 ⟨5, (some 47), .ext (.tmp 42) 0, none, []⟩,
 ⟨6, (some 48), .ext (.tmp 42) 1, none, []⟩,
 ⟨7, (some 11), .mv (.tmp 47), none, []⟩,
 ⟨8, (some 12), .mv (.tmp 48), none, []⟩])
 (.seq (.seq (.reg [⟨0, (some 49), .mv (.tmp 12), none, []⟩,
 ⟨1, (some 50), .bin .eql 214 true (.tmp 49) (.con (.int .i64 2)), none, []⟩])
 (.cond (.tmp 50)
 (.seq (.reg [⟨0, (some 51), .mv (.tmp 0), none, []⟩,
 ⟨1, (some 52), .mv (.tmp 1), none, []⟩,
 ⟨2, (some 53), .mv (.tmp 2), none, []⟩,
 ⟨3, (some 54), .call 145 [(.tmp 51), (.tmp 52), (.tmp 53)], none, []⟩])
 (.seq (.reg [⟨0, (some 55), .mv (.tmp 2), none, []⟩,
 ⟨1, (some 56), .bin .sub 3 true (.tmp 55) (.con (.int .i64 1)), none, []⟩,
 ⟨2, (some 57), .mv (.tmp 11), none, []⟩,
 ⟨3, (some 58), .mv (.tmp 1), none, []⟩,
 ⟨4, (some 59), .bin .sub 3 false (.tmp 57) (.tmp 58), none, []⟩,
 ⟨5, (some 60), .bin .sub 3 false (.tmp 56) (.tmp 59), none, []⟩,
 ⟨6, (some 11), .mv (.tmp 60), none, []⟩])
 (.reg [⟨0, (some 12), .mv (.con (.int .i64 1)), none, []⟩])))
 (.skip)))
 (.seq (.seq (.reg [⟨0, (some 61), .mv (.tmp 8), none, []⟩,
 ⟨1, (some 62), .mv (.tmp 61), none, []⟩,
 ⟨2, (some 63), .mv (.tmp 9), (some (62, true)), []⟩,
 ⟨3, (some 64), .pick (.tmp 62) (.tmp 63) (.con (.bool false)), none, []⟩,
 ⟨4, (some 65), .mv (.tmp 64), none, []⟩,
 ⟨5, (some 66), .mv (.tmp 12), (some (65, true)), []⟩,
 ⟨6, (some 67), .bin .eql 214 true (.tmp 66) (.con (.int .i64 1)), (some (65, true)), []⟩,
 ⟨7, (some 68), .pick (.tmp 65) (.tmp 67) (.con (.bool false)), none, []⟩])
 (.cond (.tmp 68)
 (.seq (.reg [⟨0, (some 69), .mv (.tmp 0), none, []⟩,
 ⟨1, (some 70), .mv (.tmp 1), none, []⟩,
 ⟨2, (some 71), .mv (.tmp 2), none, []⟩,
 ⟨3, (some 72), .call 146 [(.tmp 69), (.tmp 70), (.tmp 71)], none, []⟩])
 (.cond (.tmp 72)
 (.ret)
 (.skip)))
 (.skip)))
 (.seq (.seq (.reg [⟨0, (some 73), .mv (.tmp 1), none, []⟩,
 ⟨1, (some 74), .bin .gtr 3 true (.tmp 73) (.con (.int .i64 0)), none, []⟩,
 ⟨2, (some 75), .mv (.tmp 74), none, []⟩,
 ⟨3, (some 76), .mv (.tmp 0), (some (75, true)), []⟩,
 ⟨4, (some 77), .mv (.tmp 1), (some (75, true)), []⟩,
 ⟨5, (some 78), .bin .sub 3 true (.tmp 77) (.con (.int .i64 1)), (some (75, true)), []⟩,
 ⟨6, (some 79), .idxA none 1 (.tmp 76) (.tmp 78), (some (75, true)), []⟩,
 ⟨7, (some 80), .load none (.tmp 79), (some (75, true)), []⟩,
 ⟨8, (some 81), .mv (.tmp 0), (some (75, true)), []⟩,
 ⟨9, (some 82), .mv (.tmp 11), (some (75, true)), []⟩,
 ⟨10, (some 83), .idxA none 1 (.tmp 81) (.tmp 82), (some (75, true)), []⟩,
 ⟨11, (some 84), .load none (.tmp 83), (some (75, true)), []⟩,
 ⟨12, (some 85), .call 147 [(.tmp 80), (.tmp 84)], (some (75, true)), []⟩,
 ⟨13, (some 86), .un .not (.tmp 85), (some (75, true)), []⟩,
 ⟨14, (some 87), .pick (.tmp 75) (.tmp 86) (.con (.bool false)), none, []⟩])
 (.cond (.tmp 87)
 (.seq (.reg [⟨0, (some 88), .mv (.tmp 0), none, []⟩,
 ⟨1, (some 89), .mv (.tmp 1), none, []⟩,
 ⟨2, (some 90), .mv (.tmp 2), none, []⟩,
 ⟨3, (some 91), .mv (.tmp 11), none, []⟩,
 ⟨4, (some 92), .call 148 [(.tmp 88), (.tmp 89), (.tmp 90), (.tmp 91)], none, []⟩,
 ⟨5, (some 13), .mv (.tmp 92), none, []⟩])
 (.seq (.reg [⟨0, (some 93), .mv (.tmp 13), none, []⟩,
 ⟨1, (some 1), .mv (.tmp 93), none, []⟩])
 (.exit 1)))
 (.skip)))
 (.seq (.reg [⟨0, (some 95), .mv (.tmp 0), none, []⟩,
 ⟨1, (some 96), .mv (.tmp 1), none, []⟩,
 ⟨2, (some 97), .mv (.tmp 2), none, []⟩,
 ⟨3, (some 98), .mv (.tmp 11), none, []⟩,
 ⟨4, (some 99), .call 149 [(.tmp 95), (.tmp 96), (.tmp 97), (.tmp 98)], none, []⟩,
 ⟨5, (some 94), .mv (.tmp 99), none, []⟩,
 ⟨6, (some 100), .ext (.tmp 94) 0, none, []⟩,
 ⟨7, (some 101), .ext (.tmp 94) 1, none, []⟩,
 ⟨8, (some 14), .mv (.tmp 100), none, []⟩,
 ⟨9, (some 15), .mv (.tmp 101), none, []⟩])
 (.seq (.reg [⟨0, (some 102), .mv (.tmp 15), none, []⟩,
 ⟨1, (some 9), .mv (.tmp 102), none, []⟩])
 (.seq (.reg [⟨0, (some 103), .mv (.tmp 14), none, []⟩,
 ⟨1, (some 104), .mv (.tmp 1), none, []⟩,
 ⟨2, (some 105), .bin .sub 3 false (.tmp 103) (.tmp 104), none, []⟩,
 ⟨3, (some 106), .mv (.tmp 2), none, []⟩,
 ⟨4, (some 107), .mv (.tmp 14), none, []⟩,
 ⟨5, (some 108), .bin .sub 3 false (.tmp 106) (.tmp 107), none, []⟩,
 ⟨6, (some 16), .mv (.tmp 105), none, []⟩,
 ⟨7, (some 17), .mv (.tmp 108), none, []⟩])
 (.seq (.reg [⟨0, (some 109), .mv (.tmp 10), none, []⟩,
 ⟨1, (some 110), .bin .quo 3 true (.tmp 109) (.con (.int .i64 8)), none, []⟩,
 ⟨2, (some 18), .mv (.tmp 110), none, []⟩])
 (.seq (.reg [⟨0, (some 111), .mv (.tmp 16), none, []⟩,
 ⟨1, (some 112), .mv (.tmp 17), none, []⟩,
 ⟨2, (some 113), .bin .lss 3 false (.tmp 111) (.tmp 112), none, []⟩])
 (.cond (.tmp 113)
 (.seq (.reg [⟨0, (some 114), .mv (.tmp 16), none, []⟩,
 ⟨1, (some 115), .mv (.tmp 18), none, []⟩,
 ⟨2, (some 116), .bin .geq 3 false (.tmp 114) (.tmp 115), none, []⟩,
 ⟨3, (some 8), .mv (.tmp 116), none, []⟩])
 (.seq (.reg [⟨0, (some 117), .mv (.tmp 0), none, []⟩,
 ⟨1, (some 118), .mv (.tmp 1), none, []⟩,
 ⟨2, (some 119), .mv (.tmp 14), none, []⟩,
 ⟨3, (some 120), .mv (.tmp 3), none, []⟩,
 ⟨4, (some 121), .call 117 [(.tmp 117), (.tmp 118), (.tmp 119), (.tmp 120)], none, []⟩])
 (.reg [⟨0, (some 122), .mv (.tmp 14), none, []⟩,
 ⟨1, (some 123), .bin .add 3 true (.tmp 122) (.con (.int .i64 1)), none, []⟩,
 ⟨2, (some 1), .mv (.tmp 123), none, []⟩])))
 (.seq (.reg [⟨0, (some 124), .mv (.tmp 17), none, []⟩,
 ⟨1, (some 125), .mv (.tmp 18), none, []⟩,
 ⟨2, (some 126), .bin .geq 3 false (.tmp 124) (.tmp 125), none, []⟩,
 ⟨3, (some 8), .mv (.tmp 126), none, []⟩])
 (.seq (.reg [⟨0, (some 127), .mv (.tmp 0), none, []⟩,
 ⟨1, (some 128), .mv (.tmp 14), none, []⟩,
 ⟨2, (some 129), .bin .add 3 true (.tmp 128) (.con (.int .i64 1)), none, []⟩,
 ⟨3, (some 130), .mv (.tmp 2), none, []⟩,
 ⟨4, (some 131), .mv (.tmp 3), none, []⟩,
 ⟨5, (some 132), .call 117 [(.tmp 127), (.tmp 129), (.tmp 130), (.tmp 131)], none, []⟩])
 (.reg [⟨0, (some 133), .mv (.tmp 14), none, []⟩,
 ⟨1, (some 2), .mv (.tmp 133), none, []⟩]))))))))))))))))))))),
 []⟩
theorem p_slices_pdqsortOrdered_int : prepFun Go.Proofs.Tryz.prog [0, 1, 2] Go.Proofs.Tryz.f117 = some v_slices_pdqsortOrdered_int := by kernel_rfl

def v_math_bits_Len : VFun :=
⟨.seq (.reg [⟨0, (some 2), .mv (.con (.int .i64 0)), none, []⟩])
 (.seq (.cond (.con (.bool false))
 (.seq (.reg [⟨0, (some 3), .mv (.tmp 0), none, []⟩,
 ⟨1, (some 4), .conv 147 148 (.tmp 3), none, []⟩,
 ⟨2, (some 5), .call 150 [(.tmp 4)], none, []⟩,
 ⟨3, (some 2), .mv (.tmp 5), none, []⟩])
 (.ret))
 (.skip))
 (.seq (.reg [⟨0, (some 6), .mv (.tmp 0), none, []⟩,
 ⟨1, (some 7), .call 151 [(.tmp 6)], none, []⟩,
 ⟨2, (some 2), .mv (.tmp 7), none, []⟩])
 (.ret))),
 [.tmp 2]⟩
theorem p_math_bits_Len : prepFun Go.Proofs.Tryz.prog [0, 1, 2] Go.Proofs.Tryz.f118 = some v_math_bits_Len := by kernel_rfl

def v_code_of : VFun :=
⟨.seq (.reg [⟨0, (some 2), .alloc [(.int .i64 0), (.int .i64 0), (.string ⟨#[]⟩)], none, []⟩,
 ⟨1, (some 3), .mv (.con (.bool false)), none, []⟩])
 (.seq (.seq (.reg [⟨0, (some 4), .mv (.tmp 0), none, []⟩,
 ⟨1, (some 5), .bin .lss 3 true (.tmp 4) (.con (.int .i64 1)), none, []⟩,
 ⟨2, (some 6), .mv (.tmp 5), none, []⟩,
 ⟨3, (some 7), .mv (.tmp 0), (some (6, false)), []⟩,
 ⟨4, (some 8), .bin .gtr 3 true (.tmp 7) (.con (.int .i64 25)), (some (6, false)), []⟩,
 ⟨5, (some 9), .pick (.tmp 6) (.con (.bool true)) (.tmp 8), none, []⟩])
 (.cond (.tmp 9)
 (.seq (.reg [⟨0, (some 10), .build [(.int .i64 0), (.int .i64 0), (.string ⟨#[]⟩)] [], none, []⟩,
 ⟨1, none, .store 3 (.tmp 2) (.tmp 10), none, []⟩,
 ⟨2, (some 3), .mv (.con (.bool false)), none, []⟩])
 (.ret))
 (.skip)))
 (.seq (.reg [⟨0, (some 11), .mv (.tmp 0), none, []⟩,
 ⟨1, (some 12), .bin .sub 3 true (.tmp 11) (.con (.int .i64 1)), none, []⟩,
 ⟨2, (some 13), .idxA (some 25) 3 (.glo 0) (.tmp 12), none, []⟩,
 ⟨3, (some 14), .load (some 3) (.tmp 13), none, []⟩,
 ⟨4, none, .store 3 (.tmp 2) (.tmp 14), none, []⟩,
 ⟨5, (some 3), .mv (.con (.bool true)), none, []⟩])
 (.ret))),
 [.cell 2 (some 3), .tmp 3]⟩
theorem p_code_of : prepFun Go.Proofs.Tryz.prog [0, 1, 2] Go.Proofs.Tryz.f119 = some v_code_of := by kernel_rfl

def v_internal_strconv_FormatInt : VFun :=
⟨.seq (.reg [⟨0, (some 4), .mv (.con (.string ⟨#[]⟩)), none, []⟩])
 (.seq (.seq (.reg [⟨0, (some 10), .mv (.tmp 1), none, []⟩,
 ⟨1, (some 11), .bin .eql 3 true (.tmp 10) (.con (.int .i64 10)), none, []⟩])
 (.cond (.tmp 11)
 (.seq (.seq (.reg [⟨0, (some 12), .mv (.tmp 0), none, []⟩,
 ⟨1, (some 13), .bin .leq 2 true (.con (.int .i64 0)) (.tmp 12), none, []⟩,
 ⟨2, (some 14), .mv (.tmp 13), none, []⟩,
 ⟨3, (some 15), .mv (.tmp 0), (some (14, true)), []⟩,
 ⟨4, (some 16), .bin .lss 2 true (.tmp 15) (.con (.int .i64 100)), (some (14, true)), []⟩,
 ⟨5, (some 17), .pick (.tmp 14) (.tmp 16) (.con (.bool false)), none, []⟩])
 (.cond (.tmp 17)
 (.seq (.reg [⟨0, (some 18), .mv (.tmp 0), none, []⟩,
 ⟨1, (some 19), .call 152 [(.tmp 18)], none, []⟩,
 ⟨2, (some 4), .mv (.tmp 19), none, []⟩])
 (.ret))
 (.skip)))
 (.seq (.reg [⟨0, (some 5), .alloc [(.int .u8 0), (.int .u8 0), (.int .u8 0), (.int .u8 0), (.int .u8 0), (.int .u8 0), (.int .u8 0), (.int .u8 0), (.int .u8 0), (.int .u8 0), (.int .u8 0), (.int .u8 0), (.int .u8 0), (.int .u8 0), (.int .u8 0), (.int .u8 0), (.int .u8 0), (.int .u8 0), (.int .u8 0), (.int .u8 0), (.int .u8 0), (.int .u8 0), (.int .u8 0), (.int .u8 0)], none, []⟩])
 (.seq (.reg [⟨0, (some 20), .mv (.tmp 0), none, []⟩,
 ⟨1, (some 21), .conv 2 146 (.tmp 20), none, []⟩,
 ⟨2, (some 6), .mv (.tmp 21), none, []⟩])
 (.seq (.seq (.reg [⟨0, (some 22), .mv (.tmp 0), none, []⟩,
 ⟨1, (some 23), .bin .lss 2 true (.tmp 22) (.con (.int .i64 0)), none, []⟩])
 (.cond (.tmp 23)
 (.reg [⟨0, (some 24), .mv (.tmp 6), none, []⟩,
 ⟨1, (some 25), .un .neg (.tmp 24), none, []⟩,
 ⟨2, (some 6), .mv (.tmp 25), none, []⟩])
 (.skip)))
 (.seq (.reg [⟨0, (some 26), .mv (.tmp 6), none, []⟩,
 ⟨1, (some 27), .call 153 [(.tmp 26)], none, []⟩,
 ⟨2, (some 7), .mv (.tmp 27), none, []⟩])
 (.seq (.reg [⟨0, (some 28), .mv (.tmp 7), none, []⟩,
 ⟨1, (some 29), .bin .add 3 true (.con (.int .i64 1)) (.tmp 28), none, []⟩,
 ⟨2, (some 30), .slice (some 24) 1 (.tmp 5) (some (.con (.int .i64 1))) (some (.tmp 29)) none, none, []⟩,
 ⟨3, (some 31), .mv (.tmp 6), none, []⟩,
 ⟨4, (some 32), .call 154 [(.tmp 30), (.tmp 31)], none, []⟩])
 (.seq (.seq (.reg [⟨0, (some 33), .mv (.tmp 0), none, []⟩,
 ⟨1, (some 34), .bin .lss 2 true (.tmp 33) (.con (.int .i64 0)), none, []⟩])
 (.cond (.tmp 34)
 (.seq (.reg [⟨0, (some 35), .idxA (some 24) 1 (.tmp 5) (.con (.int .i64 0)), none, []⟩,
 ⟨1, none, .store 1 (.tmp 35) (.con (.int .u8 45)), none, []⟩])
 (.seq (.reg [⟨0, (some 36), .mv (.tmp 7), none, []⟩,
 ⟨1, (some 37), .bin .add 3 true (.con (.int .i64 1)) (.tmp 36), none, []⟩,
 ⟨2, (some 38), .slice (some 24) 1 (.tmp 5) none (some (.tmp 37)) none, none, []⟩,
 ⟨3, (some 39), .b2s (.tmp 38), none, []⟩,
 ⟨4, (some 4), .mv (.tmp 39), none, []⟩])
 (.ret)))
 (.skip)))
 (.seq (.reg [⟨0, (some 40), .mv (.tmp 7), none, []⟩,
 ⟨1, (some 41), .bin .add 3 true (.con (.int .i64 1)) (.tmp 40), none, []⟩,
 ⟨2, (some 42), .slice (some 24) 1 (.tmp 5) (some (.con (.int .i64 1))) (some (.tmp 41)) none, none, []⟩,
 ⟨3, (some 43), .b2s (.tmp 42), none, []⟩,
 ⟨4, (some 4), .mv (.tmp 43), none, []⟩])
 (.ret)))))))))
 (.skip)))
 (.seq (.reg [⟨0, (some 45), .mv (.tmp 0), none, []⟩,
 ⟨1, (some 46), .conv 2 146 (.tmp 45), none, []⟩,
 ⟨2, (some 47), .mv (.tmp 1), none, []⟩,
 ⟨3, (some 48), .mv (.tmp 0), none, []⟩,
 ⟨4, (some 49), .bin .lss 2 true (.tmp 48) (.con (.int .i64 0)), none, []⟩,
 ⟨5, (some 50), .call 155 [(.con (.slice none 0 0)), (.tmp 46), (.tmp 47), (.tmp 49), (.con (.bool false))], none, []⟩,
 ⟨6, (some 44), .mv (.tmp 50), none, []⟩,
 ⟨7, (some 51), .ext (.tmp 44) 0, none, []⟩,
 ⟨8, (some 52), .ext (.tmp 44) 1, none, []⟩,
 ⟨9, (some 8), .mv (.tmp 51), none, []⟩,
 ⟨10, (some 9), .mv (.tmp 52), none, []⟩])
 (.seq (.reg [⟨0, (some 53), .mv (.tmp 9), none, []⟩,
 ⟨1, (some 4), .mv (.tmp 53), none, []⟩])
 (.ret)))),
 [.tmp 4]⟩
theorem p_internal_strconv_FormatInt : prepFun Go.Proofs.Tryz.prog [0, 1, 2] Go.Proofs.Tryz.f121 = some v_internal_strconv_FormatInt := by kernel_rfl

def v_code_Name : VFun :=
⟨.seq (.reg [⟨0, (some 2), .mv (.con (.string ⟨#[]⟩)), none, []⟩,
 ⟨1, (some 3), .mv (.con (.int .i64 0)), none, []⟩])
 (.seq (.reg [⟨0, (some 7), .mv (.tmp 0), none, []⟩,
 ⟨1, (some 8), .call 119 [(.tmp 7)], none, []⟩,
 ⟨2, (some 6), .mv (.tmp 8), none, []⟩,
 ⟨3, (some 9), .ext (.tmp 6) 0, none, []⟩,
 ⟨4, (some 10), .ext (.tmp 6) 1, none, []⟩,
 ⟨5, (some 4), .alloc [(.int .i64 0), (.int .i64 0), (.string ⟨#[]⟩)], none, []⟩,
 ⟨6, none, .store 3 (.tmp 4) (.tmp 9), none, []⟩,
 ⟨7, (some 5), .mv (.tmp 10), none, []⟩])
 (.seq (.seq (.reg [⟨0, (some 11), .mv (.tmp 5), none, []⟩,
 ⟨1, (some 12), .un .not (.tmp 11), none, []⟩])
 (.cond (.tmp 12)
 (.seq (.reg [⟨0, (some 2), .mv (.con (.string ⟨#[]⟩)), none, []⟩,
 ⟨1, (some 3), .mv (.con (.int .i64 4)), none, []⟩])
 (.ret))
 (.skip)))
 (.seq (.reg [⟨0, (some 13), .fieldA 2 (.tmp 4), none, []⟩,
 ⟨1, (some 14), .load none (.tmp 13), none, []⟩,
 ⟨2, (some 2), .mv (.tmp 14), none, []⟩,
 ⟨3, (some 3), .mv (.con (.int .i64 0)), none, []⟩])
 (.ret)))),
 [.tmp 2, .tmp 3]⟩
theorem p_code_Name : prepFun Go.Proofs.Tryz.prog [0, 1, 2] Go.Proofs.Tryz.f122 = some v_code_Name := by kernel_rfl

def v_strconv_FormatInt : VFun :=
⟨.seq (.reg [⟨0, (some 4), .mv (.con (.string ⟨#[]⟩)), none, []⟩])
 (.seq (.reg [⟨0, (some 5), .mv (.tmp 0), none, []⟩,
 ⟨1, (some 6), .mv (.tmp 1), none, []⟩,
 ⟨2, (some 7), .call 121 [(.tmp 5), (.tmp 6)], none, []⟩,
 ⟨3, (some 4), .mv (.tmp 7), none, []⟩])
 (.ret)),
 [.tmp 4]⟩
theorem p_strconv_FormatInt : prepFun Go.Proofs.Tryz.prog [0, 1, 2] Go.Proofs.Tryz.f123 = some v_strconv_FormatInt := by kernel_rfl

def v_strings_Cut : VFun :=
⟨.seq (.reg [⟨0, (some 4), .mv (.con (.string ⟨#[]⟩)), none, []⟩,
 ⟨1, (some 5), .mv (.con (.string ⟨#[]⟩)), none, []⟩,
 ⟨2, (some 6), .mv (.con (.bool false)), none, []⟩])
 (.seq (.reg [⟨0, (some 7), .mv (.tmp 0), none, []⟩,
 ⟨1, (some 8), .mv (.tmp 1), none, []⟩,
 ⟨2, (some 9), .call 157 [(.tmp 7), (.tmp 8)], none, []⟩,
 ⟨3, (some 10), .ext (.tmp 9) 0, none, []⟩,
 ⟨4, (some 11), .ext (.tmp 9) 1, none, []⟩,
 ⟨5, (some 12), .ext (.tmp 9) 2, none, []⟩,
 ⟨6, (some 4), .mv (.tmp 10), none, []⟩,
 ⟨7, (some 5), .mv (.tmp 11), none, []⟩,
 ⟨8, (some 6), .mv (.tmp 12), none, []⟩])
 (.ret)),
 [.tmp 4, .tmp 5, .tmp 6]⟩
theorem p_strings_Cut : prepFun Go.Proofs.Tryz.prog [0, 1, 2] Go.Proofs.Tryz.f125 = some v_strings_Cut := by kernel_rfl

def v_strings_Split : VFun :=
⟨.seq (.reg [⟨0, (some 4), .mv (.con (.slice none 0 0)), none, []⟩])
 (.seq (.reg [⟨0, (some 5), .mv (.tmp 0), none, []⟩,
 ⟨1, (some 6), .mv (.tmp 1), none, []⟩,
 ⟨2, (some 7), .call 158 [(.tmp 5), (.tmp 6), (.con (.int .i64 0)), (.con (.int .i64 (-1)))], none, []⟩,
 ⟨3, (some 4), .mv (.tmp 7), none, []⟩])
 (.ret)),
 [.tmp 4]⟩
theorem p_strings_Split : prepFun Go.Proofs.Tryz.prog [0, 1, 2] Go.Proofs.Tryz.f126 = some v_strings_Split := by kernel_rfl

def v_words_numbers : VFun :=
⟨.seq (.reg [⟨0, (some 4), .mv (.con (.bool false)), none, []⟩])
 (.seq (.seq (.reg [⟨0, (some 9), .mv (.tmp 0), none, []⟩,
 ⟨1, (some 10), .len (.tmp 9), none, []⟩,
 ⟨2, (some 11), .mv (.tmp 1), none, []⟩,
 ⟨3, (some 12), .len (.tmp 11), none, []⟩,
 ⟨4, (some 13), .bin .neq 3 false (.tmp 10) (.tmp 12), none, []⟩])
 (.cond (.tmp 13)
 (.seq (.reg [⟨0, (some 4), .mv (.con (.bool false)), none, []⟩])
 (.ret))
 (.skip)))
 (.seq (.seq (.reg [⟨0, (some 14), .mv (.tmp 0), none, []⟩,
 ⟨1, (some 15), .len (.tmp 14), none, []⟩,
 ⟨2, (some 16), .mv (.con (.int .i64 0)), none, []⟩])
 (.block 0
 (.loop
 (.seq (.reg [⟨0, (some 17), .bin .lss 3 false (.tmp 16) (.tmp 15), none, []⟩])
 (.seq (.cond (.tmp 17)
 (.skip)
 (.exit 0))
 (.seq (.block 1
 (.seq (.reg [⟨0, (some 18), .mv (.tmp 16), none, []⟩,
 ⟨1, (some 19), .idxA none 1 (.tmp 14) (.tmp 16), none, []⟩,
 ⟨2, (some 20), .load none (.tmp 19), none, []⟩,
 ⟨3, (some 5), .mv (.tmp 18), none, []⟩,
 ⟨4, (some 6), .mv (.tmp 20), none, []⟩])
 (.seq (.reg [⟨0, (some 22), .mv (.tmp 6), none, []⟩,
 ⟨1, (some 23), .call 159 [(.tmp 22)], none, []⟩,
 ⟨2, (some 21), .mv (.tmp 23), none, []⟩,
 ⟨3, (some 24), .ext (.tmp 21) 0, none, []⟩,
 ⟨4, (some 25), .ext (.tmp 21) 1, none, []⟩,
 ⟨5, (some 7), .mv (.tmp 24), none, []⟩,
 ⟨6, (some 8), .mv (.tmp 25), none, []⟩])
 (.seq (.seq (.reg [⟨0, (some 26), .mv (.tmp 8), none, []⟩,
 ⟨1, (some 27), .bin .neq 27 true (.tmp 26) (.con (.int .i64 0)), none, []⟩])
 (.cond (.tmp 27)
 (.seq (.reg [⟨0, (some 4), .mv (.con (.bool false)), none, []⟩])
 (.ret))
 (.skip)))
 (.reg [⟨0, (some 28), .mv (.tmp 1), none, []⟩,
 ⟨1, (some 29), .mv (.tmp 5), none, []⟩,
 ⟨2, (some 30), .idxA none 1 (.tmp 28) (.tmp 29), none, []⟩,
 ⟨3, (some 31), .load none (.tmp 30), none, []⟩,
 ⟨4, (some 32), .mv (.tmp 7), none, []⟩,
 ⟨5, (some 33), .nilck (.tmp 31), none, []⟩,
 ⟨6, none, .store 1 (.tmp 33) (.tmp 32), none, []⟩])))))
 (.reg [⟨0, (some 34), .bin .add 3 true (.tmp 16) (.con (.int .i64 1)), none, []⟩,
 ⟨1, (some 16), .mv (.tmp 34), none, []⟩])))))))
 (.seq (.reg [⟨0, (some 4), .mv (.con (.bool true)), none, []⟩])
 (.ret)))),
 [.tmp 4]⟩
theorem p_words_numbers : prepFun Go.Proofs.Tryz.prog [0, 1, 2] Go.Proofs.Tryz.f127 = some v_words_numbers := by kernel_rfl

def v_strings_CutPrefix : VFun :=
⟨.seq (.reg [⟨0, (some 4), .mv (.con (.string ⟨#[]⟩)), none, []⟩,
 ⟨1, (some 5), .mv (.con (.bool false)), none, []⟩])
 (.seq (.reg [⟨0, (some 6), .mv (.tmp 0), none, []⟩,
 ⟨1, (some 7), .mv (.tmp 1), none, []⟩,
 ⟨2, (some 8), .call 160 [(.tmp 6), (.tmp 7)], none, []⟩,
 ⟨3, (some 9), .ext (.tmp 8) 0, none, []⟩,
 ⟨4, (some 10), .ext (.tmp 8) 1, none, []⟩,
 ⟨5, (some 4), .mv (.tmp 9), none, []⟩,
 ⟨6, (some 5), .mv (.tmp 10), none, []⟩])
 (.ret)),
 [.tmp 4, .tmp 5]⟩
theorem p_strings_CutPrefix : prepFun Go.Proofs.Tryz.prog [0, 1, 2] Go.Proofs.Tryz.f128 = some v_strings_CutPrefix := by kernel_rfl

def v_words_readOp : VFun :=
⟨.seq (.reg [⟨0, (some 2), .alloc [(.int .i64 0), (.int .i64 0), (.int .i64 0), (.int .i64 0), (.int .i64 0), (.int .i64 0), (.int .i64 0)], none, []⟩,
 ⟨1, (some 3), .mv (.con (.bool false)), none, []⟩])
 (.seq (.reg [⟨0, (some 19), .mv (.tmp 0), none, []⟩,
 ⟨1, (some 20), .call 126 [(.tmp 19), (.con (.string ⟨#[32]⟩))], none, []⟩,
 ⟨2, (some 4), .mv (.tmp 20), none, []⟩])
 (.seq (.reg [⟨0, (some 5), .mv (.con (.int .i64 0)), none, []⟩])
 (.seq (.seq (.reg [⟨0, (some 21), .mv (.tmp 4), none, []⟩,
 ⟨1, (some 22), .idxA none 1 (.tmp 21) (.con (.int .i64 0)), none, []⟩,
 ⟨2, (some 23), .load none (.tmp 22), none, []⟩,
 ⟨3, (some 24), .bin .eql 9 true (.tmp 23) (.con (.string ⟨#[63]⟩)), none, []⟩])
 (.cond (.tmp 24)
 (.reg [⟨0, (some 5), .mv (.con (.int .i64 2)), none, []⟩])
 (.skip)))
 (.seq (.seq (.reg [⟨0, (some 25), .mv (.tmp 4), none, []⟩,
 ⟨1, (some 26), .len (.tmp 25), none, []⟩,
 ⟨2, (some 27), .mv (.tmp 5), none, []⟩,
 ⟨3, (some 28), .bin .add 3 true (.tmp 27) (.con (.int .i64 1)), none, []⟩,
 ⟨4, (some 29), .bin .gtr 3 false (.tmp 26) (.tmp 28), none, []⟩,
 ⟨5, (some 30), .mv (.tmp 29), none, []⟩,
 ⟨6, (some 31), .mv (.tmp 4), (some (30, true)), []⟩,
 ⟨7, (some 32), .mv (.tmp 5), (some (30, true)), []⟩,
 ⟨8, (some 33), .bin .add 3 true (.tmp 32) (.con (.int .i64 1)), (some (30, true)), []⟩,
 ⟨9, (some 34), .idxA none 1 (.tmp 31) (.tmp 33), (some (30, true)), []⟩,
 ⟨10, (some 35), .load none (.tmp 34), (some (30, true)), []⟩,
 ⟨11, (some 36), .bin .eql 9 true (.tmp 35) (.con (.string ⟨#[61]⟩)), (some (30, true)), []⟩,
 ⟨12, (some 37), .pick (.tmp 30) (.tmp 36) (.con (.bool false)), none, []⟩])
 (.cond (.tmp 37)
 (.reg [⟨0, (some 38), .mv (.tmp 5), none, []⟩,
 ⟨1, (some 39), .bin .add 3 true (.tmp 38) (.con (.int .i64 2)), none, []⟩,
 ⟨2, (some 5), .mv (.tmp 39), none, []⟩])
 (.skip)))
 (.seq (.seq (.reg [⟨0, (some 40), .mv (.tmp 5), none, []⟩,
 ⟨1, (some 41), .mv (.tmp 4), none, []⟩,
 ⟨2, (some 42), .len (.tmp 41), none, []⟩,
 ⟨3, (some 43), .bin .geq 3 false (.tmp 40) (.tmp 42), none, []⟩])
 (.cond (.tmp 43)
 (.seq (.reg [⟨0, (some 44), .build [(.int .i64 0), (.int .i64 0), (.int .i64 0), (.int .i64 0), (.int .i64 0), (.int .i64 0), (.int .i64 0)] [], none, []⟩,
 ⟨1, none, .store 7 (.tmp 2) (.tmp 44), none, []⟩,
 ⟨2, (some 3), .mv (.con (.bool false)), none, []⟩])
 (.ret))
 (.skip)))
 (.seq (.reg [⟨0, (some 45), .build [(.int .i64 0), (.int .i64 0), (.int .i64 0), (.int .i64 0), (.int .i64 0), (.int .i64 0), (.int .i64 0)] [(6, 1, (.con (.int .i64 (-1))))], none, []⟩,
 ⟨1, (some 6), .alloc [(.int .i64 0), (.int .i64 0), (.int .i64 0), (.int .i64 0), (.int .i64 0), (.int .i64 0), (.int .i64 0)], none, []⟩,
 ⟨2, none, .store 7 (.tmp 6) (.tmp 45), none, []⟩])
 (.seq (.seq (.reg [⟨0, (some 7), .mv (.con (.int .i64 1)), none, []⟩])
 (.block 0
 (.loop
 (.seq (.seq (.reg [⟨0, (some 46), .mv (.tmp 7), none, []⟩,
 ⟨1, (some 47), .bin .leq 3 true (.tmp 46) (.con (.int .i64 28)), none, []⟩])
 (.cond (.tmp 47)
 (.skip)
 (.exit 0)))
 (.seq (.block 1
 (.seq (.reg [⟨0, (some 50), .mv (.tmp 7), none, []⟩,
 ⟨2, (some 52), .mv (.tmp 4), none, []⟩,
 ⟨3, (some 53), .mv (.tmp 5), none, []⟩,
 ⟨4, (some 54), .idxA none 1 (.tmp 52) (.tmp 53), none, []⟩,
 ⟨5, (some 55), .load none (.tmp 54), none, []⟩,
 ⟨1, (some 51), .call 98 [(.tmp 50)], none, [(.tmp 54)]⟩,
 ⟨6, (some 56), .bin .eql 9 false (.tmp 51) (.tmp 55), none, []⟩])
 (.cond (.tmp 56)
 (.reg [⟨0, (some 57), .mv (.tmp 7), none, []⟩,
 ⟨1, (some 58), .fieldA 0 (.tmp 6), none, []⟩,
 ⟨2, none, .store 1 (.tmp 58) (.tmp 57), none, []⟩])
 (.skip))))
 (.reg [⟨0, (some 48), .mv (.tmp 7), none, []⟩,
 ⟨1, (some 49), .bin .add 3 true (.tmp 48) (.con (.int .i64 1)), none, []⟩,
 ⟨2, (some 7), .mv (.tmp 49), none, []⟩]))))))
 (.seq (.seq (.reg [⟨0, (some 59), .fieldA 0 (.tmp 6), none, []⟩,
 ⟨1, (some 60), .load none (.tmp 59), none, []⟩,
 ⟨2, (some 61), .bin .eql 3 true (.tmp 60) (.con (.int .i64 0)), none, []⟩])
 (.cond (.tmp 61)
 (.seq (.reg [⟨0, (some 62), .build [(.int .i64 0), (.int .i64 0), (.int .i64 0), (.int .i64 0), (.int .i64 0), (.int .i64 0), (.int .i64 0)] [], none, []⟩,
 ⟨1, none, .store 7 (.tmp 2) (.tmp 62), none, []⟩,
 ⟨2, (some 3), .mv (.con (.bool false)), none, []⟩])
 (.ret))
 (.skip)))
 (.seq (.reg [⟨0, (some 8), .alloc [(.int .i64 0)], none, []⟩,
 ⟨1, (some 9), .alloc [(.int .i64 0)], none, []⟩,
 ⟨2, (some 10), .alloc [(.int .i64 0)], none, []⟩])
 (.seq (.seq (.reg [⟨0, (some 63), .mv (.tmp 4), none, []⟩,
 ⟨1, (some 64), .idxA none 1 (.tmp 63) (.con (.int .i64 0)), none, []⟩,
 ⟨2, (some 65), .load none (.tmp 64), none, []⟩,
 ⟨3, (some 66), .bin .eql 9 true (.tmp 65) (.con (.string ⟨#[63]⟩)), none, []⟩])
 (.cond (.tmp 66)
 (.seq (.seq (.reg [⟨0, (some 67), .mv (.tmp 4), none, []⟩,
 ⟨1, (some 68), .slice none 1 (.tmp 67) (some (.con (.int .i64 1))) (some (.con (.int .i64 2))) none, none, []⟩,
 ⟨2, (some 69), .bslice 1 1 [(.pointer none)] [(0, 1, (.tmp 8))], none, []⟩,
 ⟨3, (some 70), .call 127 [(.tmp 68), (.tmp 69)], none, []⟩,
 ⟨4, (some 71), .un .not (.tmp 70), none, []⟩,
 ⟨5, (some 72), .mv (.tmp 71), none, []⟩,
 ⟨6, (some 73), .load none (.tmp 8), (some (72, false)), []⟩,
 ⟨7, (some 74), .bin .eql 2 true (.tmp 73) (.con (.int .i64 (-1))), (some (72, false)), []⟩,
 ⟨8, (some 75), .pick (.tmp 72) (.con (.bool true)) (.tmp 74), none, []⟩])
 (.cond (.tmp 75)
 (.seq (.reg [⟨0, (some 76), .build [(.int .i64 0), (.int .i64 0), (.int .i64 0), (.int .i64 0), (.int .i64 0), (.int .i64 0), (.int .i64 0)] [], none, []⟩,
 ⟨1, none, .store 7 (.tmp 2) (.tmp 76), none, []⟩,
 ⟨2, (some 3), .mv (.con (.bool false)), none, []⟩])
 (.ret))
 (.skip)))
 (.reg [⟨0, (some 77), .load none (.tmp 8), none, []⟩,
 ⟨1, (some 78), .fieldA 6 (.tmp 6), none, []⟩,
 ⟨2, none, .store 1 (.tmp 78) (.tmp 77), none, []⟩]))
 (.skip)))
 (.seq (.reg [⟨0, (some 79), .call 42 [(.tmp 6)], none, []⟩,
 ⟨1, (some 11), .mv (.tmp 79), none, []⟩])
 (.seq (.reg [⟨0, (some 80), .mv (.tmp 11), none, []⟩,
 ⟨1, (some 81), .len (.tmp 80), none, []⟩,
 ⟨2, (some 82), .bin .gtr 3 true (.tmp 81) (.con (.int .i64 0)), none, []⟩,
 ⟨3, (some 83), .mv (.tmp 82), none, []⟩,
 ⟨4, (some 84), .mv (.tmp 11), (some (83, true)), []⟩,
 ⟨5, (some 85), .idxA none 1 (.tmp 84) (.con (.int .i64 0)), (some (83, true)), []⟩,
 ⟨6, (some 86), .load none (.tmp 85), (some (83, true)), []⟩,
 ⟨7, (some 87), .fieldA 1 (.tmp 6), (some (83, true)), []⟩,
 ⟨8, (some 88), .peq false (.tmp 86) (.tmp 87), (some (83, true)), []⟩,
 ⟨9, (some 89), .pick (.tmp 83) (.tmp 88) (.con (.bool false)), none, []⟩,
 ⟨10, (some 12), .mv (.tmp 89), none, []⟩])
 (.seq (.seq (.reg [⟨0, (some 90), .mv (.tmp 5), none, []⟩,
 ⟨1, (some 91), .bin .gtr 3 true (.tmp 90) (.con (.int .i64 0)), none, []⟩,
 ⟨2, (some 92), .mv (.tmp 91), none, []⟩,
 ⟨3, (some 93), .mv (.tmp 4), (some (92, true)), []⟩,
 ⟨4, (some 94), .mv (.tmp 5), (some (92, true)), []⟩,
 ⟨5, (some 95), .bin .sub 3 true (.tmp 94) (.con (.int .i64 1)), (some (92, true)), []⟩,
 ⟨6, (some 96), .idxA none 1 (.tmp 93) (.tmp 95), (some (92, true)), []⟩,
 ⟨7, (some 97), .load none (.tmp 96), (some (92, true)), []⟩,
 ⟨8, (some 98), .bin .eql 9 true (.tmp 97) (.con (.string ⟨#[61]⟩)), (some (92, true)), []⟩,
 ⟨9, (some 99), .pick (.tmp 92) (.tmp 98) (.con (.bool false)), none, []⟩,
 ⟨10, (some 13), .mv (.tmp 99), none, []⟩])
 (.seq (.reg [⟨0, (some 100), .mv (.tmp 13), none, []⟩,
 ⟨1, (some 101), .mv (.tmp 12), none, []⟩,
 ⟨2, (some 102), .bin .neq 4 false (.tmp 100) (.tmp 101), none, []⟩])
 (.cond (.tmp 102)
 (.seq (.reg [⟨0, (some 103), .build [(.int .i64 0), (.int .i64 0), (.int .i64 0), (.int .i64 0), (.int .i64 0), (.int .i64 0), (.int .i64 0)] [], none, []⟩,
 ⟨1, none, .store 7 (.tmp 2) (.tmp 103), none, []⟩,
 ⟨2, (some 3), .mv (.con (.bool false)), none, []⟩])
 (.ret))
 (.skip))))
 (.seq (.seq (.reg [⟨0, (some 104), .mv (.tmp 12), none, []⟩])
 (.cond (.tmp 104)
 (.seq (.seq (.reg [⟨0, (some 105), .mv (.tmp 4), none, []⟩,
 ⟨1, (some 106), .mv (.tmp 5), none, []⟩,
 ⟨2, (some 107), .bin .sub 3 true (.tmp 106) (.con (.int .i64 2)), none, []⟩,
 ⟨3, (some 108), .mv (.tmp 5), none, []⟩,
 ⟨4, (some 109), .bin .sub 3 true (.tmp 108) (.con (.int .i64 1)), none, []⟩,
 ⟨5, (some 110), .slice none 1 (.tmp 105) (some (.tmp 107)) (some (.tmp 109)) none, none, []⟩,
 ⟨6, (some 111), .bslice 1 1 [(.pointer none)] [(0, 1, (.tmp 9))], none, []⟩,
 ⟨7, (some 112), .call 127 [(.tmp 110), (.tmp 111)], none, []⟩,
 ⟨8, (some 113), .un .not (.tmp 112), none, []⟩])
 (.cond (.tmp 113)
 (.seq (.reg [⟨0, (some 114), .build [(.int .i64 0), (.int .i64 0), (.int .i64 0), (.int .i64 0), (.int .i64 0), (.int .i64 0), (.int .i64 0)] [], none, []⟩,
 ⟨1, none, .store 7 (.tmp 2) (.tmp 114), none, []⟩,
 ⟨2, (some 3), .mv (.con (.bool false)), none, []⟩])
 (.ret))
 (.skip)))
 (.seq (.reg [⟨0, (some 115), .load none (.tmp 9), none, []⟩,
 ⟨1, (some 116), .fieldA 1 (.tmp 6), none, []⟩,
 ⟨2, none, .store 1 (.tmp 116) (.tmp 115), none, []⟩])
 (.reg [⟨0, (some 117), .mv (.tmp 11), none, []⟩,
 ⟨1, (some 118), .slice none 1 (.tmp 117) (some (.con (.int .i64 1))) none none, none, []⟩,
 ⟨2, (some 11), .mv (.tmp 118), none, []⟩])))
 (.skip)))
 (.seq (.reg [⟨0, (some 119), .mv (.tmp 11), none, []⟩,
 ⟨1, (some 120), .len (.tmp 119), none, []⟩,
 ⟨2, (some 121), .mksl 1 8 [(.int .i64 0)] (.tmp 120) (.tmp 120), none, []⟩,
 ⟨3, (some 14), .mv (.tmp 121), none, []⟩])
 (.seq (.reg [⟨0, (some 15), .mv (.con (.slice none 0 0)), none, []⟩])
 (.seq (.seq (.reg [⟨0, (some 122), .mv (.tmp 14), none, []⟩,
 ⟨1, (some 123), .len (.tmp 122), none, []⟩,
 ⟨2, (some 124), .mv (.con (.int .i64 0)), none, []⟩])
 (.block 2
 (.loop
 (.seq (.reg [⟨0, (some 125), .bin .lss 3 false (.tmp 124) (.tmp 123), none, []⟩])
 (.seq (.cond (.tmp 125)
 (.skip)
 (.exit 2))
 (.seq (.block 3
 (.seq (.reg [⟨0, (some 126), .mv (.tmp 124), none, []⟩,
 ⟨1, (some 16), .mv (.tmp 126), none, []⟩])
 (.reg [⟨0, (some 127), .mv (.tmp 15), none, []⟩,
 ⟨1, (some 128), .mv (.tmp 14), none, []⟩,
 ⟨2, (some 129), .mv (.tmp 16), none, []⟩,
 ⟨3, (some 130), .idxA none 1 (.tmp 128) (.tmp 129), none, []⟩,
 ⟨4, (some 131), .bslice 1 1 [(.pointer none)] [(0, 1, (.tmp 130))], none, []⟩,
 ⟨5, (some 132), .append 1 8 (.tmp 127) (.tmp 131), none, []⟩,
 ⟨6, (some 15), .mv (.tmp 132), none, []⟩])))
 (.reg [⟨0, (some 133), .bin .add 3 true (.tmp 124) (.con (.int .i64 1)), none, []⟩,
 ⟨1, (some 124), .mv (.tmp 133), none, []⟩])))))))
 (.seq (.seq (.reg [⟨0, (some 134), .fieldA 0 (.tmp 6), none, []⟩,
 ⟨1, (some 135), .load none (.tmp 134), none, []⟩,
 ⟨2, (some 136), .call 43 [(.tmp 135)], none, []⟩])
 (.cond (.tmp 136)
 (.reg [⟨0, (some 137), .mv (.tmp 15), none, []⟩,
 ⟨1, (some 138), .bslice 1 1 [(.pointer none)] [(0, 1, (.tmp 10))], none, []⟩,
 ⟨2, (some 139), .append 1 8 (.tmp 137) (.tmp 138), none, []⟩,
 ⟨3, (some 15), .mv (.tmp 139), none, []⟩])
 (.skip)))
 (.seq (.seq (.reg [⟨0, (some 140), .mv (.tmp 4), none, []⟩,
 ⟨1, (some 141), .mv (.tmp 5), none, []⟩,
 ⟨2, (some 142), .bin .add 3 true (.tmp 141) (.con (.int .i64 1)), none, []⟩,
 ⟨3, (some 143), .slice none 1 (.tmp 140) (some (.tmp 142)) none none, none, []⟩,
 ⟨4, (some 144), .mv (.tmp 15), none, []⟩,
 ⟨5, (some 145), .call 127 [(.tmp 143), (.tmp 144)], none, []⟩,
 ⟨6, (some 146), .un .not (.tmp 145), none, []⟩])
 (.cond (.tmp 146)
 (.seq (.reg [⟨0, (some 147), .build [(.int .i64 0), (.int .i64 0), (.int .i64 0), (.int .i64 0), (.int .i64 0), (.int .i64 0), (.int .i64 0)] [], none, []⟩,
 ⟨1, none, .store 7 (.tmp 2) (.tmp 147), none, []⟩,
 ⟨2, (some 3), .mv (.con (.bool false)), none, []⟩])
 (.ret))
 (.skip)))
 (.seq (.seq (.reg [⟨0, (some 148), .mv (.tmp 11), none, []⟩,
 ⟨1, (some 149), .len (.tmp 148), none, []⟩,
 ⟨2, (some 150), .mv (.con (.int .i64 0)), none, []⟩])
 (.block 4
 (.loop
 (.seq (.reg [⟨0, (some 151), .bin .lss 3 false (.tmp 150) (.tmp 149), none, []⟩])
 (.seq (.cond (.tmp 151)
 (.skip)
 (.exit 4))
 (.seq (.block 5
 (.seq (.reg [⟨0, (some 152), .mv (.tmp 150), none, []⟩,
 ⟨1, (some 153), .idxA none 1 (.tmp 148) (.tmp 150), none, []⟩,
 ⟨2, (some 154), .load none (.tmp 153), none, []⟩,
 ⟨3, (some 17), .mv (.tmp 152), none, []⟩,
 ⟨4, (some 18), .mv (.tmp 154), none, []⟩])
 (.reg [⟨0, (some 155), .mv (.tmp 18), none, []⟩,
 ⟨1, (some 156), .mv (.tmp 14), none, []⟩,
 ⟨2, (some 157), .mv (.tmp 17), none, []⟩,
 ⟨3, (some 158), .idxA none 1 (.tmp 156) (.tmp 157), none, []⟩,
 ⟨4, (some 159), .load none (.tmp 158), none, []⟩,
 ⟨5, (some 160), .nilck (.tmp 155), none, []⟩,
 ⟨6, none, .store 1 (.tmp 160) (.tmp 159), none, []⟩])))
 (.reg [⟨0, (some 161), .bin .add 3 true (.tmp 150) (.con (.int .i64 1)), none, []⟩,
 ⟨1, (some 150), .mv (.tmp 161), none, []⟩])))))))
 (.seq (.reg [⟨0, (some 162), .load none (.tmp 10), none, []⟩,
 ⟨1, (some 163), .fieldA 5 (.tmp 6), none, []⟩,
 ⟨2, none, .store 1 (.tmp 163) (.tmp 162), none, []⟩])
 (.seq (.reg [⟨0, (some 164), .load (some 7) (.tmp 6), none, []⟩,
 ⟨1, none, .store 7 (.tmp 2) (.tmp 164), none, []⟩,
 ⟨2, (some 3), .mv (.con (.bool true)), none, []⟩])
 (.ret))))))))))))))))))))))),
 [.cell 2 (some 7), .tmp 3]⟩
theorem p_words_readOp : prepFun Go.Proofs.Tryz.prog [0, 1, 2] Go.Proofs.Tryz.f129 = some v_words_readOp := by kernel_rfl

end Go.VX.Seat
end
section
set_option maxRecDepth 20000
/-! MADE BY PROGRAM (lits.py): functions as they are prepared. -/
namespace Go.VX.Seat
def v_code_checker_unit : VFun :=
⟨.seq (.reg [⟨0, (some 8), .mv (.tmp 0), none, []⟩,
 ⟨1, (some 9), .nilck (.tmp 8), none, []⟩,
 ⟨2, (some 10), .fieldA 0 (.tmp 9), none, []⟩,
 ⟨3, (some 11), .load (some 6) (.tmp 10), none, []⟩,
 ⟨4, (some 2), .alloc [(.slice none 0 0), (.int .i64 0), (.int .i64 0), (.int .i64 0), (.int .i64 0), (.slice none 0 0)], none, []⟩,
 ⟨5, none, .store 6 (.tmp 2) (.tmp 11), none, []⟩])
 (.seq (.reg [⟨0, (some 12), .mv (.tmp 0), none, []⟩,
 ⟨1, (some 13), .fieldA 0 (.tmp 2), none, []⟩,
 ⟨2, (some 14), .load none (.tmp 13), none, []⟩,
 ⟨3, (some 15), .len (.tmp 14), none, []⟩,
 ⟨4, (some 16), .bin .leq 3 true (.tmp 15) (.con (.int .i64 16)), none, []⟩,
 ⟨5, (some 17), .mv (.tmp 16), none, []⟩,
 ⟨6, (some 18), .fieldA 5 (.tmp 2), (some (17, true)), []⟩,
 ⟨7, (some 19), .load none (.tmp 18), (some (17, true)), []⟩,
 ⟨8, (some 20), .len (.tmp 19), (some (17, true)), []⟩,
 ⟨9, (some 21), .bin .geq 3 true (.tmp 20) (.con (.int .i64 1)), (some (17, true)), []⟩,
 ⟨10, (some 22), .pick (.tmp 17) (.tmp 21) (.con (.bool false)), none, []⟩,
 ⟨11, (some 23), .mv (.tmp 22), none, []⟩,
 ⟨12, (some 24), .fieldA 5 (.tmp 2), (some (23, true)), []⟩,
 ⟨13, (some 25), .load none (.tmp 24), (some (23, true)), []⟩,
 ⟨14, (some 26), .len (.tmp 25), (some (23, true)), []⟩,
 ⟨15, (some 27), .bin .leq 3 true (.tmp 26) (.con (.int .i64 2000)), (some (23, true)), []⟩,
 ⟨16, (some 28), .pick (.tmp 23) (.tmp 27) (.con (.bool false)), none, []⟩,
 ⟨17, (some 29), .mv (.tmp 28), none, []⟩,
 ⟨18, (some 30), .fieldA 2 (.tmp 2), (some (29, true)), []⟩,
 ⟨19, (some 31), .load none (.tmp 30), (some (29, true)), []⟩,
 ⟨20, (some 32), .bin .leq 3 true (.tmp 31) (.con (.int .i64 4096)), (some (29, true)), []⟩,
 ⟨21, (some 33), .pick (.tmp 29) (.tmp 32) (.con (.bool false)), none, []⟩,
 ⟨22, (some 34), .mv (.tmp 33), none, []⟩,
 ⟨23, (some 35), .fieldA 4 (.tmp 2), (some (34, true)), []⟩,
 ⟨24, (some 36), .load none (.tmp 35), (some (34, true)), []⟩,
 ⟨25, (some 37), .bin .leq 3 true (.tmp 36) (.con (.int .i64 4096)), (some (34, true)), []⟩,
 ⟨26, (some 38), .pick (.tmp 34) (.tmp 37) (.con (.bool false)), none, []⟩,
 ⟨27, (some 39), .call 161 [(.tmp 12), (.tmp 38), (.con (.int .i64 3))], none, []⟩])
 (.seq (.reg [⟨0, (some 40), .mv (.tmp 0), none, []⟩,
 ⟨1, (some 41), .fieldA 0 (.tmp 2), none, []⟩,
 ⟨2, (some 42), .load none (.tmp 41), none, []⟩,
 ⟨3, (some 43), .call 135 [(.tmp 42), (.fn 162)], none, []⟩,
 ⟨4, (some 44), .un .not (.tmp 43), none, []⟩,
 ⟨5, (some 45), .call 161 [(.tmp 40), (.tmp 44), (.con (.int .i64 2))], none, []⟩])
 (.seq (.reg [⟨0, (some 46), .mv (.tmp 0), none, []⟩,
 ⟨1, (some 47), .fieldA 2 (.tmp 2), none, []⟩,
 ⟨2, (some 48), .load none (.tmp 47), none, []⟩,
 ⟨3, (some 49), .bin .geq 3 true (.tmp 48) (.con (.int .i64 1)), none, []⟩,
 ⟨4, (some 50), .mv (.tmp 49), none, []⟩,
 ⟨5, (some 51), .fieldA 4 (.tmp 2), (some (50, true)), []⟩,
 ⟨6, (some 52), .load none (.tmp 51), (some (50, true)), []⟩,
 ⟨7, (some 53), .bin .geq 3 true (.tmp 52) (.con (.int .i64 0)), (some (50, true)), []⟩,
 ⟨8, (some 54), .pick (.tmp 50) (.tmp 53) (.con (.bool false)), none, []⟩,
 ⟨9, (some 55), .mv (.tmp 54), none, []⟩,
 ⟨10, (some 56), .fieldA 1 (.tmp 2), (some (55, true)), []⟩,
 ⟨11, (some 57), .load none (.tmp 56), (some (55, true)), []⟩,
 ⟨12, (some 58), .bin .geq 3 true (.tmp 57) (.con (.int .i64 0)), (some (55, true)), []⟩,
 ⟨13, (some 59), .pick (.tmp 55) (.tmp 58) (.con (.bool false)), none, []⟩,
 ⟨14, (some 60), .mv (.tmp 59), none, []⟩,
 ⟨15, (some 61), .fieldA 1 (.tmp 2), (some (60, true)), []⟩,
 ⟨16, (some 62), .load none (.tmp 61), (some (60, true)), []⟩,
 ⟨17, (some 63), .bin .leq 3 true (.tmp 62) (.con (.int .i64 8)), (some (60, true)), []⟩,
 ⟨18, (some 64), .pick (.tmp 60) (.tmp 63) (.con (.bool false)), none, []⟩,
 ⟨19, (some 65), .mv (.tmp 64), none, []⟩,
 ⟨20, (some 66), .fieldA 1 (.tmp 2), (some (65, true)), []⟩,
 ⟨21, (some 67), .load none (.tmp 66), (some (65, true)), []⟩,
 ⟨22, (some 68), .fieldA 2 (.tmp 2), (some (65, true)), []⟩,
 ⟨23, (some 69), .load none (.tmp 68), (some (65, true)), []⟩,
 ⟨24, (some 70), .bin .leq 3 false (.tmp 67) (.tmp 69), (some (65, true)), []⟩,
 ⟨25, (some 71), .pick (.tmp 65) (.tmp 70) (.con (.bool false)), none, []⟩,
 ⟨26, (some 72), .mv (.tmp 71), none, []⟩,
 ⟨27, (some 73), .fieldA 3 (.tmp 2), (some (72, true)), []⟩,
 ⟨28, (some 74), .load none (.tmp 73), (some (72, true)), []⟩,
 ⟨29, (some 75), .fieldA 2 (.tmp 2), (some (72, true)), []⟩,
 ⟨30, (some 76), .load none (.tmp 75), (some (72, true)), []⟩,
 ⟨31, (some 77), .call 163 [(.tmp 74), (.tmp 76)], (some (72, true)), []⟩,
 ⟨32, (some 78), .pick (.tmp 72) (.tmp 77) (.con (.bool false)), none, []⟩,
 ⟨33, (some 79), .call 161 [(.tmp 46), (.tmp 78), (.con (.int .i64 2))], none, []⟩])
 (.seq (.reg [⟨0, (some 3), .mv (.con (.int .i64 0)), none, []⟩])
 (.seq (.seq (.reg [⟨0, (some 80), .fieldA 5 (.tmp 2), none, []⟩,
 ⟨1, (some 81), .load none (.tmp 80), none, []⟩,
 ⟨2, (some 82), .len (.tmp 81), none, []⟩,
 ⟨3, (some 83), .mv (.con (.int .i64 0)), none, []⟩])
 (.block 0
 (.loop
 (.seq (.reg [⟨0, (some 84), .bin .lss 3 false (.tmp 83) (.tmp 82), none, []⟩])
 (.seq (.cond (.tmp 84)
 (.skip)
 (.exit 0))
 (.seq (.block 1
 (.seq (.reg [⟨0, (some 85), .mv (.tmp 83), none, []⟩,
 ⟨1, (some 86), .idxA none 6 (.tmp 81) (.tmp 83), none, []⟩,
 ⟨2, (some 87), .load (some 6) (.tmp 86), none, []⟩,
 ⟨3, (some 5), .alloc [(.slice none 0 0), (.int .i64 0), (.int .i64 0), (.int .i64 0), (.int .i64 0), (.int .i64 0)], none, []⟩,
 ⟨4, (some 4), .mv (.tmp 85), none, []⟩,
 ⟨5, none, .store 6 (.tmp 5) (.tmp 87), none, []⟩])
 (.seq (.reg [⟨0, (some 88), .mv (.tmp 0), none, []⟩,
 ⟨1, (some 89), .mv (.tmp 0), none, []⟩,
 ⟨2, (some 90), .mv (.tmp 4), none, []⟩,
 ⟨3, (some 91), .fieldA 0 (.tmp 5), none, []⟩,
 ⟨4, (some 92), .load none (.tmp 91), none, []⟩,
 ⟨5, (some 93), .len (.tmp 92), none, []⟩,
 ⟨6, (some 94), .nilck (.tmp 88), none, []⟩,
 ⟨7, (some 95), .fieldA 6 (.tmp 94), none, []⟩,
 ⟨8, none, .store 1 (.tmp 95) (.tmp 90), none, [(.tmp 91)]⟩,
 ⟨9, (some 96), .nilck (.tmp 89), none, []⟩,
 ⟨10, (some 97), .fieldA 7 (.tmp 96), none, []⟩,
 ⟨11, none, .store 1 (.tmp 97) (.tmp 93), none, []⟩])
 (.seq (.reg [⟨0, (some 98), .mv (.tmp 0), none, []⟩,
 ⟨1, (some 99), .fieldA 5 (.tmp 5), none, []⟩,
 ⟨2, (some 100), .load none (.tmp 99), none, []⟩,
 ⟨3, (some 101), .bin .eql 3 true (.tmp 100) (.con (.int .i64 (-1))), none, []⟩,
 ⟨4, (some 102), .mv (.tmp 101), none, []⟩,
 ⟨5, (some 103), .fieldA 5 (.tmp 5), (some (102, false)), []⟩,
 ⟨6, (some 104), .load none (.tmp 103), (some (102, false)), []⟩,
 ⟨7, (some 105), .fieldA 5 (.tmp 2), (some (102, false)), []⟩,
 ⟨8, (some 106), .load none (.tmp 105), (some (102, false)), []⟩,
 ⟨9, (some 107), .len (.tmp 106), (some (102, false)), []⟩,
 ⟨10, (some 108), .call 163 [(.tmp 104), (.tmp 107)], (some (102, false)), []⟩,
 ⟨11, (some 109), .pick (.tmp 102) (.con (.bool true)) (.tmp 108), none, []⟩,
 ⟨12, (some 110), .call 161 [(.tmp 98), (.tmp 109), (.con (.int .i64 2))], none, []⟩])
 (.seq (.reg [⟨0, (some 111), .mv (.tmp 0), none, []⟩,
 ⟨1, (some 112), .fieldA 0 (.tmp 5), none, []⟩,
 ⟨2, (some 113), .load none (.tmp 112), none, []⟩,
 ⟨3, (some 114), .len (.tmp 113), none, []⟩,
 ⟨4, (some 115), .bin .leq 3 true (.tmp 114) (.con (.int .i64 400)), none, []⟩,
 ⟨5, (some 116), .call 161 [(.tmp 111), (.tmp 115), (.con (.int .i64 3))], none, []⟩])
 (.seq (.seq (.reg [⟨0, (some 117), .fieldA 0 (.tmp 5), none, []⟩,
 ⟨1, (some 118), .load none (.tmp 117), none, []⟩,
 ⟨2, (some 119), .len (.tmp 118), none, []⟩,
 ⟨3, (some 120), .mv (.con (.int .i64 0)), none, []⟩])
 (.block 2
 (.loop
 (.seq (.reg [⟨0, (some 121), .bin .lss 3 false (.tmp 120) (.tmp 119), none, []⟩])
 (.seq (.cond (.tmp 121)
 (.skip)
 (.exit 2))
 (.seq (.block 3
 (.seq (.reg [⟨0, (some 122), .mv (.tmp 120), none, []⟩,
 ⟨1, (some 123), .idxA none 7 (.tmp 118) (.tmp 120), none, []⟩,
 ⟨2, (some 124), .load (some 7) (.tmp 123), none, []⟩,
 ⟨3, (some 7), .alloc [(.int .i64 0), (.int .i64 0), (.int .i64 0), (.int .i64 0), (.int .i64 0), (.int .i64 0), (.int .i64 0)], none, []⟩,
 ⟨4, (some 6), .mv (.tmp 122), none, []⟩,
 ⟨5, none, .store 7 (.tmp 7) (.tmp 124), none, []⟩])
 (.seq (.reg [⟨0, (some 125), .mv (.tmp 0), none, []⟩,
 ⟨1, (some 126), .mv (.tmp 6), none, []⟩,
 ⟨2, (some 127), .nilck (.tmp 125), none, []⟩,
 ⟨3, (some 128), .fieldA 7 (.tmp 127), none, []⟩,
 ⟨4, none, .store 1 (.tmp 128) (.tmp 126), none, []⟩])
 (.reg [⟨0, (some 129), .mv (.tmp 0), none, []⟩,
 ⟨1, (some 130), .load (some 7) (.tmp 7), none, []⟩,
 ⟨2, (some 131), .call 164 [(.tmp 129), (.tmp 130)], none, []⟩]))))
 (.reg [⟨0, (some 132), .bin .add 3 true (.tmp 120) (.con (.int .i64 1)), none, []⟩,
 ⟨1, (some 120), .mv (.tmp 132), none, []⟩])))))))
 (.seq (.reg [⟨0, (some 133), .mv (.tmp 0), none, []⟩,
 ⟨1, (some 134), .fieldA 0 (.tmp 5), none, []⟩,
 ⟨2, (some 135), .load none (.tmp 134), none, []⟩,
 ⟨3, (some 136), .len (.tmp 135), none, []⟩,
 ⟨4, (some 137), .nilck (.tmp 133), none, []⟩,
 ⟨5, (some 138), .fieldA 7 (.tmp 137), none, []⟩,
 ⟨6, none, .store 1 (.tmp 138) (.tmp 136), none, []⟩])
 (.seq (.reg [⟨0, (some 139), .mv (.tmp 0), none, []⟩,
 ⟨1, (some 140), .fieldA 1 (.tmp 5), none, []⟩,
 ⟨2, (some 141), .load (some 4) (.tmp 140), none, []⟩,
 ⟨3, (some 142), .call 165 [(.tmp 139), (.tmp 141)], none, []⟩])
 (.reg [⟨0, (some 143), .mv (.tmp 3), none, []⟩,
 ⟨1, (some 144), .fieldA 0 (.tmp 5), none, []⟩,
 ⟨2, (some 145), .load none (.tmp 144), none, []⟩,
 ⟨3, (some 146), .len (.tmp 145), none, []⟩,
 ⟨4, (some 147), .bin .add 3 false (.tmp 143) (.tmp 146), none, []⟩,
 ⟨5, (some 3), .mv (.tmp 147), none, []⟩])))))))))
 (.reg [⟨0, (some 148), .bin .add 3 true (.tmp 83) (.con (.int .i64 1)), none, []⟩,
 ⟨1, (some 83), .mv (.tmp 148), none, []⟩])))))))
 (.seq (.reg [⟨0, (some 149), .mv (.tmp 0), none, []⟩,
 ⟨1, (some 150), .mv (.tmp 0), none, []⟩,
 ⟨2, (some 151), .nilck (.tmp 149), none, []⟩,
 ⟨3, (some 152), .fieldA 6 (.tmp 151), none, []⟩,
 ⟨4, none, .store 1 (.tmp 152) (.con (.int .i64 0)), none, []⟩,
 ⟨5, (some 153), .nilck (.tmp 150), none, []⟩,
 ⟨6, (some 154), .fieldA 7 (.tmp 153), none, []⟩,
 ⟨7, none, .store 1 (.tmp 154) (.con (.int .i64 0)), none, []⟩])
 (.reg [⟨0, (some 155), .mv (.tmp 0), none, []⟩,
 ⟨1, (some 156), .mv (.tmp 3), none, []⟩,
 ⟨2, (some 157), .bin .leq 3 true (.tmp 156) (.con (.int .i64 20000)), none, []⟩,
 ⟨3, (some 158), .call 161 [(.tmp 155), (.tmp 157), (.con (.int .i64 3))], none, []⟩]))))))),
 []⟩
theorem p_code_checker_unit : prepFun Go.Proofs.Tryz.prog [0, 1, 2] Go.Proofs.Tryz.f133 = some v_code_checker_unit := by kernel_rfl

def v_math_bits_Mul : VFun :=
⟨.seq (.reg [⟨0, (some 4), .mv (.con (.int .u64 0)), none, []⟩,
 ⟨1, (some 5), .mv (.con (.int .u64 0)), none, []⟩])
 (.seq (.cond (.con (.bool false))
 (.seq (.reg [⟨0, (some 11), .mv (.tmp 0), none, []⟩,
 ⟨1, (some 12), .conv 147 148 (.tmp 11), none, []⟩,
 ⟨2, (some 13), .mv (.tmp 1), none, []⟩,
 ⟨3, (some 14), .conv 147 148 (.tmp 13), none, []⟩,
 ⟨4, (some 15), .call 166 [(.tmp 12), (.tmp 14)], none, []⟩,
 ⟨5, (some 10), .mv (.tmp 15), none, []⟩,
 ⟨6, (some 16), .ext (.tmp 10) 0, none, []⟩,
 ⟨7, (some 17), .ext (.tmp 10) 1, none, []⟩,
 ⟨8, (some 6), .mv (.tmp 16), none, []⟩,
 ⟨9, (some 7), .mv (.tmp 17), none, []⟩])
 (.seq (.reg [⟨0, (some 18), .mv (.tmp 6), none, []⟩,
 ⟨1, (some 19), .conv 148 147 (.tmp 18), none, []⟩,
 ⟨2, (some 20), .mv (.tmp 7), none, []⟩,
 ⟨3, (some 21), .conv 148 147 (.tmp 20), none, []⟩,
 ⟨4, (some 4), .mv (.tmp 19), none, []⟩,
 ⟨5, (some 5), .mv (.tmp 21), none, []⟩])
 (.ret)))
 (.skip))
 (.seq (.reg [⟨0, (some 23), .mv (.tmp 0), none, []⟩,
 ⟨1, (some 24), .mv (.tmp 1), none, []⟩,
 ⟨2, (some 25), .call 167 [(.tmp 23), (.tmp 24)], none, []⟩,
 ⟨3, (some 22), .mv (.tmp 25), none, []⟩,
 ⟨4, (some 26), .ext (.tmp 22) 0, none, []⟩,
 ⟨5, (some 27), .ext (.tmp 22) 1, none, []⟩,
 ⟨6, (some 8), .mv (.tmp 26), none, []⟩,
 ⟨7, (some 9), .mv (.tmp 27), none, []⟩])
 (.seq (.reg [⟨0, (some 28), .mv (.tmp 8), none, []⟩,
 ⟨1, (some 29), .mv (.tmp 9), none, []⟩,
 ⟨2, (some 4), .mv (.tmp 28), none, []⟩,
 ⟨3, (some 5), .mv (.tmp 29), none, []⟩])
 (.ret)))),
 [.tmp 4, .tmp 5]⟩
theorem p_math_bits_Mul : prepFun Go.Proofs.Tryz.prog [0, 1, 2] Go.Proofs.Tryz.f134 = some v_math_bits_Mul := by kernel_rfl

def v_slices_ContainsFunc_int : VFun :=
⟨.seq (.reg [⟨0, (some 4), .mv (.con (.bool false)), none, []⟩])
 (.seq (.reg [⟨0, (some 5), .mv (.tmp 0), none, []⟩,
 ⟨1, (some 6), .mv (.tmp 1), none, []⟩,
 ⟨2, (some 7), .call 168 [(.tmp 5), (.tmp 6)], none, []⟩,
 ⟨3, (some 8), .bin .geq 3 true (.tmp 7) (.con (.int .i64 0)), none, []⟩,
 ⟨4, (some 4), .mv (.tmp 8), none, []⟩])
 (.ret)),
 [.tmp 4]⟩
theorem p_slices_ContainsFunc_int : prepFun Go.Proofs.Tryz.prog [0, 1, 2] Go.Proofs.Tryz.f135 = some v_slices_ContainsFunc_int := by kernel_rfl

def v_words_own_c1 : VFun :=
⟨.seq (.reg [⟨0, (some 3), .mv (.con (.bool false)), none, []⟩])
 (.seq (.reg [⟨0, (some 4), .mv (.tmp 0), none, []⟩,
 ⟨1, (some 5), .fieldA 2 (.tmp 1), none, []⟩,
 ⟨2, (some 6), .load none (.tmp 5), none, []⟩,
 ⟨3, (some 7), .call 33 [(.tmp 4), (.tmp 6)], none, []⟩,
 ⟨4, (some 8), .un .not (.tmp 7), none, []⟩,
 ⟨5, (some 3), .mv (.tmp 8), none, []⟩])
 (.ret)),
 [.tmp 3]⟩
theorem p_words_own_c1 : prepFun Go.Proofs.Tryz.prog [0, 1, 2] Go.Proofs.Tryz.f136 = some v_words_own_c1 := by kernel_rfl

def v_slices_insertionSortOrdered_int : VFun :=
⟨.seq (.reg [⟨0, (some 8), .mv (.tmp 1), none, []⟩,
 ⟨1, (some 9), .bin .add 3 true (.tmp 8) (.con (.int .i64 1)), none, []⟩,
 ⟨2, (some 6), .mv (.tmp 9), none, []⟩])
 (.block 0
 (.loop
 (.seq (.seq (.reg [⟨0, (some 10), .mv (.tmp 6), none, []⟩,
 ⟨1, (some 11), .mv (.tmp 2), none, []⟩,
 ⟨2, (some 12), .bin .lss 3 false (.tmp 10) (.tmp 11), none, []⟩])
 (.cond (.tmp 12)
 (.skip)
 (.exit 0)))
 (.seq (.block 1
 (.seq (.reg [⟨0, (some 15), .mv (.tmp 6), none, []⟩,
 ⟨1, (some 7), .mv (.tmp 15), none, []⟩])
 (.block 2
 (.loop
 (.seq (.seq (.reg [⟨0, (some 16), .mv (.tmp 7), none, []⟩,
 ⟨1, (some 17), .mv (.tmp 1), none, []⟩,
 ⟨2, (some 18), .bin .gtr 3 false (.tmp 16) (.tmp 17), none, []⟩,
 ⟨3, (some 19), .mv (.tmp 18), none, []⟩,
 ⟨4, (some 20), .mv (.tmp 0), (some (19, true)), []⟩,
 ⟨5, (some 21), .mv (.tmp 7), (some (19, true)), []⟩,
 ⟨6, (some 22), .idxA none 1 (.tmp 20) (.tmp 21), (some (19, true)), []⟩,
 ⟨7, (some 23), .load none (.tmp 22), (some (19, true)), []⟩,
 ⟨8, (some 24), .mv (.tmp 0), (some (19, true)), []⟩,
 ⟨9, (some 25), .mv (.tmp 7), (some (19, true)), []⟩,
 ⟨10, (some 26), .bin .sub 3 true (.tmp 25) (.con (.int .i64 1)), (some (19, true)), []⟩,
 ⟨11, (some 27), .idxA none 1 (.tmp 24) (.tmp 26), (some (19, true)), []⟩,
 ⟨12, (some 28), .load none (.tmp 27), (some (19, true)), []⟩,
 ⟨13, (some 29), .call 147 [(.tmp 23), (.tmp 28)], (some (19, true)), []⟩,
 ⟨14, (some 30), .pick (.tmp 19) (.tmp 29) (.con (.bool false)), none, []⟩])
 (.cond (.tmp 30)
 (.skip)
 (.exit 2)))
 (.seq (.block 3
 (.reg [⟨0, (some 33), .mv (.tmp 0), none, []⟩,
 ⟨1, (some 34), .mv (.tmp 7), none, []⟩,
 ⟨2, (some 35), .mv (.tmp 0), none, []⟩,
 ⟨3, (some 36), .mv (.tmp 7), none, []⟩,
 ⟨4, (some 37), .bin .sub 3 true (.tmp 36) (.con (.int .i64 1)), none, []⟩,
 ⟨5, (some 38), .mv (.tmp 0), none, []⟩,
 ⟨6, (some 39), .mv (.tmp 7), none, []⟩,
 ⟨7, (some 40), .bin .sub 3 true (.tmp 39) (.con (.int .i64 1)), none, []⟩,
 ⟨8, (some 41), .idxA none 1 (.tmp 38) (.tmp 40), none, []⟩,
 ⟨9, (some 42), .load none (.tmp 41), none, []⟩,
 ⟨10, (some 43), .mv (.tmp 0), none, []⟩,
 ⟨11, (some 44), .mv (.tmp 7), none, []⟩,
 ⟨12, (some 45), .idxA none 1 (.tmp 43) (.tmp 44), none, []⟩,
 ⟨13, (some 46), .load none (.tmp 45), none, []⟩,
 ⟨14, (some 47), .idxA none 1 (.tmp 33) (.tmp 34), none, []⟩,
 ⟨15, none, .store 1 (.tmp 47) (.tmp 42), none, []⟩,
 ⟨16, (some 48), .idxA none 1 (.tmp 35) (.tmp 37), none, []⟩,
 ⟨17, none, .store 1 (.tmp 48) (.tmp 46), none, []⟩]))
 (.reg [⟨0, (some 31), .mv (.tmp 7), none, []⟩,
 ⟨1, (some 32), .bin .sub 3 true (.tmp 31) (.con (.int .i64 1)), none, []⟩,
 ⟨2, (some 7), .mv (.tmp 32), none, []⟩])))))))
 (.reg [⟨0, (some 13), .mv (.tmp 6), none, []⟩,
 ⟨1, (some 14), .bin .add 3 true (.tmp 13) (.con (.int .i64 1)), none, []⟩,
 ⟨2, (some 6), .mv (.tmp 14), none, []⟩]))))),
 []⟩
theorem p_slices_insertionSortOrdered_int : prepFun Go.Proofs.Tryz.prog [0, 1, 2] Go.Proofs.Tryz.f141 = some v_slices_insertionSortOrdered_int := by kernel_rfl

def v_slices_heapSortOrdered_int : VFun :=
⟨.seq (.reg [⟨0, (some 11), .mv (.tmp 1), none, []⟩,
 ⟨1, (some 6), .mv (.tmp 11), none, []⟩])
 (.seq (.reg [⟨0, (some 7), .mv (.con (.int .i64 0)), none, []⟩])
 (.seq (.reg [⟨0, (some 12), .mv (.tmp 2), none, []⟩,
 ⟨1, (some 13), .mv (.tmp 1), none, []⟩,
 ⟨2, (some 14), .bin .sub 3 false (.tmp 12) (.tmp 13), none, []⟩,
 ⟨3, (some 8), .mv (.tmp 14), none, []⟩])
 (.seq (.seq (.reg [⟨0, (some 15), .mv (.tmp 8), none, []⟩,
 ⟨1, (some 16), .bin .sub 3 true (.tmp 15) (.con (.int .i64 1)), none, []⟩,
 ⟨2, (some 17), .bin .quo 3 true (.tmp 16) (.con (.int .i64 2)), none, []⟩,
 ⟨3, (some 9), .mv (.tmp 17), none, []⟩])
 (.block 0
 (.loop
 (.seq (.seq (.reg [⟨0, (some 18), .mv (.tmp 9), none, []⟩,
 ⟨1, (some 19), .bin .geq 3 true (.tmp 18) (.con (.int .i64 0)), none, []⟩])
 (.cond (.tmp 19)
 (.skip)
 (.exit 0)))
 (.seq (.block 1
 (.reg [⟨0, (some 22), .mv (.tmp 0), none, []⟩,
 ⟨1, (some 23), .mv (.tmp 9), none, []⟩,
 ⟨2, (some 24), .mv (.tmp 8), none, []⟩,
 ⟨3, (some 25), .mv (.tmp 6), none, []⟩,
 ⟨4, (some 26), .call 172 [(.tmp 22), (.tmp 23), (.tmp 24), (.tmp 25)], none, []⟩]))
 (.reg [⟨0, (some 20), .mv (.tmp 9), none, []⟩,
 ⟨1, (some 21), .bin .sub 3 true (.tmp 20) (.con (.int .i64 1)), none, []⟩,
 ⟨2, (some 9), .mv (.tmp 21), none, []⟩]))))))
 (.seq (.reg [⟨0, (some 27), .mv (.tmp 8), none, []⟩,
 ⟨1, (some 28), .bin .sub 3 true (.tmp 27) (.con (.int .i64 1)), none, []⟩,
 ⟨2, (some 10), .mv (.tmp 28), none, []⟩])
 (.block 2
 (.loop
 (.seq (.seq (.reg [⟨0, (some 29), .mv (.tmp 10), none, []⟩,
 ⟨1, (some 30), .bin .geq 3 true (.tmp 29) (.con (.int .i64 0)), none, []⟩])
 (.cond (.tmp 30)
 (.skip)
 (.exit 2)))
 (.seq (.block 3
 (.seq (.reg [⟨0, (some 33), .mv (.tmp 0), none, []⟩,
 ⟨1, (some 34), .mv (.tmp 6), none, []⟩,
 ⟨2, (some 35), .mv (.tmp 0), none, []⟩,
 ⟨3, (some 36), .mv (.tmp 6), none, []⟩,
 ⟨4, (some 37), .mv (.tmp 10), none, []⟩,
 ⟨5, (some 38), .bin .add 3 false (.tmp 36) (.tmp 37), none, []⟩,
 ⟨6, (some 39), .mv (.tmp 0), none, []⟩,
 ⟨7, (some 40), .mv (.tmp 6), none, []⟩,
 ⟨8, (some 41), .mv (.tmp 10), none, []⟩,
 ⟨9, (some 42), .bin .add 3 false (.tmp 40) (.tmp 41), none, []⟩,
 ⟨10, (some 43), .idxA none 1 (.tmp 39) (.tmp 42), none, []⟩,
 ⟨11, (some 44), .load none (.tmp 43), none, []⟩,
 ⟨12, (some 45), .mv (.tmp 0), none, []⟩,
 ⟨13, (some 46), .mv (.tmp 6), none, []⟩,
 ⟨14, (some 47), .idxA none 1 (.tmp 45) (.tmp 46), none, []⟩,
 ⟨15, (some 48), .load none (.tmp 47), none, []⟩,
 ⟨16, (some 49), .idxA none 1 (.tmp 33) (.tmp 34), none, []⟩,
 ⟨17, none, .store 1 (.tmp 49) (.tmp 44), none, []⟩,
 ⟨18, (some 50), .idxA none 1 (.tmp 35) (.tmp 38), none, []⟩,
 ⟨19, none, .store 1 (.tmp 50) (.tmp 48), none, []⟩])
 (.reg [⟨0, (some 51), .mv (.tmp 0), none, []⟩,
 ⟨1, (some 52), .mv (.tmp 7), none, []⟩,
 ⟨2, (some 53), .mv (.tmp 10), none, []⟩,
 ⟨3, (some 54), .mv (.tmp 6), none, []⟩,
 ⟨4, (some 55), .call 172 [(.tmp 51), (.tmp 52), (.tmp 53), (.tmp 54)], none, []⟩])))
 (.reg [⟨0, (some 31), .mv (.tmp 10), none, []⟩,
 ⟨1, (some 32), .bin .sub 3 true (.tmp 31) (.con (.int .i64 1)), none, []⟩,
 ⟨2, (some 10), .mv (.tmp 32), none, []⟩]))))))))),
 []⟩
theorem p_slices_heapSortOrdered_int : prepFun Go.Proofs.Tryz.prog [0, 1, 2] Go.Proofs.Tryz.f142 = some v_slices_heapSortOrdered_int := by kernel_rfl

def v_slices_breakPatternsOrdered_int : VFun :=
⟨.seq (.reg [⟨0, (some 11), .mv (.tmp 2), none, []⟩,
 ⟨1, (some 12), .mv (.tmp 1), none, []⟩,
 ⟨2, (some 13), .bin .sub 3 false (.tmp 11) (.tmp 12), none, []⟩,
 ⟨3, (some 6), .mv (.tmp 13), none, []⟩])
 (.seq (.reg [⟨0, (some 14), .mv (.tmp 6), none, []⟩,
 ⟨1, (some 15), .bin .geq 3 true (.tmp 14) (.con (.int .i64 8)), none, []⟩])
 (.cond (.tmp 15)
 (.seq (.reg [⟨0, (some 16), .mv (.tmp 6), none, []⟩,
 ⟨1, (some 17), .conv 3 239 (.tmp 16), none, []⟩,
 ⟨2, (some 7), .alloc [(.int .u64 0)], none, []⟩,
 ⟨3, none, .store 1 (.tmp 7) (.tmp 17), none, []⟩])
 (.seq (.reg [⟨0, (some 18), .mv (.tmp 6), none, []⟩,
 ⟨1, (some 19), .call 173 [(.tmp 18)], none, []⟩,
 ⟨2, (some 8), .mv (.tmp 19), none, []⟩])
 (.seq (.reg [⟨0, (some 20), .mv (.tmp 1), none, []⟩,
 ⟨1, (some 21), .mv (.tmp 6), none, []⟩,
 ⟨2, (some 22), .bin .quo 3 true (.tmp 21) (.con (.int .i64 4)), none, []⟩,
 ⟨3, (some 23), .bin .mul 3 true (.tmp 22) (.con (.int .i64 2)), none, []⟩,
 ⟨4, (some 24), .bin .add 3 false (.tmp 20) (.tmp 23), none, []⟩,
 ⟨5, (some 25), .bin .sub 3 true (.tmp 24) (.con (.int .i64 1)), none, []⟩,
 ⟨6, (some 9), .mv (.tmp 25), none, []⟩])
 (.block 0
 (.loop
 (.seq (.seq (.reg [⟨0, (some 26), .mv (.tmp 9), none, []⟩,
 ⟨1, (some 27), .mv (.tmp 1), none, []⟩,
 ⟨2, (some 28), .mv (.tmp 6), none, []⟩,
 ⟨3, (some 29), .bin .quo 3 true (.tmp 28) (.con (.int .i64 4)), none, []⟩,
 ⟨4, (some 30), .bin .mul 3 true (.tmp 29) (.con (.int .i64 2)), none, []⟩,
 ⟨5, (some 31), .bin .add 3 false (.tmp 27) (.tmp 30), none, []⟩,
 ⟨6, (some 32), .bin .add 3 true (.tmp 31) (.con (.int .i64 1)), none, []⟩,
 ⟨7, (some 33), .bin .leq 3 false (.tmp 26) (.tmp 32), none, []⟩])
 (.cond (.tmp 33)
 (.skip)
 (.exit 0)))
 (.seq (.block 1
 (.seq (.reg [⟨0, (some 36), .call 174 [(.tmp 7)], none, []⟩,
 ⟨1, (some 37), .mv (.tmp 8), none, []⟩,
 ⟨2, (some 38), .bin .sub 147 true (.tmp 37) (.con (.int .u64 1)), none, []⟩,
 ⟨3, (some 39), .bin .and 147 false (.tmp 36) (.tmp 38), none, []⟩,
 ⟨4, (some 40), .conv 147 3 (.tmp 39), none, []⟩,
 ⟨5, (some 10), .mv (.tmp 40), none, []⟩])
 (.seq (.seq (.reg [⟨0, (some 41), .mv (.tmp 10), none, []⟩,
 ⟨1, (some 42), .mv (.tmp 6), none, []⟩,
 ⟨2, (some 43), .bin .geq 3 false (.tmp 41) (.tmp 42), none, []⟩])
 (.cond (.tmp 43)
 (.reg [⟨0, (some 44), .mv (.tmp 10), none, []⟩,
 ⟨1, (some 45), .mv (.tmp 6), none, []⟩,
 ⟨2, (some 46), .bin .sub 3 false (.tmp 44) (.tmp 45), none, []⟩,
 ⟨3, (some 10), .mv (.tmp 46), none, []⟩])
 (.skip)))
 (.reg [⟨0, (some 47), .mv (.tmp 0), none, []⟩,
 ⟨1, (some 48), .mv (.tmp 9), none, []⟩,
 ⟨2, (some 49), .mv (.tmp 0), none, []⟩,
 ⟨3, (some 50), .mv (.tmp 1), none, []⟩,
 ⟨4, (some 51), .mv (.tmp 10), none, []⟩,
 ⟨5, (some 52), .bin .add 3 false (.tmp 50) (.tmp 51), none, []⟩,
 ⟨6, (some 53), .mv (.tmp 0), none, []⟩,
 ⟨7, (some 54), .mv (.tmp 1), none, []⟩,
 ⟨8, (some 55), .mv (.tmp 10), none, []⟩,
 ⟨9, (some 56), .bin .add 3 false (.tmp 54) (.tmp 55), none, []⟩,
 ⟨10, (some 57), .idxA none 1 (.tmp 53) (.tmp 56), none, []⟩,
 ⟨11, (some 58), .load none (.tmp 57), none, []⟩,
 ⟨12, (some 59), .mv (.tmp 0), none, []⟩,
 ⟨13, (some 60), .mv (.tmp 9), none, []⟩,
 ⟨14, (some 61), .idxA none 1 (.tmp 59) (.tmp 60), none, []⟩,
 ⟨15, (some 62), .load none (.tmp 61), none, []⟩,
 ⟨16, (some 63), .idxA none 1 (.tmp 47) (.tmp 48), none, []⟩,
 ⟨17, none, .store 1 (.tmp 63) (.tmp 58), none, []⟩,
 ⟨18, (some 64), .idxA none 1 (.tmp 49) (.tmp 52), none, []⟩,
 ⟨19, none, .store 1 (.tmp 64) (.tmp 62), none, []⟩]))))
 (.reg [⟨0, (some 34), .mv (.tmp 9), none, []⟩,
 ⟨1, (some 35), .bin .add 3 true (.tmp 34) (.con (.int .i64 1)), none, []⟩,
 ⟨2, (some 9), .mv (.tmp 35), none, []⟩]))))))))
 (.skip))),
 []⟩
theorem p_slices_breakPatternsOrdered_int : prepFun Go.Proofs.Tryz.prog [0, 1, 2] Go.Proofs.Tryz.f143 = some v_slices_breakPatternsOrdered_int := by kernel_rfl

def v_slices_choosePivotOrdered_int : VFun :=
⟨.seq (.reg [⟨0, (some 6), .mv (.con (.int .i64 0)), none, []⟩,
 ⟨1, (some 7), .mv (.con (.int .i64 0)), none, []⟩])
 (.seq (.reg [⟨0, (some 13), .mv (.tmp 2), none, []⟩,
 ⟨1, (some 14), .mv (.tmp 1), none, []⟩,
 ⟨2, (some 15), .bin .sub 3 false (.tmp 13) (.tmp 14), none, []⟩,
 ⟨3, (some 8), .mv (.tmp 15), none, []⟩])
 (.seq (.reg [⟨0, (some 9), .alloc [(.int .i64 0)], none, []⟩])
 (.seq (.reg [⟨0, (some 16), .mv (.tmp 1), none, []⟩,
 ⟨1, (some 17), .mv (.tmp 8), none, []⟩,
 ⟨2, (some 18), .bin .quo 3 true (.tmp 17) (.con (.int .i64 4)), none, []⟩,
 ⟨3, (some 19), .bin .mul 3 true (.tmp 18) (.con (.int .i64 1)), none, []⟩,
 ⟨4, (some 20), .bin .add 3 false (.tmp 16) (.tmp 19), none, []⟩,
 ⟨5, (some 10), .mv (.tmp 20), none, []⟩])
 (.seq (.reg [⟨0, (some 21), .mv (.tmp 1), none, []⟩,
 ⟨1, (some 22), .mv (.tmp 8), none, []⟩,
 ⟨2, (some 23), .bin .quo 3 true (.tmp 22) (.con (.int .i64 4)), none, []⟩,
 ⟨3, (some 24), .bin .mul 3 true (.tmp 23) (.con (.int .i64 2)), none, []⟩,
 ⟨4, (some 25), .bin .add 3 false (.tmp 21) (.tmp 24), none, []⟩,
 ⟨5, (some 11), .mv (.tmp 25), none, []⟩])
 (.seq (.reg [⟨0, (some 26), .mv (.tmp 1), none, []⟩,
 ⟨1, (some 27), .mv (.tmp 8), none, []⟩,
 ⟨2, (some 28), .bin .quo 3 true (.tmp 27) (.con (.int .i64 4)), none, []⟩,
 ⟨3, (some 29), .bin .mul 3 true (.tmp 28) (.con (.int .i64 3)), none, []⟩,
 ⟨4, (some 30), .bin .add 3 false (.tmp 26) (.tmp 29), none, []⟩,
 ⟨5, (some 12), .mv (.tmp 30), none, []⟩])
 (.seq (.seq (.reg [⟨0, (some 31), .mv (.tmp 8), none, []⟩,
 ⟨1, (some 32), .bin .geq 3 true (.tmp 31) (.con (.int .i64 8)), none, []⟩])
 (.cond (.tmp 32)
 (.seq (.seq (.reg [⟨0, (some 33), .mv (.tmp 8), none, []⟩,
 ⟨1, (some 34), .bin .geq 3 true (.tmp 33) (.con (.int .i64 50)), none, []⟩])
 (.cond (.tmp 34)
 (.seq (.reg [⟨0, (some 35), .mv (.tmp 0), none, []⟩,
 ⟨1, (some 36), .mv (.tmp 10), none, []⟩,
 ⟨2, (some 37), .call 175 [(.tmp 35), (.tmp 36), (.tmp 9)], none, []⟩,
 ⟨3, (some 10), .mv (.tmp 37), none, []⟩])
 (.seq (.reg [⟨0, (some 38), .mv (.tmp 0), none, []⟩,
 ⟨1, (some 39), .mv (.tmp 11), none, []⟩,
 ⟨2, (some 40), .call 175 [(.tmp 38), (.tmp 39), (.tmp 9)], none, []⟩,
 ⟨3, (some 11), .mv (.tmp 40), none, []⟩])
 (.reg [⟨0, (some 41), .mv (.tmp 0), none, []⟩,
 ⟨1, (some 42), .mv (.tmp 12), none, []⟩,
 ⟨2, (some 43), .call 175 [(.tmp 41), (.tmp 42), (.tmp 9)], none, []⟩,
 ⟨3, (some 12), .mv (.tmp 43), none, []⟩])))
 (.skip)))
 (.reg [⟨0, (some 44), .mv (.tmp 0), none, []⟩,
 ⟨1, (some 45), .mv (.tmp 10), none, []⟩,
 ⟨2, (some 46), .mv (.tmp 11), none, []⟩,
 ⟨3, (some 47), .mv (.tmp 12), none, []⟩,
 ⟨4, (some 48), .call 176 [(.tmp 44), (.tmp 45), (.tmp 46), (.tmp 47), (.tmp 9)], none, []⟩,
 ⟨5, (some 11), .mv (.tmp 48), none, []⟩]))
 (.skip)))
 (.seq (.reg [⟨0, (some 49), .load none (.tmp 9), none, []⟩])
 (.block 0
 (.seq (.reg [⟨0, (some 52), .bin .eql 3 true (.tmp 49) (.con (.int .i64 0)), none, []⟩,
 ⟨1, (some 51), .mv (.tmp 52), none, []⟩])
 (.cond (.tmp 51)
 (.seq (.reg [⟨0, (some 53), .mv (.tmp 11), none, []⟩,
 ⟨1, (some 6), .mv (.tmp 53), none, []⟩,
 ⟨2, (some 7), .mv (.con (.int .i64 1)), none, []⟩])
 (.ret))
 (.seq (.reg [⟨0, (some 55), .bin .eql 3 true (.tmp 49) (.con (.int .i64 12)), none, []⟩,
 ⟨1, (some 54), .mv (.tmp 55), none, []⟩])
 (.cond (.tmp 54)
 (.seq (.reg [⟨0, (some 56), .mv (.tmp 11), none, []⟩,
 ⟨1, (some 6), .mv (.tmp 56), none, []⟩,
 ⟨2, (some 7), .mv (.con (.int .i64 2)), none, []⟩])
 (.ret))
 (.seq (.reg [⟨0, (some 50), .mv (.tmp 11), none, []⟩,
 ⟨1, (some 6), .mv (.tmp 50), none, []⟩,
 ⟨2, (some 7), .mv (.con (.int .i64 0)), none, []⟩])
 (.ret)))))))))))))),
 [.tmp 6, .tmp 7]⟩
theorem p_slices_choosePivotOrdered_int : prepFun Go.Proofs.Tryz.prog [0, 1, 2] Go.Proofs.Tryz.f144 = some v_slices_choosePivotOrdered_int := by kernel_rfl

def v_slices_reverseRangeOrdered_int : VFun :=
⟨.seq (.reg [⟨0, (some 8), .mv (.tmp 1), none, []⟩,
 ⟨1, (some 6), .mv (.tmp 8), none, []⟩])
 (.seq (.reg [⟨0, (some 9), .mv (.tmp 2), none, []⟩,
 ⟨1, (some 10), .bin .sub 3 true (.tmp 9) (.con (.int .i64 1)), none, []⟩,
 ⟨2, (some 7), .mv (.tmp 10), none, []⟩])
 (.block 0
 (.loop
 (.seq (.seq (.reg [⟨0, (some 11), .mv (.tmp 6), none, []⟩,
 ⟨1, (some 12), .mv (.tmp 7), none, []⟩,
 ⟨2, (some 13), .bin .lss 3 false (.tmp 11) (.tmp 12), none, []⟩])
 (.cond (.tmp 13)
 (.skip)
 (.exit 0)))
 (.block 1
 (.seq (.reg [⟨0, (some 14), .mv (.tmp 0), none, []⟩,
 ⟨1, (some 15), .mv (.tmp 6), none, []⟩,
 ⟨2, (some 16), .mv (.tmp 0), none, []⟩,
 ⟨3, (some 17), .mv (.tmp 7), none, []⟩,
 ⟨4, (some 18), .mv (.tmp 0), none, []⟩,
 ⟨5, (some 19), .mv (.tmp 7), none, []⟩,
 ⟨6, (some 20), .idxA none 1 (.tmp 18) (.tmp 19), none, []⟩,
 ⟨7, (some 21), .load none (.tmp 20), none, []⟩,
 ⟨8, (some 22), .mv (.tmp 0), none, []⟩,
 ⟨9, (some 23), .mv (.tmp 6), none, []⟩,
 ⟨10, (some 24), .idxA none 1 (.tmp 22) (.tmp 23), none, []⟩,
 ⟨11, (some 25), .load none (.tmp 24), none, []⟩,
 ⟨12, (some 26), .idxA none 1 (.tmp 14) (.tmp 15), none, []⟩,
 ⟨13, none, .store 1 (.tmp 26) (.tmp 21), none, []⟩,
 ⟨14, (some 27), .idxA none 1 (.tmp 16) (.tmp 17), none, []⟩,
 ⟨15, none, .store 1 (.tmp 27) (.tmp 25), none, []⟩])
 (.seq (.reg [⟨0, (some 28), .mv (.tmp 6), none, []⟩,
 ⟨1, (some 29), .bin .add 3 true (.tmp 28) (.con (.int .i64 1)), none, []⟩,
 ⟨2, (some 6), .mv (.tmp 29), none, []⟩])
 (.reg [⟨0, (some 30), .mv (.tmp 7), none, []⟩,
 ⟨1, (some 31), .bin .sub 3 true (.tmp 30) (.con (.int .i64 1)), none, []⟩,
 ⟨2, (some 7), .mv (.tmp 31), none, []⟩])))))))),
 []⟩
theorem p_slices_reverseRangeOrdered_int : prepFun Go.Proofs.Tryz.prog [0, 1, 2] Go.Proofs.Tryz.f145 = some v_slices_reverseRangeOrdered_int := by kernel_rfl

def v_slices_partialInsertionSortOrdered_int : VFun :=
⟨.seq (.reg [⟨0, (some 6), .mv (.con (.bool false)), none, []⟩])
 (.seq (.reg [⟨0, (some 11), .mv (.tmp 1), none, []⟩,
 ⟨1, (some 12), .bin .add 3 true (.tmp 11) (.con (.int .i64 1)), none, []⟩,
 ⟨2, (some 7), .mv (.tmp 12), none, []⟩])
 (.seq (.seq (.reg [⟨0, (some 8), .mv (.con (.int .i64 0)), none, []⟩])
 (.block 0
 (.loop
 (.seq (.seq (.reg [⟨0, (some 13), .mv (.tmp 8), none, []⟩,
 ⟨1, (some 14), .bin .lss 3 true (.tmp 13) (.con (.int .i64 5)), none, []⟩])
 (.cond (.tmp 14)
 (.skip)
 (.exit 0)))
 (.seq (.block 1
 (.seq (.block 2
 (.loop
 (.seq (.seq (.reg [⟨0, (some 17), .mv (.tmp 7), none, []⟩,
 ⟨1, (some 18), .mv (.tmp 2), none, []⟩,
 ⟨2, (some 19), .bin .lss 3 false (.tmp 17) (.tmp 18), none, []⟩,
 ⟨3, (some 20), .mv (.tmp 19), none, []⟩,
 ⟨4, (some 21), .mv (.tmp 0), (some (20, true)), []⟩,
 ⟨5, (some 22), .mv (.tmp 7), (some (20, true)), []⟩,
 ⟨6, (some 23), .idxA none 1 (.tmp 21) (.tmp 22), (some (20, true)), []⟩,
 ⟨7, (some 24), .load none (.tmp 23), (some (20, true)), []⟩,
 ⟨8, (some 25), .mv (.tmp 0), (some (20, true)), []⟩,
 ⟨9, (some 26), .mv (.tmp 7), (some (20, true)), []⟩,
 ⟨10, (some 27), .bin .sub 3 true (.tmp 26) (.con (.int .i64 1)), (some (20, true)), []⟩,
 ⟨11, (some 28), .idxA none 1 (.tmp 25) (.tmp 27), (some (20, true)), []⟩,
 ⟨12, (some 29), .load none (.tmp 28), (some (20, true)), []⟩,
 ⟨13, (some 30), .call 147 [(.tmp 24), (.tmp 29)], (some (20, true)), []⟩,
 ⟨14, (some 31), .un .not (.tmp 30), (some (20, true)), []⟩,
 ⟨15, (some 32), .pick (.tmp 20) (.tmp 31) (.con (.bool false)), none, []⟩])
 (.cond (.tmp 32)
 (.skip)
 (.exit 2)))
 (.block 3
 (.reg [⟨0, (some 33), .mv (.tmp 7), none, []⟩,
 ⟨1, (some 34), .bin .add 3 true (.tmp 33) (.con (.int .i64 1)), none, []⟩,
 ⟨2, (some 7), .mv (.tmp 34), none, []⟩])))))
 (.seq (.seq (.reg [⟨0, (some 35), .mv (.tmp 7), none, []⟩,
 ⟨1, (some 36), .mv (.tmp 2), none, []⟩,
 ⟨2, (some 37), .bin .eql 3 false (.tmp 35) (.tmp 36), none, []⟩])
 (.cond (.tmp 37)
 (.seq (.reg [⟨0, (some 6), .mv (.con (.bool true)), none, []⟩])
 (.ret))
 (.skip)))
 (.seq (.seq (.reg [⟨0, (some 38), .mv (.tmp 2), none, []⟩,
 ⟨1, (some 39), .mv (.tmp 1), none, []⟩,
 ⟨2, (some 40), .bin .sub 3 false (.tmp 38) (.tmp 39), none, []⟩,
 ⟨3, (some 41), .bin .lss 3 true (.tmp 40) (.con (.int .i64 50)), none, []⟩])
 (.cond (.tmp 41)
 (.seq (.reg [⟨0, (some 6), .mv (.con (.bool false)), none, []⟩])
 (.ret))
 (.skip)))
 (.seq (.reg [⟨0, (some 42), .mv (.tmp 0), none, []⟩,
 ⟨1, (some 43), .mv (.tmp 7), none, []⟩,
 ⟨2, (some 44), .mv (.tmp 0), none, []⟩,
 ⟨3, (some 45), .mv (.tmp 7), none, []⟩,
 ⟨4, (some 46), .bin .sub 3 true (.tmp 45) (.con (.int .i64 1)), none, []⟩,
 ⟨5, (some 47), .mv (.tmp 0), none, []⟩,
 ⟨6, (some 48), .mv (.tmp 7), none, []⟩,
 ⟨7, (some 49), .bin .sub 3 true (.tmp 48) (.con (.int .i64 1)), none, []⟩,
 ⟨8, (some 50), .idxA none 1 (.tmp 47) (.tmp 49), none, []⟩,
 ⟨9, (some 51), .load none (.tmp 50), none, []⟩,
 ⟨10, (some 52), .mv (.tmp 0), none, []⟩,
 ⟨11, (some 53), .mv (.tmp 7), none, []⟩,
 ⟨12, (some 54), .idxA none 1 (.tmp 52) (.tmp 53), none, []⟩,
 ⟨13, (some 55), .load none (.tmp 54), none, []⟩,
 ⟨14, (some 56), .idxA none 1 (.tmp 42) (.tmp 43), none, []⟩,
 ⟨15, none, .store 1 (.tmp 56) (.tmp 51), none, []⟩,
 ⟨16, (some 57), .idxA none 1 (.tmp 44) (.tmp 46), none, []⟩,
 ⟨17, none, .store 1 (.tmp 57) (.tmp 55), none, []⟩])
 (.seq (.seq (.reg [⟨0, (some 58), .mv (.tmp 7), none, []⟩,
 ⟨1, (some 59), .mv (.tmp 1), none, []⟩,
 ⟨2, (some 60), .bin .sub 3 false (.tmp 58) (.tmp 59), none, []⟩,
 ⟨3, (some 61), .bin .geq 3 true (.tmp 60) (.con (.int .i64 2)), none, []⟩])
 (.cond (.tmp 61)
 (.seq (.reg [⟨0, (some 62), .mv (.tmp 7), none, []⟩,
 ⟨1, (some 63), .bin .sub 3 true (.tmp 62) (.con (.int .i64 1)), none, []⟩,
 ⟨2, (some 9), .mv (.tmp 63), none, []⟩])
 (.block 4
 (.loop
 (.seq (.seq (.reg [⟨0, (some 64), .mv (.tmp 9), none, []⟩,
 ⟨1, (some 65), .bin .geq 3 true (.tmp 64) (.con (.int .i64 1)), none, []⟩])
 (.cond (.tmp 65)
 (.skip)
 (.exit 4)))
 (.seq (.block 5
 (.seq (.seq (.reg [⟨0, (some 68), .mv (.tmp 0), none, []⟩,
 ⟨1, (some 69), .mv (.tmp 9), none, []⟩,
 ⟨2, (some 70), .idxA none 1 (.tmp 68) (.tmp 69), none, []⟩,
 ⟨3, (some 71), .load none (.tmp 70), none, []⟩,
 ⟨4, (some 72), .mv (.tmp 0), none, []⟩,
 ⟨5, (some 73), .mv (.tmp 9), none, []⟩,
 ⟨6, (some 74), .bin .sub 3 true (.tmp 73) (.con (.int .i64 1)), none, []⟩,
 ⟨7, (some 75), .idxA none 1 (.tmp 72) (.tmp 74), none, []⟩,
 ⟨8, (some 76), .load none (.tmp 75), none, []⟩,
 ⟨9, (some 77), .call 147 [(.tmp 71), (.tmp 76)], none, []⟩,
 ⟨10, (some 78), .un .not (.tmp 77), none, []⟩])
 (.cond (.tmp 78)
 (.exit 4)
 (.skip)))
 (.reg [⟨0, (some 79), .mv (.tmp 0), none, []⟩,
 ⟨1, (some 80), .mv (.tmp 9), none, []⟩,
 ⟨2, (some 81), .mv (.tmp 0), none, []⟩,
 ⟨3, (some 82), .mv (.tmp 9), none, []⟩,
 ⟨4, (some 83), .bin .sub 3 true (.tmp 82) (.con (.int .i64 1)), none, []⟩,
 ⟨5, (some 84), .mv (.tmp 0), none, []⟩,
 ⟨6, (some 85), .mv (.tmp 9), none, []⟩,
 ⟨7, (some 86), .bin .sub 3 true (.tmp 85) (.con (.int .i64 1)), none, []⟩,
 ⟨8, (some 87), .idxA none 1 (.tmp 84) (.tmp 86), none, []⟩,
 ⟨9, (some 88), .load none (.tmp 87), none, []⟩,
 ⟨10, (some 89), .mv (.tmp 0), none, []⟩,
 ⟨11, (some 90), .mv (.tmp 9), none, []⟩,
 ⟨12, (some 91), .idxA none 1 (.tmp 89) (.tmp 90), none, []⟩,
 ⟨13, (some 92), .load none (.tmp 91), none, []⟩,
 ⟨14, (some 93), .idxA none 1 (.tmp 79) (.tmp 80), none, []⟩,
 ⟨15, none, .store 1 (.tmp 93) (.tmp 88), none, []⟩,
 ⟨16, (some 94), .idxA none 1 (.tmp 81) (.tmp 83), none, []⟩,
 ⟨17, none, .store 1 (.tmp 94) (.tmp 92), none, []⟩])))
 (.reg [⟨0, (some 66), .mv (.tmp 9), none, []⟩,
 ⟨1, (some 67), .bin .sub 3 true (.tmp 66) (.con (.int .i64 1)), none, []⟩,
 ⟨2, (some 9), .mv (.tmp 67), none, []⟩]))))))
 (.skip)))
 (.seq (.reg [⟨0, (some 95), .mv (.tmp 2), none, []⟩,
 ⟨1, (some 96), .mv (.tmp 7), none, []⟩,
 ⟨2, (some 97), .bin .sub 3 false (.tmp 95) (.tmp 96), none, []⟩,
 ⟨3, (some 98), .bin .geq 3 true (.tmp 97) (.con (.int .i64 2)), none, []⟩])
 (.cond (.tmp 98)
 (.seq (.reg [⟨0, (some 99), .mv (.tmp 7), none, []⟩,
 ⟨1, (some 100), .bin .add 3 true (.tmp 99) (.con (.int .i64 1)), none, []⟩,
 ⟨2, (some 10), .mv (.tmp 100), none, []⟩])
 (.block 6
 (.loop
 (.seq (.seq (.reg [⟨0, (some 101), .mv (.tmp 10), none, []⟩,
 ⟨1, (some 102), .mv (.tmp 2), none, []⟩,
 ⟨2, (some 103), .bin .lss 3 false (.tmp 101) (.tmp 102), none, []⟩])
 (.cond (.tmp 103)
 (.skip)
 (.exit 6)))
 (.seq (.block 7
 (.seq (.seq (.reg [⟨0, (some 106), .mv (.tmp 0), none, []⟩,
 ⟨1, (some 107), .mv (.tmp 10), none, []⟩,
 ⟨2, (some 108), .idxA none 1 (.tmp 106) (.tmp 107), none, []⟩,
 ⟨3, (some 109), .load none (.tmp 108), none, []⟩,
 ⟨4, (some 110), .mv (.tmp 0), none, []⟩,
 ⟨5, (some 111), .mv (.tmp 10), none, []⟩,
 ⟨6, (some 112), .bin .sub 3 true (.tmp 111) (.con (.int .i64 1)), none, []⟩,
 ⟨7, (some 113), .idxA none 1 (.tmp 110) (.tmp 112), none, []⟩,
 ⟨8, (some 114), .load none (.tmp 113), none, []⟩,
 ⟨9, (some 115), .call 147 [(.tmp 109), (.tmp 114)], none, []⟩,
 ⟨10, (some 116), .un .not (.tmp 115), none, []⟩])
 (.cond (.tmp 116)
 (.exit 6)
 (.skip)))
 (.reg [⟨0, (some 117), .mv (.tmp 0), none, []⟩,
 ⟨1, (some 118), .mv (.tmp 10), none, []⟩,
 ⟨2, (some 119), .mv (.tmp 0), none, []⟩,
 ⟨3, (some 120), .mv (.tmp 10), none, []⟩,
 ⟨4, (some 121), .bin .sub 3 true (.tmp 120) (.con (.int .i64 1)), none, []⟩,
 ⟨5, (some 122), .mv (.tmp 0), none, []⟩,
 ⟨6, (some 123), .mv (.tmp 10), none, []⟩,
 ⟨7, (some 124), .bin .sub 3 true (.tmp 123) (.con (.int .i64 1)), none, []⟩,
 ⟨8, (some 125), .idxA none 1 (.tmp 122) (.tmp 124), none, []⟩,
 ⟨9, (some 126), .load none (.tmp 125), none, []⟩,
 ⟨10, (some 127), .mv (.tmp 0), none, []⟩,
 ⟨11, (some 128), .mv (.tmp 10), none, []⟩,
 ⟨12, (some 129), .idxA none 1 (.tmp 127) (.tmp 128), none, []⟩,
 ⟨13, (some 130), .load none (.tmp 129), none, []⟩,
 ⟨14, (some 131), .idxA none 1 (.tmp 117) (.tmp 118), none, []⟩,
 ⟨15, none, .store 1 (.tmp 131) (.tmp 126), none, []⟩,
 ⟨16, (some 132), .idxA none 1 (.tmp 119) (.tmp 121), none, []⟩,
 ⟨17, none, .store 1 (.tmp 132) (.tmp 130), none, []⟩])))
 (.reg [⟨0, (some 104), .mv (.tmp 10), none, []⟩,
 ⟨1, (some 105), .bin .add 3 true (.tmp 104) (.con (.int .i64 1)), none, []⟩,
 ⟨2, (some 10), .mv (.tmp 105), none, []⟩]))))))
 (.skip)))))))))
 (.reg [⟨0, (some 15), .mv (.tmp 8), none, []⟩,
 ⟨1, (some 16), .bin .add 3 true (.tmp 15) (.con (.int .i64 1)), none, []⟩,
 ⟨2, (some 8), .mv (.tmp 16), none, []⟩]))))))
 (.seq (.reg [⟨0, (some 6), .mv (.con (.bool false)), none, []⟩])
 (.ret)))),
 [.tmp 6]⟩
theorem p_slices_partialInsertionSortOrdered_int : prepFun Go.Proofs.Tryz.prog [0, 1, 2] Go.Proofs.Tryz.f146 = some v_slices_partialInsertionSortOrdered_int := by kernel_rfl

def v_cmp_Less_int : VFun :=
⟨.seq (.reg [⟨0, (some 4), .mv (.con (.bool false)), none, []⟩])
 (.seq (.reg [⟨0, (some 5), .mv (.tmp 0), none, []⟩,
 ⟨1, (some 6), .call 177 [(.tmp 5)], none, []⟩,
 ⟨2, (some 7), .mv (.tmp 6), none, []⟩,
 ⟨3, (some 8), .mv (.tmp 1), (some (7, true)), []⟩,
 ⟨4, (some 9), .call 177 [(.tmp 8)], (some (7, true)), []⟩,
 ⟨5, (some 10), .un .not (.tmp 9), (some (7, true)), []⟩,
 ⟨6, (some 11), .pick (.tmp 7) (.tmp 10) (.con (.bool false)), none, []⟩,
 ⟨7, (some 12), .mv (.tmp 11), none, []⟩,
 ⟨8, (some 13), .mv (.tmp 0), (some (12, false)), []⟩,
 ⟨9, (some 14), .mv (.tmp 1), (some (12, false)), []⟩,
 ⟨10, (some 15), .bin .lss 3 false (.tmp 13) (.tmp 14), (some (12, false)), []⟩,
 ⟨11, (some 16), .pick (.tmp 12) (.con (.bool true)) (.tmp 15), none, []⟩,
 ⟨12, (some 4), .mv (.tmp 16), none, []⟩])
 (.ret)),
 [.tmp 4]⟩
theorem p_cmp_Less_int : prepFun Go.Proofs.Tryz.prog [0, 1, 2] Go.Proofs.Tryz.f147 = some v_cmp_Less_int := by kernel_rfl

def v_slices_partitionEqualOrdered_int : VFun :=
⟨.seq (.reg [⟨0, (some 8), .mv (.con (.int .i64 0)), none, []⟩])
 (.seq (.reg [⟨0, (some 11), .mv (.tmp 0), none, []⟩,
 ⟨1, (some 12), .mv (.tmp 1), none, []⟩,
 ⟨2, (some 13), .mv (.tmp 0), none, []⟩,
 ⟨3, (some 14), .mv (.tmp 3), none, []⟩,
 ⟨4, (some 15), .mv (.tmp 0), none, []⟩,
 ⟨5, (some 16), .mv (.tmp 3), none, []⟩,
 ⟨6, (some 17), .idxA none 1 (.tmp 15) (.tmp 16), none, []⟩,
 ⟨7, (some 18), .load none (.tmp 17), none, []⟩,
 ⟨8, (some 19), .mv (.tmp 0), none, []⟩,
 ⟨9, (some 20), .mv (.tmp 1), none, []⟩,
 ⟨10, (some 21), .idxA none 1 (.tmp 19) (.tmp 20), none, []⟩,
 ⟨11, (some 22), .load none (.tmp 21), none, []⟩,
 ⟨12, (some 23), .idxA none 1 (.tmp 11) (.tmp 12), none, []⟩,
 ⟨13, none, .store 1 (.tmp 23) (.tmp 18), none, []⟩,
 ⟨14, (some 24), .idxA none 1 (.tmp 13) (.tmp 14), none, []⟩,
 ⟨15, none, .store 1 (.tmp 24) (.tmp 22), none, []⟩])
 (.seq (.reg [⟨0, (some 25), .mv (.tmp 1), none, []⟩,
 ⟨1, (some 26), .bin .add 3 true (.tmp 25) (.con (.int .i64 1)), none, []⟩,
 ⟨2, (some 27), .mv (.tmp 2), none, []⟩,
 ⟨3, (some 28), .bin .sub 3 true (.tmp 27) (.con (.int .i64 1)), none, []⟩,
 ⟨4, (some 9), .mv (.tmp 26), none, []⟩,
 ⟨5, (some 10), .mv (.tmp 28), none, []⟩])
 (.seq (.block 0
 (.loop
 (.block 1
 (.seq (.block 2
 (.loop
 (.seq (.seq (.reg [⟨0, (some 29), .mv (.tmp 9), none, []⟩,
 ⟨1, (some 30), .mv (.tmp 10), none, []⟩,
 ⟨2, (some 31), .bin .leq 3 false (.tmp 29) (.tmp 30), none, []⟩,
 ⟨3, (some 32), .mv (.tmp 31), none, []⟩,
 ⟨4, (some 33), .mv (.tmp 0), (some (32, true)), []⟩,
 ⟨5, (some 34), .mv (.tmp 1), (some (32, true)), []⟩,
 ⟨6, (some 35), .idxA none 1 (.tmp 33) (.tmp 34), (some (32, true)), []⟩,
 ⟨7, (some 36), .load none (.tmp 35), (some (32, true)), []⟩,
 ⟨8, (some 37), .mv (.tmp 0), (some (32, true)), []⟩,
 ⟨9, (some 38), .mv (.tmp 9), (some (32, true)), []⟩,
 ⟨10, (some 39), .idxA none 1 (.tmp 37) (.tmp 38), (some (32, true)), []⟩,
 ⟨11, (some 40), .load none (.tmp 39), (some (32, true)), []⟩,
 ⟨12, (some 41), .call 147 [(.tmp 36), (.tmp 40)], (some (32, true)), []⟩,
 ⟨13, (some 42), .un .not (.tmp 41), (some (32, true)), []⟩,
 ⟨14, (some 43), .pick (.tmp 32) (.tmp 42) (.con (.bool false)), none, []⟩])
 (.cond (.tmp 43)
 (.skip)
 (.exit 2)))
 (.block 3
 (.reg [⟨0, (some 44), .mv (.tmp 9), none, []⟩,
 ⟨1, (some 45), .bin .add 3 true (.tmp 44) (.con (.int .i64 1)), none, []⟩,
 ⟨2, (some 9), .mv (.tmp 45), none, []⟩])))))
 (.seq (.block 4
 (.loop
 (.seq (.seq (.reg [⟨0, (some 46), .mv (.tmp 9), none, []⟩,
 ⟨1, (some 47), .mv (.tmp 10), none, []⟩,
 ⟨2, (some 48), .bin .leq 3 false (.tmp 46) (.tmp 47), none, []⟩,
 ⟨3, (some 49), .mv (.tmp 48), none, []⟩,
 ⟨4, (some 50), .mv (.tmp 0), (some (49, true)), []⟩,
 ⟨5, (some 51), .mv (.tmp 1), (some (49, true)), []⟩,
 ⟨6, (some 52), .idxA none 1 (.tmp 50) (.tmp 51), (some (49, true)), []⟩,
 ⟨7, (some 53), .load none (.tmp 52), (some (49, true)), []⟩,
 ⟨8, (some 54), .mv (.tmp 0), (some (49, true)), []⟩,
 ⟨9, (some 55), .mv (.tmp 10), (some (49, true)), []⟩,
 ⟨10, (some 56), .idxA none 1 (.tmp 54) (.tmp 55), (some (49, true)), []⟩,
 ⟨11, (some 57), .load none (.tmp 56), (some (49, true)), []⟩,
 ⟨12, (some 58), .call 147 [(.tmp 53), (.tmp 57)], (some (49, true)), []⟩,
 ⟨13, (some 59), .pick (.tmp 49) (.tmp 58) (.con (.bool false)), none, []⟩])
 (.cond (.tmp 59)
 (.skip)
 (.exit 4)))
 (.block 5
 (.reg [⟨0, (some 60), .mv (.tmp 10), none, []⟩,
 ⟨1, (some 61), .bin .sub 3 true (.tmp 60) (.con (.int .i64 1)), none, []⟩,
 ⟨2, (some 10), .mv (.tmp 61), none, []⟩])))))
 (.seq (.seq (.reg [⟨0, (some 62), .mv (.tmp 9), none, []⟩,
 ⟨1, (some 63), .mv (.tmp 10), none, []⟩,
 ⟨2, (some 64), .bin .gtr 3 false (.tmp 62) (.tmp 63), none, []⟩])
 (.cond (.tmp 64)
 (.exit 0)
 (.skip)))
 (.seq (.reg [⟨0, (some 65), .mv (.tmp 0), none, []⟩,
 ⟨1, (some 66), .mv (.tmp 9), none, []⟩,
 ⟨2, (some 67), .mv (.tmp 0), none, []⟩,
 ⟨3, (some 68), .mv (.tmp 10), none, []⟩,
 ⟨4, (some 69), .mv (.tmp 0), none, []⟩,
 ⟨5, (some 70), .mv (.tmp 10), none, []⟩,
 ⟨6, (some 71), .idxA none 1 (.tmp 69) (.tmp 70), none, []⟩,
 ⟨7, (some 72), .load none (.tmp 71), none, []⟩,
 ⟨8, (some 73), .mv (.tmp 0), none, []⟩,
 ⟨9, (some 74), .mv (.tmp 9), none, []⟩,
 ⟨10, (some 75), .idxA none 1 (.tmp 73) (.tmp 74), none, []⟩,
 ⟨11, (some 76), .load none (.tmp 75), none, []⟩,
 ⟨12, (some 77), .idxA none 1 (.tmp 65) (.tmp 66), none, []⟩,
 ⟨13, none, .store 1 (.tmp 77) (.tmp 72), none, []⟩,
 ⟨14, (some 78), .idxA none 1 (.tmp 67) (.tmp 68), none, []⟩,
 ⟨15, none, .store 1 (.tmp 78) (.tmp 76), none, []⟩])
 (.seq (.reg [⟨0, (some 79), .mv (.tmp 9), none, []⟩,
 ⟨1, (some 80), .bin .add 3 true (.tmp 79) (.con (.int .i64 1)), none, []⟩,
 ⟨2, (some 9), .mv (.tmp 80), none, []⟩])
 (.reg [⟨0, (some 81), .mv (.tmp 10), none, []⟩,
 ⟨1, (some 82), .bin .sub 3 true (.tmp 81) (.con (.int .i64 1)), none, []⟩,
 ⟨2, (some 10), .mv (.tmp 82), none, []⟩])))))))))
 (.seq (.reg [⟨0, (some 83), .mv (.tmp 9), none, []⟩,
 ⟨1, (some 8), .mv (.tmp 83), none, []⟩])
 (.ret))))),
 [.tmp 8]⟩
theorem p_slices_partitionEqualOrdered_int : prepFun Go.Proofs.Tryz.prog [0, 1, 2] Go.Proofs.Tryz.f148 = some v_slices_partitionEqualOrdered_int := by kernel_rfl

def v_slices_partitionOrdered_int : VFun :=
⟨.seq (.reg [⟨0, (some 8), .mv (.con (.int .i64 0)), none, []⟩,
 ⟨1, (some 9), .mv (.con (.bool false)), none, []⟩])
 (.seq (.reg [⟨0, (some 12), .mv (.tmp 0), none, []⟩,
 ⟨1, (some 13), .mv (.tmp 1), none, []⟩,
 ⟨2, (some 14), .mv (.tmp 0), none, []⟩,
 ⟨3, (some 15), .mv (.tmp 3), none, []⟩,
 ⟨4, (some 16), .mv (.tmp 0), none, []⟩,
 ⟨5, (some 17), .mv (.tmp 3), none, []⟩,
 ⟨6, (some 18), .idxA none 1 (.tmp 16) (.tmp 17), none, []⟩,
 ⟨7, (some 19), .load none (.tmp 18), none, []⟩,
 ⟨8, (some 20), .mv (.tmp 0), none, []⟩,
 ⟨9, (some 21), .mv (.tmp 1), none, []⟩,
 ⟨10, (some 22), .idxA none 1 (.tmp 20) (.tmp 21), none, []⟩,
 ⟨11, (some 23), .load none (.tmp 22), none, []⟩,
 ⟨12, (some 24), .idxA none 1 (.tmp 12) (.tmp 13), none, []⟩,
 ⟨13, none, .store 1 (.tmp 24) (.tmp 19), none, []⟩,
 ⟨14, (some 25), .idxA none 1 (.tmp 14) (.tmp 15), none, []⟩,
 ⟨15, none, .store 1 (.tmp 25) (.tmp 23), none, []⟩])
 (.seq (.reg [⟨0, (some 26), .mv (.tmp 1), none, []⟩,
 ⟨1, (some 27), .bin .add 3 true (.tmp 26) (.con (.int .i64 1)), none, []⟩,
 ⟨2, (some 28), .mv (.tmp 2), none, []⟩,
 ⟨3, (some 29), .bin .sub 3 true (.tmp 28) (.con (.int .i64 1)), none, []⟩,
 ⟨4, (some 10), .mv (.tmp 27), none, []⟩,
 ⟨5, (some 11), .mv (.tmp 29), none, []⟩])
 (.seq (.block 0
 (.loop
 (.seq (.seq (.reg [⟨0, (some 30), .mv (.tmp 10), none, []⟩,
 ⟨1, (some 31), .mv (.tmp 11), none, []⟩,
 ⟨2, (some 32), .bin .leq 3 false (.tmp 30) (.tmp 31), none, []⟩,
 ⟨3, (some 33), .mv (.tmp 32), none, []⟩,
 ⟨4, (some 34), .mv (.tmp 0), (some (33, true)), []⟩,
 ⟨5, (some 35), .mv (.tmp 10), (some (33, true)), []⟩,
 ⟨6, (some 36), .idxA none 1 (.tmp 34) (.tmp 35), (some (33, true)), []⟩,
 ⟨7, (some 37), .load none (.tmp 36), (some (33, true)), []⟩,
 ⟨8, (some 38), .mv (.tmp 0), (some (33, true)), []⟩,
 ⟨9, (some 39), .mv (.tmp 1), (some (33, true)), []⟩,
 ⟨10, (some 40), .idxA none 1 (.tmp 38) (.tmp 39), (some (33, true)), []⟩,
 ⟨11, (some 41), .load none (.tmp 40), (some (33, true)), []⟩,
 ⟨12, (some 42), .call 147 [(.tmp 37), (.tmp 41)], (some (33, true)), []⟩,
 ⟨13, (some 43), .pick (.tmp 33) (.tmp 42) (.con (.bool false)), none, []⟩])
 (.cond (.tmp 43)
 (.skip)
 (.exit 0)))
 (.block 1
 (.reg [⟨0, (some 44), .mv (.tmp 10), none, []⟩,
 ⟨1, (some 45), .bin .add 3 true (.tmp 44) (.con (.int .i64 1)), none, []⟩,
 ⟨2, (some 10), .mv (.tmp 45), none, []⟩])))))
 (.seq (.block 2
 (.loop
 (.seq (.seq (.reg [⟨0, (some 46), .mv (.tmp 10), none, []⟩,
 ⟨1, (some 47), .mv (.tmp 11), none, []⟩,
 ⟨2, (some 48), .bin .leq 3 false (.tmp 46) (.tmp 47), none, []⟩,
 ⟨3, (some 49), .mv (.tmp 48), none, []⟩,
 ⟨4, (some 50), .mv (.tmp 0), (some (49, true)), []⟩,
 ⟨5, (some 51), .mv (.tmp 11), (some (49, true)), []⟩,
 ⟨6, (some 52), .idxA none 1 (.tmp 50) (.tmp 51), (some (49, true)), []⟩,
 ⟨7, (some 53), .load none (.tmp 52), (some (49, true)), []⟩,
 ⟨8, (some 54), .mv (.tmp 0), (some (49, true)), []⟩,
 ⟨9, (some 55), .mv (.tmp 1), (some (49, true)), []⟩,
 ⟨10, (some 56), .idxA none 1 (.tmp 54) (.tmp 55), (some (49, true)), []⟩,
 ⟨11, (some 57), .load none (.tmp 56), (some (49, true)), []⟩,
 ⟨12, (some 58), .call 147 [(.tmp 53), (.tmp 57)], (some (49, true)), []⟩,
 ⟨13, (some 59), .un .not (.tmp 58), (some (49, true)), []⟩,
 ⟨14, (some 60), .pick (.tmp 49) (.tmp 59) (.con (.bool false)), none, []⟩])
 (.cond (.tmp 60)
 (.skip)
 (.exit 2)))
 (.block 3
 (.reg [⟨0, (some 61), .mv (.tmp 11), none, []⟩,
 ⟨1, (some 62), .bin .sub 3 true (.tmp 61) (.con (.int .i64 1)), none, []⟩,
 ⟨2, (some 11), .mv (.tmp 62), none, []⟩])))))
 (.seq (.seq (.reg [⟨0, (some 63), .mv (.tmp 10), none, []⟩,
 ⟨1, (some 64), .mv (.tmp 11), none, []⟩,
 ⟨2, (some 65), .bin .gtr 3 false (.tmp 63) (.tmp 64), none, []⟩])
 (.cond (.tmp 65)
 (.seq (.reg [⟨0, (some 66), .mv (.tmp 0), none, []⟩,
 ⟨1, (some 67), .mv (.tmp 11), none, []⟩,
 ⟨2, (some 68), .mv (.tmp 0), none, []⟩,
 ⟨3, (some 69), .mv (.tmp 1), none, []⟩,
 ⟨4, (some 70), .mv (.tmp 0), none, []⟩,
 ⟨5, (some 71), .mv (.tmp 1), none, []⟩,
 ⟨6, (some 72), .idxA none 1 (.tmp 70) (.tmp 71), none, []⟩,
 ⟨7, (some 73), .load none (.tmp 72), none, []⟩,
 ⟨8, (some 74), .mv (.tmp 0), none, []⟩,
 ⟨9, (some 75), .mv (.tmp 11), none, []⟩,
 ⟨10, (some 76), .idxA none 1 (.tmp 74) (.tmp 75), none, []⟩,
 ⟨11, (some 77), .load none (.tmp 76), none, []⟩,
 ⟨12, (some 78), .idxA none 1 (.tmp 66) (.tmp 67), none, []⟩,
 ⟨13, none, .store 1 (.tmp 78) (.tmp 73), none, []⟩,
 ⟨14, (some 79), .idxA none 1 (.tmp 68) (.tmp 69), none, []⟩,
 ⟨15, none, .store 1 (.tmp 79) (.tmp 77), none, []⟩])
 (.seq (.reg [⟨0, (some 80), .mv (.tmp 11), none, []⟩,
 ⟨1, (some 8), .mv (.tmp 80), none, []⟩,
 ⟨2, (some 9), .mv (.con (.bool true)), none, []⟩])
 (.ret)))
 (.skip)))
 (.seq (.reg [⟨0, (some 81), .mv (.tmp 0), none, []⟩,
 ⟨1, (some 82), .mv (.tmp 10), none, []⟩,
 ⟨2, (some 83), .mv (.tmp 0), none, []⟩,
 ⟨3, (some 84), .mv (.tmp 11), none, []⟩,
 ⟨4, (some 85), .mv (.tmp 0), none, []⟩,
 ⟨5, (some 86), .mv (.tmp 11), none, []⟩,
 ⟨6, (some 87), .idxA none 1 (.tmp 85) (.tmp 86), none, []⟩,
 ⟨7, (some 88), .load none (.tmp 87), none, []⟩,
 ⟨8, (some 89), .mv (.tmp 0), none, []⟩,
 ⟨9, (some 90), .mv (.tmp 10), none, []⟩,
 ⟨10, (some 91), .idxA none 1 (.tmp 89) (.tmp 90), none, []⟩,
 ⟨11, (some 92), .load none (.tmp 91), none, []⟩,
 ⟨12, (some 93), .idxA none 1 (.tmp 81) (.tmp 82), none, []⟩,
 ⟨13, none, .store 1 (.tmp 93) (.tmp 88), none, []⟩,
 ⟨14, (some 94), .idxA none 1 (.tmp 83) (.tmp 84), none, []⟩,
 ⟨15, none, .store 1 (.tmp 94) (.tmp 92), none, []⟩])
 (.seq (.reg [⟨0, (some 95), .mv (.tmp 10), none, []⟩,
 ⟨1, (some 96), .bin .add 3 true (.tmp 95) (.con (.int .i64 1)), none, []⟩,
 ⟨2, (some 10), .mv (.tmp 96), none, []⟩])
 (.seq (.reg [⟨0, (some 97), .mv (.tmp 11), none, []⟩,
 ⟨1, (some 98), .bin .sub 3 true (.tmp 97) (.con (.int .i64 1)), none, []⟩,
 ⟨2, (some 11), .mv (.tmp 98), none, []⟩])
 (.seq (.block 4
 (.loop
 (.block 5
 (.seq (.block 6
 (.loop
 (.seq (.seq (.reg [⟨0, (some 99), .mv (.tmp 10), none, []⟩,
 ⟨1, (some 100), .mv (.tmp 11), none, []⟩,
 ⟨2, (some 101), .bin .leq 3 false (.tmp 99) (.tmp 100), none, []⟩,
 ⟨3, (some 102), .mv (.tmp 101), none, []⟩,
 ⟨4, (some 103), .mv (.tmp 0), (some (102, true)), []⟩,
 ⟨5, (some 104), .mv (.tmp 10), (some (102, true)), []⟩,
 ⟨6, (some 105), .idxA none 1 (.tmp 103) (.tmp 104), (some (102, true)), []⟩,
 ⟨7, (some 106), .load none (.tmp 105), (some (102, true)), []⟩,
 ⟨8, (some 107), .mv (.tmp 0), (some (102, true)), []⟩,
 ⟨9, (some 108), .mv (.tmp 1), (some (102, true)), []⟩,
 ⟨10, (some 109), .idxA none 1 (.tmp 107) (.tmp 108), (some (102, true)), []⟩,
 ⟨11, (some 110), .load none (.tmp 109), (some (102, true)), []⟩,
 ⟨12, (some 111), .call 147 [(.tmp 106), (.tmp 110)], (some (102, true)), []⟩,
 ⟨13, (some 112), .pick (.tmp 102) (.tmp 111) (.con (.bool false)), none, []⟩])
 (.cond (.tmp 112)
 (.skip)
 (.exit 6)))
 (.block 7
 (.reg [⟨0, (some 113), .mv (.tmp 10), none, []⟩,
 ⟨1, (some 114), .bin .add 3 true (.tmp 113) (.con (.int .i64 1)), none, []⟩,
 ⟨2, (some 10), .mv (.tmp 114), none, []⟩])))))
 (.seq (.block 8
 (.loop
 (.seq (.seq (.reg [⟨0, (some 115), .mv (.tmp 10), none, []⟩,
 ⟨1, (some 116), .mv (.tmp 11), none, []⟩,
 ⟨2, (some 117), .bin .leq 3 false (.tmp 115) (.tmp 116), none, []⟩,
 ⟨3, (some 118), .mv (.tmp 117), none, []⟩,
 ⟨4, (some 119), .mv (.tmp 0), (some (118, true)), []⟩,
 ⟨5, (some 120), .mv (.tmp 11), (some (118, true)), []⟩,
 ⟨6, (some 121), .idxA none 1 (.tmp 119) (.tmp 120), (some (118, true)), []⟩,
 ⟨7, (some 122), .load none (.tmp 121), (some (118, true)), []⟩,
 ⟨8, (some 123), .mv (.tmp 0), (some (118, true)), []⟩,
 ⟨9, (some 124), .mv (.tmp 1), (some (118, true)), []⟩,
 ⟨10, (some 125), .idxA none 1 (.tmp 123) (.tmp 124), (some (118, true)), []⟩,
 ⟨11, (some 126), .load none (.tmp 125), (some (118, true)), []⟩,
 ⟨12, (some 127), .call 147 [(.tmp 122), (.tmp 126)], (some (118, true)), []⟩,
 ⟨13, (some 128), .un .not (.tmp 127), (some (118, true)), []⟩,
 ⟨14, (some 129), .pick (.tmp 118) (.tmp 128) (.con (.bool false)), none, []⟩])
 (.cond (.tmp 129)
 (.skip)
 (.exit 8)))
 (.block 9
 (.reg [⟨0, (some 130), .mv (.tmp 11), none, []⟩,
 ⟨1, (some 131), .bin .sub 3 true (.tmp 130) (.con (.int .i64 1)), none, []⟩,
 ⟨2, (some 11), .mv (.tmp 131), none, []⟩])))))
 (.seq (.seq (.reg [⟨0, (some 132), .mv (.tmp 10), none, []⟩,
 ⟨1, (some 133), .mv (.tmp 11), none, []⟩,
 ⟨2, (some 134), .bin .gtr 3 false (.tmp 132) (.tmp 133), none, []⟩])
 (.cond (.tmp 134)
 (.exit 4)
 (.skip)))
 (.seq (.reg [⟨0, (some 135), .mv (.tmp 0), none, []⟩,
 ⟨1, (some 136), .mv (.tmp 10), none, []⟩,
 ⟨2, (some 137), .mv (.tmp 0), none, []⟩,
 ⟨3, (some 138), .mv (.tmp 11), none, []⟩,
 ⟨4, (some 139), .mv (.tmp 0), none, []⟩,
 ⟨5, (some 140), .mv (.tmp 11), none, []⟩,
 ⟨6, (some 141), .idxA none 1 (.tmp 139) (.tmp 140), none, []⟩,
 ⟨7, (some 142), .load none (.tmp 141), none, []⟩,
 ⟨8, (some 143), .mv (.tmp 0), none, []⟩,
 ⟨9, (some 144), .mv (.tmp 10), none, []⟩,
 ⟨10, (some 145), .idxA none 1 (.tmp 143) (.tmp 144), none, []⟩,
 ⟨11, (some 146), .load none (.tmp 145), none, []⟩,
 ⟨12, (some 147), .idxA none 1 (.tmp 135) (.tmp 136), none, []⟩,
 ⟨13, none, .store 1 (.tmp 147) (.tmp 142), none, []⟩,
 ⟨14, (some 148), .idxA none 1 (.tmp 137) (.tmp 138), none, []⟩,
 ⟨15, none, .store 1 (.tmp 148) (.tmp 146), none, []⟩])
 (.seq (.reg [⟨0, (some 149), .mv (.tmp 10), none, []⟩,
 ⟨1, (some 150), .bin .add 3 true (.tmp 149) (.con (.int .i64 1)), none, []⟩,
 ⟨2, (some 10), .mv (.tmp 150), none, []⟩])
 (.reg [⟨0, (some 151), .mv (.tmp 11), none, []⟩,
 ⟨1, (some 152), .bin .sub 3 true (.tmp 151) (.con (.int .i64 1)), none, []⟩,
 ⟨2, (some 11), .mv (.tmp 152), none, []⟩])))))))))
 (.seq (.reg [⟨0, (some 153), .mv (.tmp 0), none, []⟩,
 ⟨1, (some 154), .mv (.tmp 11), none, []⟩,
 ⟨2, (some 155), .mv (.tmp 0), none, []⟩,
 ⟨3, (some 156), .mv (.tmp 1), none, []⟩,
 ⟨4, (some 157), .mv (.tmp 0), none, []⟩,
 ⟨5, (some 158), .mv (.tmp 1), none, []⟩,
 ⟨6, (some 159), .idxA none 1 (.tmp 157) (.tmp 158), none, []⟩,
 ⟨7, (some 160), .load none (.tmp 159), none, []⟩,
 ⟨8, (some 161), .mv (.tmp 0), none, []⟩,
 ⟨9, (some 162), .mv (.tmp 11), none, []⟩,
 ⟨10, (some 163), .idxA none 1 (.tmp 161) (.tmp 162), none, []⟩,
 ⟨11, (some 164), .load none (.tmp 163), none, []⟩,
 ⟨12, (some 165), .idxA none 1 (.tmp 153) (.tmp 154), none, []⟩,
 ⟨13, none, .store 1 (.tmp 165) (.tmp 160), none, []⟩,
 ⟨14, (some 166), .idxA none 1 (.tmp 155) (.tmp 156), none, []⟩,
 ⟨15, none, .store 1 (.tmp 166) (.tmp 164), none, []⟩])
 (.seq (.reg [⟨0, (some 167), .mv (.tmp 11), none, []⟩,
 ⟨1, (some 8), .mv (.tmp 167), none, []⟩,
 ⟨2, (some 9), .mv (.con (.bool false)), none, []⟩])
 (.ret)))))))))))),
 [.tmp 8, .tmp 9]⟩
theorem p_slices_partitionOrdered_int : prepFun Go.Proofs.Tryz.prog [0, 1, 2] Go.Proofs.Tryz.f149 = some v_slices_partitionOrdered_int := by kernel_rfl

end Go.VX.Seat
end
