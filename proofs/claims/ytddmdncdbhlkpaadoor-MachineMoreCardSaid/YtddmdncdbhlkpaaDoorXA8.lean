/- A part of the proofs of the statements of one layer: L1, L2, L3, L4, L5, L0. No condition is added here. -/
import Derived.Test.YtddmdncdbhlkpaaDoorChecked
import Derived.Test.YtddmdncdbhlkpaaDoorXA7
section
set_option maxRecDepth 20000
/-! MADE BY PROGRAM (lits.py): functions as they are prepared. -/
namespace Go.VX.Seat
def v_l19_MachineTogether : VFun :=
⟨.seq (.reg [⟨0, (some 2), .box (.tmp 0), none, []⟩,
 ⟨1, (some 4), .mv (.con (.bool false)), none, []⟩])
 (.seq (.reg [⟨0, (some 13), .mv (.tmp 1), none, []⟩,
 ⟨1, (some 14), .call 9 [(.tmp 13)], none, []⟩,
 ⟨2, (some 15), .mv (.tmp 1), none, []⟩,
 ⟨3, (some 16), .call 9 [(.tmp 15)], none, []⟩,
 ⟨4, (some 5), .mv (.tmp 14), none, []⟩,
 ⟨5, (some 6), .mv (.tmp 16), none, []⟩])
 (.seq (.reg [⟨0, (some 18), .load (some 11) (.tmp 2), none, []⟩,
 ⟨1, (some 19), .mv (.tmp 6), none, []⟩,
 ⟨2, (some 20), .call 10 [(.tmp 18), (.tmp 19)], none, []⟩,
 ⟨3, (some 17), .mv (.tmp 20), none, []⟩,
 ⟨4, (some 21), .ext (.tmp 17) 0, none, []⟩,
 ⟨5, (some 22), .ext (.tmp 17) 1, none, []⟩,
 ⟨6, (some 7), .mv (.tmp 21), none, []⟩,
 ⟨7, (some 8), .mv (.tmp 22), none, []⟩])
 (.seq (.reg [⟨0, (some 24), .load (some 11) (.tmp 2), none, []⟩,
 ⟨1, (some 25), .mv (.tmp 6), none, []⟩,
 ⟨2, (some 26), .call 11 [(.tmp 24), (.tmp 25)], none, []⟩,
 ⟨3, (some 23), .mv (.tmp 26), none, []⟩,
 ⟨4, (some 27), .ext (.tmp 23) 0, none, []⟩,
 ⟨5, (some 28), .ext (.tmp 23) 1, none, []⟩,
 ⟨6, (some 9), .mv (.tmp 27), none, []⟩,
 ⟨7, (some 10), .mv (.tmp 28), none, []⟩])
 (.seq (.seq (.reg [⟨0, (some 11), .mv (.con (.int .i64 0)), none, []⟩])
 (.block 0
 (.loop
 (.seq (.seq (.reg [⟨0, (some 29), .mv (.tmp 11), none, []⟩,
 ⟨1, (some 30), .mv (.tmp 5), none, []⟩,
 ⟨2, (some 31), .len (.tmp 30), none, []⟩,
 ⟨3, (some 32), .bin .lss 3 false (.tmp 29) (.tmp 31), none, []⟩])
 (.cond (.tmp 32)
 (.skip)
 (.exit 0)))
 (.seq (.block 1
 (.seq (.reg [⟨0, (some 35), .mv (.tmp 5), none, []⟩,
 ⟨1, (some 36), .mv (.tmp 11), none, []⟩,
 ⟨2, (some 37), .idxA none 7 (.tmp 35) (.tmp 36), none, []⟩,
 ⟨3, (some 38), .load (some 7) (.tmp 37), none, []⟩,
 ⟨4, (some 39), .mv (.tmp 6), none, []⟩,
 ⟨5, (some 40), .mv (.tmp 11), none, []⟩,
 ⟨6, (some 41), .idxA none 7 (.tmp 39) (.tmp 40), none, []⟩,
 ⟨7, (some 42), .load (some 7) (.tmp 41), none, []⟩,
 ⟨8, (some 43), .bin .neq 33 false (.tmp 38) (.tmp 42), none, []⟩])
 (.cond (.tmp 43)
 (.seq (.reg [⟨0, (some 4), .mv (.con (.bool false)), none, []⟩])
 (.ret))
 (.skip))))
 (.reg [⟨0, (some 33), .mv (.tmp 11), none, []⟩,
 ⟨1, (some 34), .bin .add 3 true (.tmp 33) (.con (.int .i64 1)), none, []⟩,
 ⟨2, (some 11), .mv (.tmp 34), none, []⟩]))))))
 (.seq (.reg [⟨0, (some 44), .load (some 11) (.tmp 2), none, []⟩,
 ⟨1, (some 45), .call 12 [(.tmp 44)], none, []⟩,
 ⟨2, (some 12), .mv (.tmp 45), none, []⟩])
 (.seq (.seq (.reg [⟨0, (some 46), .mv (.tmp 12), none, []⟩,
 ⟨1, (some 47), .bin .eql 27 true (.tmp 46) (.con (.int .i64 0)), none, []⟩])
 (.cond (.tmp 47)
 (.reg [⟨0, (some 48), .load (some 11) (.tmp 2), none, []⟩,
 ⟨1, (some 49), .mv (.tmp 5), none, []⟩,
 ⟨2, (some 50), .call 13 [(.tmp 48), (.tmp 49)], none, []⟩,
 ⟨3, (some 12), .mv (.tmp 50), none, []⟩])
 (.skip)))
 (.seq (.seq (.reg [⟨0, (some 51), .mv (.tmp 12), none, []⟩,
 ⟨1, (some 52), .bin .neq 27 true (.tmp 51) (.con (.int .i64 0)), none, []⟩])
 (.cond (.tmp 52)
 (.seq (.reg [⟨0, (some 53), .mv (.tmp 7), none, []⟩,
 ⟨1, (some 54), .un .not (.tmp 53), none, []⟩,
 ⟨2, (some 55), .mv (.tmp 54), none, []⟩,
 ⟨3, (some 56), .mv (.tmp 9), (some (55, true)), []⟩,
 ⟨4, (some 57), .bin .eql 3 true (.tmp 56) (.con (.int .i64 0)), (some (55, true)), []⟩,
 ⟨5, (some 58), .pick (.tmp 55) (.tmp 57) (.con (.bool false)), none, []⟩,
 ⟨6, (some 59), .mv (.tmp 58), none, []⟩,
 ⟨7, (some 60), .mv (.tmp 8), (some (59, true)), []⟩,
 ⟨8, (some 61), .mv (.tmp 12), (some (59, true)), []⟩,
 ⟨9, (some 62), .bin .eql 27 false (.tmp 60) (.tmp 61), (some (59, true)), []⟩,
 ⟨10, (some 63), .pick (.tmp 59) (.tmp 62) (.con (.bool false)), none, []⟩,
 ⟨11, (some 64), .mv (.tmp 63), none, []⟩,
 ⟨12, (some 65), .mv (.tmp 10), (some (64, true)), []⟩,
 ⟨13, (some 66), .mv (.tmp 12), (some (64, true)), []⟩,
 ⟨14, (some 67), .bin .eql 27 false (.tmp 65) (.tmp 66), (some (64, true)), []⟩,
 ⟨15, (some 68), .pick (.tmp 64) (.tmp 67) (.con (.bool false)), none, []⟩,
 ⟨16, (some 69), .mv (.tmp 68), none, []⟩,
 ⟨17, (some 70), .call 14 [], (some (69, true)), []⟩,
 ⟨18, (some 71), .pick (.tmp 69) (.tmp 70) (.con (.bool false)), none, []⟩,
 ⟨19, (some 4), .mv (.tmp 71), none, []⟩])
 (.ret))
 (.skip)))
 (.seq (.reg [⟨0, (some 72), .mv (.tmp 8), none, []⟩,
 ⟨1, (some 73), .bin .eql 27 true (.tmp 72) (.con (.int .i64 0)), none, []⟩,
 ⟨2, (some 74), .mv (.tmp 73), none, []⟩,
 ⟨3, (some 75), .mv (.tmp 10), (some (74, true)), []⟩,
 ⟨4, (some 76), .bin .eql 27 true (.tmp 75) (.con (.int .i64 0)), (some (74, true)), []⟩,
 ⟨5, (some 77), .pick (.tmp 74) (.tmp 76) (.con (.bool false)), none, []⟩,
 ⟨6, (some 78), .mv (.tmp 77), none, []⟩,
 ⟨7, (some 79), .mv (.tmp 7), (some (78, true)), []⟩,
 ⟨8, (some 80), .load (some 11) (.tmp 2), (some (78, true)), []⟩,
 ⟨9, (some 81), .mv (.tmp 5), (some (78, true)), []⟩,
 ⟨10, (some 82), .call 15 [(.tmp 80), (.tmp 81)], (some (78, true)), []⟩,
 ⟨11, (some 83), .bin .eql 4 false (.tmp 79) (.tmp 82), (some (78, true)), []⟩,
 ⟨12, (some 84), .pick (.tmp 78) (.tmp 83) (.con (.bool false)), none, []⟩,
 ⟨13, (some 85), .mv (.tmp 84), none, []⟩,
 ⟨14, (some 86), .mv (.tmp 9), (some (85, true)), []⟩,
 ⟨15, (some 87), .load (some 11) (.tmp 2), (some (85, true)), []⟩,
 ⟨16, (some 88), .mv (.tmp 5), (some (85, true)), []⟩,
 ⟨17, (some 89), .call 16 [(.tmp 87), (.tmp 88)], (some (85, true)), []⟩,
 ⟨18, (some 90), .bin .eql 3 false (.tmp 86) (.tmp 89), (some (85, true)), []⟩,
 ⟨19, (some 91), .pick (.tmp 85) (.tmp 90) (.con (.bool false)), none, []⟩,
 ⟨20, (some 92), .mv (.tmp 91), none, []⟩,
 ⟨21, (some 93), .call 14 [], (some (92, true)), []⟩,
 ⟨22, (some 94), .pick (.tmp 92) (.tmp 93) (.con (.bool false)), none, []⟩,
 ⟨23, (some 4), .mv (.tmp 94), none, []⟩])
 (.ret))))))))),
 [.tmp 4]⟩
theorem p_l19_MachineTogether : prepFun Go.Proofs.Tryd.prog [0, 3, 4] Go.Proofs.Tryd.f3 = some v_l19_MachineTogether := by kernel_rfl

def v_l19_MachineMore : VFun :=
⟨.seq (.reg [⟨0, (some 3), .box (.tmp 0), none, []⟩,
 ⟨1, (some 5), .box (.tmp 2), none, []⟩,
 ⟨2, (some 6), .mv (.con (.bool false)), none, []⟩])
 (.seq (.reg [⟨0, (some 18), .mv (.tmp 1), none, []⟩,
 ⟨1, (some 19), .call 9 [(.tmp 18)], none, []⟩,
 ⟨2, (some 7), .mv (.tmp 19), none, []⟩])
 (.seq (.reg [⟨0, (some 20), .load (some 11) (.tmp 3), none, []⟩,
 ⟨1, (some 8), .alloc [(.int .i64 0), (.int .i64 0), (.int .i64 0), (.int .i64 0), (.int .i64 0), (.int .i64 0), (.int .i64 0), (.int .i64 0), (.int .i64 0), (.int .i64 0), (.int .i64 0)], none, []⟩,
 ⟨2, none, .store 11 (.tmp 8) (.tmp 20), none, []⟩])
 (.seq (.seq (.reg [⟨0, (some 9), .mv (.con (.int .i64 0)), none, []⟩])
 (.block 0
 (.loop
 (.seq (.seq (.reg [⟨0, (some 21), .mv (.tmp 9), none, []⟩,
 ⟨1, (some 22), .bin .lss 3 true (.tmp 21) (.con (.int .i64 4)), none, []⟩])
 (.cond (.tmp 22)
 (.skip)
 (.exit 0)))
 (.seq (.block 1
 (.reg [⟨0, (some 25), .mv (.tmp 9), none, []⟩,
 ⟨1, (some 26), .fieldA 0 (.tmp 8), none, []⟩,
 ⟨2, (some 27), .idxA (some 4) 1 (.tmp 26) (.tmp 25), none, []⟩,
 ⟨3, (some 28), .load none (.tmp 27), none, []⟩,
 ⟨4, (some 29), .mv (.tmp 9), none, []⟩,
 ⟨5, (some 30), .idxA (some 5) 1 (.tmp 5) (.tmp 29), none, []⟩,
 ⟨6, (some 31), .load none (.tmp 30), none, []⟩,
 ⟨7, (some 32), .bin .rem 5 true (.tmp 31) (.con (.int .u8 3)), none, []⟩,
 ⟨8, (some 33), .conv 5 3 (.tmp 32), none, []⟩,
 ⟨9, (some 34), .bin .add 3 false (.tmp 28) (.tmp 33), none, []⟩,
 ⟨10, (some 35), .fieldA 0 (.tmp 8), none, []⟩,
 ⟨11, (some 36), .idxA (some 4) 1 (.tmp 35) (.tmp 25), none, []⟩,
 ⟨12, none, .store 1 (.tmp 36) (.tmp 34), none, []⟩]))
 (.reg [⟨0, (some 23), .mv (.tmp 9), none, []⟩,
 ⟨1, (some 24), .bin .add 3 true (.tmp 23) (.con (.int .i64 1)), none, []⟩,
 ⟨2, (some 9), .mv (.tmp 24), none, []⟩]))))))
 (.seq (.reg [⟨0, (some 37), .fieldA 10 (.tmp 8), none, []⟩,
 ⟨1, (some 38), .load none (.tmp 37), none, []⟩,
 ⟨2, (some 39), .idxA (some 5) 1 (.tmp 5) (.con (.int .i64 4)), none, []⟩,
 ⟨3, (some 40), .load none (.tmp 39), none, []⟩,
 ⟨4, (some 41), .bin .rem 5 true (.tmp 40) (.con (.int .u8 4)), none, []⟩,
 ⟨5, (some 42), .conv 5 3 (.tmp 41), none, []⟩,
 ⟨6, (some 43), .bin .add 3 false (.tmp 38) (.tmp 42), none, []⟩,
 ⟨7, (some 44), .fieldA 10 (.tmp 8), none, []⟩,
 ⟨8, none, .store 1 (.tmp 44) (.tmp 43), none, []⟩])
 (.seq (.seq (.reg [⟨0, (some 45), .load (some 11) (.tmp 3), none, []⟩,
 ⟨1, (some 46), .call 12 [(.tmp 45)], none, []⟩,
 ⟨2, (some 47), .bin .neq 27 true (.tmp 46) (.con (.int .i64 0)), none, []⟩,
 ⟨3, (some 48), .mv (.tmp 47), none, []⟩,
 ⟨4, (some 49), .load (some 11) (.tmp 8), (some (48, false)), []⟩,
 ⟨5, (some 50), .call 12 [(.tmp 49)], (some (48, false)), []⟩,
 ⟨6, (some 51), .bin .neq 27 true (.tmp 50) (.con (.int .i64 0)), (some (48, false)), []⟩,
 ⟨7, (some 52), .pick (.tmp 48) (.con (.bool true)) (.tmp 51), none, []⟩,
 ⟨8, (some 53), .mv (.tmp 52), none, []⟩,
 ⟨9, (some 54), .load (some 11) (.tmp 3), (some (53, false)), []⟩,
 ⟨10, (some 55), .mv (.tmp 7), (some (53, false)), []⟩,
 ⟨11, (some 56), .call 13 [(.tmp 54), (.tmp 55)], (some (53, false)), []⟩,
 ⟨12, (some 57), .bin .neq 27 true (.tmp 56) (.con (.int .i64 0)), (some (53, false)), []⟩,
 ⟨13, (some 58), .pick (.tmp 53) (.con (.bool true)) (.tmp 57), none, []⟩])
 (.cond (.tmp 58)
 (.seq (.reg [⟨0, (some 59), .call 14 [], none, []⟩,
 ⟨1, (some 6), .mv (.tmp 59), none, []⟩])
 (.ret))
 (.skip)))
 (.seq (.reg [⟨0, (some 61), .load (some 11) (.tmp 3), none, []⟩,
 ⟨1, (some 62), .mv (.tmp 7), none, []⟩,
 ⟨2, (some 63), .call 10 [(.tmp 61), (.tmp 62)], none, []⟩,
 ⟨3, (some 60), .mv (.tmp 63), none, []⟩,
 ⟨4, (some 64), .ext (.tmp 60) 0, none, []⟩,
 ⟨5, (some 65), .ext (.tmp 60) 1, none, []⟩,
 ⟨6, (some 10), .mv (.tmp 64), none, []⟩,
 ⟨7, (some 11), .mv (.tmp 65), none, []⟩])
 (.seq (.reg [⟨0, (some 67), .load (some 11) (.tmp 8), none, []⟩,
 ⟨1, (some 68), .mv (.tmp 7), none, []⟩,
 ⟨2, (some 69), .call 10 [(.tmp 67), (.tmp 68)], none, []⟩,
 ⟨3, (some 66), .mv (.tmp 69), none, []⟩,
 ⟨4, (some 70), .ext (.tmp 66) 0, none, []⟩,
 ⟨5, (some 71), .ext (.tmp 66) 1, none, []⟩,
 ⟨6, (some 12), .mv (.tmp 70), none, []⟩,
 ⟨7, (some 13), .mv (.tmp 71), none, []⟩])
 (.seq (.reg [⟨0, (some 73), .load (some 11) (.tmp 3), none, []⟩,
 ⟨1, (some 74), .mv (.tmp 7), none, []⟩,
 ⟨2, (some 75), .call 11 [(.tmp 73), (.tmp 74)], none, []⟩,
 ⟨3, (some 72), .mv (.tmp 75), none, []⟩,
 ⟨4, (some 76), .ext (.tmp 72) 0, none, []⟩,
 ⟨5, (some 77), .ext (.tmp 72) 1, none, []⟩,
 ⟨6, (some 14), .mv (.tmp 76), none, []⟩,
 ⟨7, (some 15), .mv (.tmp 77), none, []⟩])
 (.seq (.reg [⟨0, (some 79), .load (some 11) (.tmp 8), none, []⟩,
 ⟨1, (some 80), .mv (.tmp 7), none, []⟩,
 ⟨2, (some 81), .call 11 [(.tmp 79), (.tmp 80)], none, []⟩,
 ⟨3, (some 78), .mv (.tmp 81), none, []⟩,
 ⟨4, (some 82), .ext (.tmp 78) 0, none, []⟩,
 ⟨5, (some 83), .ext (.tmp 78) 1, none, []⟩,
 ⟨6, (some 16), .mv (.tmp 82), none, []⟩,
 ⟨7, (some 17), .mv (.tmp 83), none, []⟩])
 (.seq (.reg [⟨0, (some 84), .mv (.tmp 11), none, []⟩,
 ⟨1, (some 85), .bin .eql 27 true (.tmp 84) (.con (.int .i64 0)), none, []⟩,
 ⟨2, (some 86), .mv (.tmp 85), none, []⟩,
 ⟨3, (some 87), .mv (.tmp 13), (some (86, true)), []⟩,
 ⟨4, (some 88), .bin .eql 27 true (.tmp 87) (.con (.int .i64 0)), (some (86, true)), []⟩,
 ⟨5, (some 89), .pick (.tmp 86) (.tmp 88) (.con (.bool false)), none, []⟩,
 ⟨6, (some 90), .mv (.tmp 89), none, []⟩,
 ⟨7, (some 91), .mv (.tmp 15), (some (90, true)), []⟩,
 ⟨8, (some 92), .bin .eql 27 true (.tmp 91) (.con (.int .i64 0)), (some (90, true)), []⟩,
 ⟨9, (some 93), .pick (.tmp 90) (.tmp 92) (.con (.bool false)), none, []⟩,
 ⟨10, (some 94), .mv (.tmp 93), none, []⟩,
 ⟨11, (some 95), .mv (.tmp 17), (some (94, true)), []⟩,
 ⟨12, (some 96), .bin .eql 27 true (.tmp 95) (.con (.int .i64 0)), (some (94, true)), []⟩,
 ⟨13, (some 97), .pick (.tmp 94) (.tmp 96) (.con (.bool false)), none, []⟩,
 ⟨14, (some 98), .mv (.tmp 97), none, []⟩,
 ⟨15, (some 99), .mv (.tmp 10), (some (98, true)), []⟩,
 ⟨16, (some 100), .un .not (.tmp 99), (some (98, true)), []⟩,
 ⟨17, (some 101), .mv (.tmp 100), (some (98, true)), []⟩,
 ⟨18, (some 102), .mv (.tmp 12), (some (101, false)), []⟩,
 ⟨19, (some 103), .pick (.tmp 101) (.con (.bool true)) (.tmp 102), (some (98, true)), []⟩,
 ⟨20, (some 104), .pick (.tmp 98) (.tmp 103) (.con (.bool false)), none, []⟩,
 ⟨21, (some 105), .mv (.tmp 104), none, []⟩,
 ⟨22, (some 106), .mv (.tmp 16), (some (105, true)), []⟩,
 ⟨23, (some 107), .mv (.tmp 14), (some (105, true)), []⟩,
 ⟨24, (some 108), .bin .leq 3 false (.tmp 106) (.tmp 107), (some (105, true)), []⟩,
 ⟨25, (some 109), .pick (.tmp 105) (.tmp 108) (.con (.bool false)), none, []⟩,
 ⟨26, (some 110), .mv (.tmp 109), none, []⟩,
 ⟨27, (some 111), .call 14 [], (some (110, true)), []⟩,
 ⟨28, (some 112), .pick (.tmp 110) (.tmp 111) (.con (.bool false)), none, []⟩,
 ⟨29, (some 6), .mv (.tmp 112), none, []⟩])
 (.ret))))))))))),
 [.tmp 6]⟩
theorem p_l19_MachineMore : prepFun Go.Proofs.Tryd.prog [0, 3, 4] Go.Proofs.Tryd.f6 = some v_l19_MachineMore := by kernel_rfl

def v_l19_MachineAlone : VFun :=
⟨.seq (.reg [⟨0, (some 2), .box (.tmp 0), none, []⟩,
 ⟨1, (some 3), .box (.tmp 1), none, []⟩,
 ⟨2, (some 4), .mv (.con (.bool false)), none, []⟩])
 (.seq (.reg [⟨0, (some 10), .load (some 7) (.tmp 3), none, []⟩,
 ⟨1, (some 11), .bslice 7 1 [(.int .i64 0), (.int .i64 0), (.int .i64 0), (.int .i64 0), (.int .i64 0), (.int .i64 0), (.int .i64 0)] [(0, 7, (.tmp 10))], none, []⟩,
 ⟨2, (some 5), .mv (.tmp 11), none, []⟩])
 (.seq (.seq (.reg [⟨0, (some 12), .load (some 11) (.tmp 2), none, []⟩,
 ⟨1, (some 13), .call 12 [(.tmp 12)], none, []⟩,
 ⟨2, (some 14), .bin .neq 27 true (.tmp 13) (.con (.int .i64 0)), none, []⟩,
 ⟨3, (some 15), .mv (.tmp 14), none, []⟩,
 ⟨4, (some 16), .load (some 11) (.tmp 2), (some (15, false)), []⟩,
 ⟨5, (some 17), .mv (.tmp 5), (some (15, false)), []⟩,
 ⟨6, (some 18), .call 13 [(.tmp 16), (.tmp 17)], (some (15, false)), []⟩,
 ⟨7, (some 19), .bin .neq 27 true (.tmp 18) (.con (.int .i64 0)), (some (15, false)), []⟩,
 ⟨8, (some 20), .pick (.tmp 15) (.con (.bool true)) (.tmp 19), none, []⟩])
 (.cond (.tmp 20)
 (.seq (.reg [⟨0, (some 21), .call 14 [], none, []⟩,
 ⟨1, (some 4), .mv (.tmp 21), none, []⟩])
 (.ret))
 (.skip)))
 (.seq (.reg [⟨0, (some 23), .load (some 11) (.tmp 2), none, []⟩,
 ⟨1, (some 24), .mv (.tmp 5), none, []⟩,
 ⟨2, (some 25), .call 10 [(.tmp 23), (.tmp 24)], none, []⟩,
 ⟨3, (some 22), .mv (.tmp 25), none, []⟩,
 ⟨4, (some 26), .ext (.tmp 22) 0, none, []⟩,
 ⟨5, (some 27), .ext (.tmp 22) 1, none, []⟩,
 ⟨6, (some 6), .mv (.tmp 26), none, []⟩,
 ⟨7, (some 7), .mv (.tmp 27), none, []⟩])
 (.seq (.reg [⟨0, (some 29), .load (some 11) (.tmp 2), none, []⟩,
 ⟨1, (some 30), .mv (.tmp 5), none, []⟩,
 ⟨2, (some 31), .call 11 [(.tmp 29), (.tmp 30)], none, []⟩,
 ⟨3, (some 28), .mv (.tmp 31), none, []⟩,
 ⟨4, (some 32), .ext (.tmp 28) 0, none, []⟩,
 ⟨5, (some 33), .ext (.tmp 28) 1, none, []⟩,
 ⟨6, (some 8), .mv (.tmp 32), none, []⟩,
 ⟨7, (some 9), .mv (.tmp 33), none, []⟩])
 (.seq (.reg [⟨0, (some 34), .mv (.tmp 6), none, []⟩,
 ⟨1, (some 35), .mv (.tmp 34), none, []⟩,
 ⟨2, (some 36), .mv (.tmp 7), (some (35, true)), []⟩,
 ⟨3, (some 37), .bin .eql 27 true (.tmp 36) (.con (.int .i64 0)), (some (35, true)), []⟩,
 ⟨4, (some 38), .pick (.tmp 35) (.tmp 37) (.con (.bool false)), none, []⟩,
 ⟨5, (some 39), .mv (.tmp 38), none, []⟩,
 ⟨6, (some 40), .mv (.tmp 8), (some (39, true)), []⟩,
 ⟨7, (some 41), .bin .eql 3 true (.tmp 40) (.con (.int .i64 1)), (some (39, true)), []⟩,
 ⟨8, (some 42), .pick (.tmp 39) (.tmp 41) (.con (.bool false)), none, []⟩,
 ⟨9, (some 43), .mv (.tmp 42), none, []⟩,
 ⟨10, (some 44), .mv (.tmp 9), (some (43, true)), []⟩,
 ⟨11, (some 45), .bin .eql 27 true (.tmp 44) (.con (.int .i64 0)), (some (43, true)), []⟩,
 ⟨12, (some 46), .pick (.tmp 43) (.tmp 45) (.con (.bool false)), none, []⟩,
 ⟨13, (some 47), .mv (.tmp 46), none, []⟩,
 ⟨14, (some 48), .call 14 [], (some (47, true)), []⟩,
 ⟨15, (some 49), .pick (.tmp 47) (.tmp 48) (.con (.bool false)), none, []⟩,
 ⟨16, (some 4), .mv (.tmp 49), none, []⟩])
 (.ret)))))),
 [.tmp 4]⟩
theorem p_l19_MachineAlone : prepFun Go.Proofs.Tryd.prog [0, 3, 4] Go.Proofs.Tryd.f7 = some v_l19_MachineAlone := by kernel_rfl

def v_l19_MachineTells : VFun :=
⟨.seq (.reg [⟨0, (some 3), .box (.tmp 0), none, []⟩,
 ⟨1, (some 4), .box (.tmp 1), none, []⟩,
 ⟨2, (some 6), .mv (.con (.bool false)), none, []⟩])
 (.seq (.reg [⟨0, (some 19), .load (some 11) (.tmp 3), none, []⟩,
 ⟨1, (some 20), .call 12 [(.tmp 19)], none, []⟩,
 ⟨2, (some 7), .mv (.tmp 20), none, []⟩])
 (.seq (.reg [⟨0, (some 22), .fieldA 0 (.tmp 4), none, []⟩,
 ⟨1, (some 23), .load none (.tmp 22), none, []⟩,
 ⟨2, (some 24), .call 21 [(.tmp 23)], none, []⟩,
 ⟨3, (some 21), .mv (.tmp 24), none, []⟩,
 ⟨4, (some 25), .ext (.tmp 21) 0, none, []⟩,
 ⟨5, (some 26), .ext (.tmp 21) 1, none, []⟩,
 ⟨6, (some 8), .mv (.tmp 25), none, []⟩,
 ⟨7, (some 9), .mv (.tmp 26), none, []⟩])
 (.seq (.reg [⟨0, (some 28), .fieldA 0 (.tmp 4), none, []⟩,
 ⟨1, (some 29), .load none (.tmp 28), none, []⟩,
 ⟨2, (some 30), .call 22 [(.tmp 29)], none, []⟩,
 ⟨3, (some 27), .mv (.tmp 30), none, []⟩,
 ⟨4, (some 31), .ext (.tmp 27) 0, none, []⟩,
 ⟨5, (some 32), .ext (.tmp 27) 1, none, []⟩,
 ⟨6, (some 10), .mv (.tmp 31), none, []⟩,
 ⟨7, (some 11), .mv (.tmp 32), none, []⟩])
 (.seq (.reg [⟨0, (some 34), .load (some 11) (.tmp 3), none, []⟩,
 ⟨1, (some 35), .fieldA 0 (.tmp 4), none, []⟩,
 ⟨2, (some 36), .load none (.tmp 35), none, []⟩,
 ⟨3, (some 37), .call 23 [(.tmp 34), (.tmp 36)], none, []⟩,
 ⟨4, (some 33), .mv (.tmp 37), none, []⟩,
 ⟨5, (some 38), .ext (.tmp 33) 0, none, []⟩,
 ⟨6, (some 39), .ext (.tmp 33) 1, none, []⟩,
 ⟨7, (some 12), .mv (.tmp 38), none, []⟩,
 ⟨8, (some 13), .mv (.tmp 39), none, []⟩])
 (.seq (.reg [⟨0, (some 41), .load (some 11) (.tmp 3), none, []⟩,
 ⟨1, (some 42), .mv (.tmp 2), none, []⟩,
 ⟨2, (some 43), .call 24 [(.tmp 41), (.tmp 42)], none, []⟩,
 ⟨3, (some 40), .mv (.tmp 43), none, []⟩,
 ⟨4, (some 44), .ext (.tmp 40) 0, none, []⟩,
 ⟨5, (some 45), .ext (.tmp 40) 1, none, []⟩,
 ⟨6, (some 14), .mv (.tmp 44), none, []⟩,
 ⟨7, (some 15), .mv (.tmp 45), none, []⟩])
 (.seq (.reg [⟨0, (some 46), .load (some 7) (.tmp 4), none, []⟩,
 ⟨2, (some 48), .load (some 7) (.tmp 4), none, []⟩,
 ⟨1, (some 47), .call 25 [(.tmp 46)], none, [(.tmp 4)]⟩,
 ⟨3, (some 49), .call 26 [(.tmp 48)], none, []⟩,
 ⟨4, (some 16), .mv (.tmp 47), none, []⟩,
 ⟨5, (some 17), .mv (.tmp 49), none, []⟩])
 (.seq (.seq (.reg [⟨0, (some 50), .load (some 11) (.tmp 3), none, []⟩,
 ⟨1, (some 51), .call 27 [(.tmp 50)], none, []⟩,
 ⟨2, (some 52), .mv (.tmp 7), none, []⟩,
 ⟨3, (some 53), .bin .neq 27 false (.tmp 51) (.tmp 52), none, []⟩,
 ⟨4, (some 54), .mv (.tmp 53), none, []⟩,
 ⟨5, (some 55), .mv (.tmp 8), (some (54, false)), []⟩,
 ⟨6, (some 56), .mv (.tmp 10), (some (54, false)), []⟩,
 ⟨7, (some 57), .bin .neq 3 false (.tmp 55) (.tmp 56), (some (54, false)), []⟩,
 ⟨8, (some 58), .pick (.tmp 54) (.con (.bool true)) (.tmp 57), none, []⟩,
 ⟨9, (some 59), .mv (.tmp 58), none, []⟩,
 ⟨10, (some 60), .mv (.tmp 9), (some (59, false)), []⟩,
 ⟨11, (some 61), .mv (.tmp 11), (some (59, false)), []⟩,
 ⟨12, (some 62), .bin .neq 4 false (.tmp 60) (.tmp 61), (some (59, false)), []⟩,
 ⟨13, (some 63), .pick (.tmp 59) (.con (.bool true)) (.tmp 62), none, []⟩,
 ⟨14, (some 64), .mv (.tmp 63), none, []⟩,
 ⟨15, (some 65), .mv (.tmp 16), (some (64, false)), []⟩,
 ⟨16, (some 66), .len (.tmp 65), (some (64, false)), []⟩,
 ⟨17, (some 67), .mv (.tmp 17), (some (64, false)), []⟩,
 ⟨18, (some 68), .len (.tmp 67), (some (64, false)), []⟩,
 ⟨19, (some 69), .bin .neq 3 false (.tmp 66) (.tmp 68), (some (64, false)), []⟩,
 ⟨20, (some 70), .pick (.tmp 64) (.con (.bool true)) (.tmp 69), none, []⟩])
 (.cond (.tmp 70)
 (.seq (.reg [⟨0, (some 6), .mv (.con (.bool false)), none, []⟩])
 (.ret))
 (.skip)))
 (.seq (.seq (.reg [⟨0, (some 18), .mv (.con (.int .i64 0)), none, []⟩])
 (.block 0
 (.loop
 (.seq (.seq (.reg [⟨0, (some 71), .mv (.tmp 18), none, []⟩,
 ⟨1, (some 72), .mv (.tmp 16), none, []⟩,
 ⟨2, (some 73), .len (.tmp 72), none, []⟩,
 ⟨3, (some 74), .bin .lss 3 false (.tmp 71) (.tmp 73), none, []⟩])
 (.cond (.tmp 74)
 (.skip)
 (.exit 0)))
 (.seq (.block 1
 (.seq (.reg [⟨0, (some 77), .mv (.tmp 16), none, []⟩,
 ⟨1, (some 78), .mv (.tmp 18), none, []⟩,
 ⟨2, (some 79), .idxA none 1 (.tmp 77) (.tmp 78), none, []⟩,
 ⟨3, (some 80), .load none (.tmp 79), none, []⟩,
 ⟨4, (some 81), .mv (.tmp 17), none, []⟩,
 ⟨5, (some 82), .mv (.tmp 18), none, []⟩,
 ⟨6, (some 83), .idxA none 1 (.tmp 81) (.tmp 82), none, []⟩,
 ⟨7, (some 84), .load none (.tmp 83), none, []⟩,
 ⟨8, (some 85), .bin .neq 3 false (.tmp 80) (.tmp 84), none, []⟩])
 (.cond (.tmp 85)
 (.seq (.reg [⟨0, (some 6), .mv (.con (.bool false)), none, []⟩])
 (.ret))
 (.skip))))
 (.reg [⟨0, (some 75), .mv (.tmp 18), none, []⟩,
 ⟨1, (some 76), .bin .add 3 true (.tmp 75) (.con (.int .i64 1)), none, []⟩,
 ⟨2, (some 18), .mv (.tmp 76), none, []⟩]))))))
 (.seq (.seq (.reg [⟨0, (some 86), .mv (.tmp 7), none, []⟩,
 ⟨1, (some 87), .bin .neq 27 true (.tmp 86) (.con (.int .i64 0)), none, []⟩])
 (.cond (.tmp 87)
 (.seq (.reg [⟨0, (some 88), .mv (.tmp 12), none, []⟩,
 ⟨1, (some 89), .bin .eql 3 true (.tmp 88) (.con (.int .i64 0)), none, []⟩,
 ⟨2, (some 90), .mv (.tmp 89), none, []⟩,
 ⟨3, (some 91), .mv (.tmp 13), (some (90, true)), []⟩,
 ⟨4, (some 92), .mv (.tmp 7), (some (90, true)), []⟩,
 ⟨5, (some 93), .bin .eql 27 false (.tmp 91) (.tmp 92), (some (90, true)), []⟩,
 ⟨6, (some 94), .pick (.tmp 90) (.tmp 93) (.con (.bool false)), none, []⟩,
 ⟨7, (some 95), .mv (.tmp 94), none, []⟩,
 ⟨8, (some 96), .mv (.tmp 14), (some (95, true)), []⟩,
 ⟨9, (some 97), .bin .eql 3 true (.tmp 96) (.con (.int .i64 0)), (some (95, true)), []⟩,
 ⟨10, (some 98), .pick (.tmp 95) (.tmp 97) (.con (.bool false)), none, []⟩,
 ⟨11, (some 99), .mv (.tmp 98), none, []⟩,
 ⟨12, (some 100), .mv (.tmp 15), (some (99, true)), []⟩,
 ⟨13, (some 101), .mv (.tmp 7), (some (99, true)), []⟩,
 ⟨14, (some 102), .bin .eql 27 false (.tmp 100) (.tmp 101), (some (99, true)), []⟩,
 ⟨15, (some 103), .pick (.tmp 99) (.tmp 102) (.con (.bool false)), none, []⟩,
 ⟨16, (some 104), .mv (.tmp 103), none, []⟩,
 ⟨17, (some 105), .call 14 [], (some (104, true)), []⟩,
 ⟨18, (some 106), .pick (.tmp 104) (.tmp 105) (.con (.bool false)), none, []⟩,
 ⟨19, (some 6), .mv (.tmp 106), none, []⟩])
 (.ret))
 (.skip)))
 (.seq (.seq (.reg [⟨0, (some 107), .mv (.tmp 11), none, []⟩,
 ⟨1, (some 108), .un .not (.tmp 107), none, []⟩,
 ⟨2, (some 109), .mv (.tmp 108), none, []⟩,
 ⟨3, (some 110), .mv (.tmp 12), (some (109, true)), []⟩,
 ⟨4, (some 111), .bin .neq 3 true (.tmp 110) (.con (.int .i64 0)), (some (109, true)), []⟩,
 ⟨5, (some 112), .mv (.tmp 111), (some (109, true)), []⟩,
 ⟨6, (some 113), .mv (.tmp 13), (some (112, false)), []⟩,
 ⟨7, (some 114), .bin .neq 27 true (.tmp 113) (.con (.int .i64 2)), (some (112, false)), []⟩,
 ⟨8, (some 115), .pick (.tmp 112) (.con (.bool true)) (.tmp 114), (some (109, true)), []⟩,
 ⟨9, (some 116), .pick (.tmp 109) (.tmp 115) (.con (.bool false)), none, []⟩,
 ⟨10, (some 117), .mv (.tmp 116), none, []⟩,
 ⟨11, (some 118), .mv (.tmp 11), (some (117, false)), []⟩,
 ⟨12, (some 119), .mv (.tmp 118), (some (117, false)), []⟩,
 ⟨13, (some 120), .mv (.tmp 13), (some (119, true)), []⟩,
 ⟨14, (some 121), .bin .neq 27 true (.tmp 120) (.con (.int .i64 0)), (some (119, true)), []⟩,
 ⟨15, (some 122), .mv (.tmp 121), (some (119, true)), []⟩,
 ⟨16, (some 123), .mv (.tmp 12), (some (122, false)), []⟩,
 ⟨17, (some 124), .load (some 11) (.tmp 3), (some (122, false)), []⟩,
 ⟨18, (some 125), .fieldA 0 (.tmp 4), (some (122, false)), []⟩,
 ⟨19, (some 126), .load none (.tmp 125), (some (122, false)), []⟩,
 ⟨20, (some 127), .call 28 [(.tmp 124), (.tmp 126)], (some (122, false)), []⟩,
 ⟨21, (some 128), .bin .neq 3 false (.tmp 123) (.tmp 127), (some (122, false)), []⟩,
 ⟨22, (some 129), .pick (.tmp 122) (.con (.bool true)) (.tmp 128), (some (119, true)), []⟩,
 ⟨23, (some 130), .pick (.tmp 119) (.tmp 129) (.con (.bool false)), (some (117, false)), []⟩,
 ⟨24, (some 131), .pick (.tmp 117) (.con (.bool true)) (.tmp 130), none, []⟩])
 (.cond (.tmp 131)
 (.seq (.reg [⟨0, (some 6), .mv (.con (.bool false)), none, []⟩])
 (.ret))
 (.skip)))
 (.seq (.seq (.reg [⟨0, (some 132), .mv (.tmp 2), none, []⟩,
 ⟨1, (some 133), .bin .lss 3 true (.tmp 132) (.con (.int .i64 0)), none, []⟩,
 ⟨2, (some 134), .mv (.tmp 133), none, []⟩,
 ⟨3, (some 135), .mv (.tmp 2), (some (134, false)), []⟩,
 ⟨4, (some 136), .fieldA 8 (.tmp 3), (some (134, false)), []⟩,
 ⟨5, (some 137), .load none (.tmp 136), (some (134, false)), []⟩,
 ⟨6, (some 138), .bin .geq 3 false (.tmp 135) (.tmp 137), (some (134, false)), []⟩,
 ⟨7, (some 139), .pick (.tmp 134) (.con (.bool true)) (.tmp 138), none, []⟩])
 (.cond (.tmp 139)
 (.seq (.reg [⟨0, (some 140), .mv (.tmp 14), none, []⟩,
 ⟨1, (some 141), .bin .eql 3 true (.tmp 140) (.con (.int .i64 0)), none, []⟩,
 ⟨2, (some 142), .mv (.tmp 141), none, []⟩,
 ⟨3, (some 143), .mv (.tmp 15), (some (142, true)), []⟩,
 ⟨4, (some 144), .bin .eql 27 true (.tmp 143) (.con (.int .i64 2)), (some (142, true)), []⟩,
 ⟨5, (some 145), .pick (.tmp 142) (.tmp 144) (.con (.bool false)), none, []⟩,
 ⟨6, (some 146), .mv (.tmp 145), none, []⟩,
 ⟨7, (some 147), .call 14 [], (some (146, true)), []⟩,
 ⟨8, (some 148), .pick (.tmp 146) (.tmp 147) (.con (.bool false)), none, []⟩,
 ⟨9, (some 6), .mv (.tmp 148), none, []⟩])
 (.ret))
 (.skip)))
 (.seq (.reg [⟨0, (some 149), .mv (.tmp 15), none, []⟩,
 ⟨1, (some 150), .bin .eql 27 true (.tmp 149) (.con (.int .i64 0)), none, []⟩,
 ⟨2, (some 151), .mv (.tmp 150), none, []⟩,
 ⟨3, (some 152), .mv (.tmp 14), (some (151, true)), []⟩,
 ⟨4, (some 153), .mv (.tmp 2), (some (151, true)), []⟩,
 ⟨5, (some 154), .fieldA 9 (.tmp 3), (some (151, true)), []⟩,
 ⟨6, (some 155), .load none (.tmp 154), (some (151, true)), []⟩,
 ⟨7, (some 156), .bin .rem 3 false (.tmp 153) (.tmp 155), (some (151, true)), []⟩,
 ⟨8, (some 157), .bin .eql 3 false (.tmp 152) (.tmp 156), (some (151, true)), []⟩,
 ⟨9, (some 158), .pick (.tmp 151) (.tmp 157) (.con (.bool false)), none, []⟩,
 ⟨10, (some 159), .mv (.tmp 158), none, []⟩,
 ⟨11, (some 160), .call 14 [], (some (159, true)), []⟩,
 ⟨12, (some 161), .pick (.tmp 159) (.tmp 160) (.con (.bool false)), none, []⟩,
 ⟨13, (some 6), .mv (.tmp 161), none, []⟩])
 (.ret))))))))))))),
 [.tmp 6]⟩
theorem p_l19_MachineTells : prepFun Go.Proofs.Tryd.prog [0, 3, 4] Go.Proofs.Tryd.f8 = some v_l19_MachineTells := by kernel_rfl

def v_l19_cut : VFun :=
⟨.seq (.reg [⟨0, (some 2), .mv (.con (.slice none 0 0)), none, []⟩])
 (.seq (.seq (.reg [⟨0, (some 3), .mv (.tmp 0), none, []⟩,
 ⟨1, (some 4), .len (.tmp 3), none, []⟩,
 ⟨2, (some 5), .bin .leq 3 true (.tmp 4) (.con (.int .i64 400)), none, []⟩])
 (.cond (.tmp 5)
 (.reg [⟨0, (some 6), .mv (.tmp 0), none, []⟩,
 ⟨1, (some 7), .mv (.tmp 0), none, []⟩,
 ⟨2, (some 8), .len (.tmp 7), none, []⟩,
 ⟨3, (some 9), .bi .min [3, 3] 3 [(.tmp 8), (.con (.int .i64 30))], none, []⟩,
 ⟨4, (some 10), .slice none 7 (.tmp 6) none (some (.tmp 9)) none, none, []⟩,
 ⟨5, (some 0), .mv (.tmp 10), none, []⟩])
 (.skip)))
 (.seq (.reg [⟨0, (some 11), .bslice 7 0 [(.int .i64 0), (.int .i64 0), (.int .i64 0), (.int .i64 0), (.int .i64 0), (.int .i64 0), (.int .i64 0)] [], none, []⟩,
 ⟨1, (some 12), .mv (.tmp 0), none, []⟩,
 ⟨2, (some 13), .mv (.tmp 0), none, []⟩,
 ⟨3, (some 14), .len (.tmp 13), none, []⟩,
 ⟨4, (some 15), .bi .min [3, 3] 3 [(.tmp 14), (.con (.int .i64 401))], none, []⟩,
 ⟨5, (some 16), .slice none 7 (.tmp 12) none (some (.tmp 15)) none, none, []⟩,
 ⟨6, (some 17), .append 7 56 (.tmp 11) (.tmp 16), none, []⟩,
 ⟨7, (some 2), .mv (.tmp 17), none, []⟩])
 (.ret))),
 [.tmp 2]⟩
theorem p_l19_cut : prepFun Go.Proofs.Tryd.prog [0, 3, 4] Go.Proofs.Tryd.f9 = some v_l19_cut := by kernel_rfl

def v_machine_Together : VFun :=
⟨.seq (.reg [⟨0, (some 2), .box (.tmp 0), none, []⟩,
 ⟨1, (some 4), .mv (.con (.bool false)), none, []⟩,
 ⟨2, (some 5), .mv (.con (.int .i64 0)), none, []⟩])
 (.seq (.reg [⟨0, (some 9), .load (some 11) (.tmp 2), none, []⟩,
 ⟨1, (some 10), .mv (.tmp 1), none, []⟩,
 ⟨2, (some 11), .call 29 [(.tmp 9), (.tmp 10)], none, []⟩,
 ⟨3, (some 8), .mv (.tmp 11), none, []⟩,
 ⟨4, (some 12), .ext (.tmp 8) 0, none, []⟩,
 ⟨5, (some 13), .ext (.tmp 8) 1, none, []⟩,
 ⟨6, (some 6), .alloc [(.int .i64 0), (.int .i64 0), (.int .i64 0), (.int .i64 0), (.int .i64 0), (.int .i64 0), (.int .i64 0), (.int .i64 0), (.int .i64 0), (.int .i64 0), (.int .i64 0), (.int .i64 0), (.int .i64 0), (.int .i64 0), (.int .i64 0), (.int .i64 0), (.int .i64 0), (.int .i64 0), (.int .i64 0), (.int .i64 0), (.int .i64 0), (.int .i64 0), (.int .i64 0)], none, []⟩,
 ⟨7, none, .store 23 (.tmp 6) (.tmp 12), none, []⟩,
 ⟨8, (some 7), .mv (.tmp 13), none, []⟩])
 (.seq (.reg [⟨0, (some 14), .mv (.tmp 7), none, []⟩,
 ⟨1, (some 15), .bin .eql 27 true (.tmp 14) (.con (.int .i64 0)), none, []⟩,
 ⟨2, (some 16), .mv (.tmp 15), none, []⟩,
 ⟨3, (some 17), .load (some 23) (.tmp 6), (some (16, true)), []⟩,
 ⟨4, (some 18), .call 30 [(.tmp 17)], (some (16, true)), []⟩,
 ⟨5, (some 19), .pick (.tmp 16) (.tmp 18) (.con (.bool false)), none, []⟩,
 ⟨6, (some 20), .mv (.tmp 7), none, []⟩,
 ⟨7, (some 4), .mv (.tmp 19), none, []⟩,
 ⟨8, (some 5), .mv (.tmp 20), none, []⟩])
 (.ret))),
 [.tmp 4, .tmp 5]⟩
theorem p_machine_Together : prepFun Go.Proofs.Tryd.prog [0, 3, 4] Go.Proofs.Tryd.f10 = some v_machine_Together := by kernel_rfl

def v_machine_Home : VFun :=
⟨.seq (.reg [⟨0, (some 2), .box (.tmp 0), none, []⟩,
 ⟨1, (some 4), .mv (.con (.int .i64 0)), none, []⟩,
 ⟨2, (some 5), .mv (.con (.int .i64 0)), none, []⟩])
 (.seq (.reg [⟨0, (some 9), .load (some 11) (.tmp 2), none, []⟩,
 ⟨1, (some 10), .mv (.tmp 1), none, []⟩,
 ⟨2, (some 11), .call 29 [(.tmp 9), (.tmp 10)], none, []⟩,
 ⟨3, (some 8), .mv (.tmp 11), none, []⟩,
 ⟨4, (some 12), .ext (.tmp 8) 0, none, []⟩,
 ⟨5, (some 13), .ext (.tmp 8) 1, none, []⟩,
 ⟨6, (some 6), .alloc [(.int .i64 0), (.int .i64 0), (.int .i64 0), (.int .i64 0), (.int .i64 0), (.int .i64 0), (.int .i64 0), (.int .i64 0), (.int .i64 0), (.int .i64 0), (.int .i64 0), (.int .i64 0), (.int .i64 0), (.int .i64 0), (.int .i64 0), (.int .i64 0), (.int .i64 0), (.int .i64 0), (.int .i64 0), (.int .i64 0), (.int .i64 0), (.int .i64 0), (.int .i64 0)], none, []⟩,
 ⟨7, none, .store 23 (.tmp 6) (.tmp 12), none, []⟩,
 ⟨8, (some 7), .mv (.tmp 13), none, []⟩])
 (.seq (.seq (.reg [⟨0, (some 14), .mv (.tmp 7), none, []⟩,
 ⟨1, (some 15), .bin .neq 27 true (.tmp 14) (.con (.int .i64 0)), none, []⟩])
 (.cond (.tmp 15)
 (.seq (.reg [⟨0, (some 16), .mv (.tmp 7), none, []⟩,
 ⟨1, (some 4), .mv (.con (.int .i64 0)), none, []⟩,
 ⟨2, (some 5), .mv (.tmp 16), none, []⟩])
 (.ret))
 (.skip)))
 (.seq (.reg [⟨0, (some 17), .load (some 23) (.tmp 6), none, []⟩,
 ⟨1, (some 18), .call 31 [(.tmp 17)], none, []⟩,
 ⟨2, (some 4), .mv (.tmp 18), none, []⟩,
 ⟨3, (some 5), .mv (.con (.int .i64 0)), none, []⟩])
 (.ret)))),
 [.tmp 4, .tmp 5]⟩
theorem p_machine_Home : prepFun Go.Proofs.Tryd.prog [0, 3, 4] Go.Proofs.Tryd.f11 = some v_machine_Home := by kernel_rfl

def v_r19_Check : VFun :=
⟨.seq (.reg [⟨0, (some 1), .box (.tmp 0), none, []⟩,
 ⟨1, (some 2), .mv (.con (.int .i64 0)), none, []⟩])
 (.seq (.seq (.reg [⟨0, (some 3), .mv (.con (.int .i64 0)), none, []⟩])
 (.block 0
 (.loop
 (.seq (.seq (.reg [⟨0, (some 4), .mv (.tmp 3), none, []⟩,
 ⟨1, (some 5), .bin .lss 3 true (.tmp 4) (.con (.int .i64 4)), none, []⟩])
 (.cond (.tmp 5)
 (.skip)
 (.exit 0)))
 (.seq (.block 1
 (.seq (.reg [⟨0, (some 8), .mv (.tmp 3), none, []⟩,
 ⟨1, (some 9), .fieldA 0 (.tmp 1), none, []⟩,
 ⟨2, (some 10), .idxA (some 4) 1 (.tmp 9) (.tmp 8), none, []⟩,
 ⟨3, (some 11), .load none (.tmp 10), none, []⟩,
 ⟨4, (some 12), .bin .lss 3 true (.tmp 11) (.con (.int .i64 1)), none, []⟩,
 ⟨5, (some 13), .mv (.tmp 12), none, []⟩,
 ⟨6, (some 14), .mv (.tmp 3), (some (13, false)), []⟩,
 ⟨7, (some 15), .fieldA 0 (.tmp 1), (some (13, false)), []⟩,
 ⟨8, (some 16), .idxA (some 4) 1 (.tmp 15) (.tmp 14), (some (13, false)), []⟩,
 ⟨9, (some 17), .load none (.tmp 16), (some (13, false)), []⟩,
 ⟨10, (some 18), .bin .gtr 3 true (.tmp 17) (.con (.int .i64 8)), (some (13, false)), []⟩,
 ⟨11, (some 19), .pick (.tmp 13) (.con (.bool true)) (.tmp 18), none, []⟩,
 ⟨12, (some 20), .mv (.tmp 19), none, []⟩,
 ⟨13, (some 21), .mv (.tmp 3), (some (20, false)), []⟩,
 ⟨14, (some 22), .fieldA 4 (.tmp 1), (some (20, false)), []⟩,
 ⟨15, (some 23), .idxA (some 4) 1 (.tmp 22) (.tmp 21), (some (20, false)), []⟩,
 ⟨16, (some 24), .load none (.tmp 23), (some (20, false)), []⟩,
 ⟨17, (some 25), .bin .lss 3 true (.tmp 24) (.con (.int .i64 1)), (some (20, false)), []⟩,
 ⟨18, (some 26), .pick (.tmp 20) (.con (.bool true)) (.tmp 25), none, []⟩,
 ⟨19, (some 27), .mv (.tmp 26), none, []⟩,
 ⟨20, (some 28), .mv (.tmp 3), (some (27, false)), []⟩,
 ⟨21, (some 29), .fieldA 4 (.tmp 1), (some (27, false)), []⟩,
 ⟨22, (some 30), .idxA (some 4) 1 (.tmp 29) (.tmp 28), (some (27, false)), []⟩,
 ⟨23, (some 31), .load none (.tmp 30), (some (27, false)), []⟩,
 ⟨24, (some 32), .bin .gtr 3 true (.tmp 31) (.con (.int .i64 8)), (some (27, false)), []⟩,
 ⟨25, (some 33), .pick (.tmp 27) (.con (.bool true)) (.tmp 32), none, []⟩])
 (.cond (.tmp 33)
 (.seq (.reg [⟨0, (some 2), .mv (.con (.int .i64 2)), none, []⟩])
 (.ret))
 (.skip))))
 (.reg [⟨0, (some 6), .mv (.tmp 3), none, []⟩,
 ⟨1, (some 7), .bin .add 3 true (.tmp 6) (.con (.int .i64 1)), none, []⟩,
 ⟨2, (some 3), .mv (.tmp 7), none, []⟩]))))))
 (.seq (.seq (.reg [⟨0, (some 34), .fieldA 8 (.tmp 1), none, []⟩,
 ⟨1, (some 35), .load none (.tmp 34), none, []⟩,
 ⟨2, (some 36), .bin .lss 3 true (.tmp 35) (.con (.int .i64 1)), none, []⟩,
 ⟨3, (some 37), .mv (.tmp 36), none, []⟩,
 ⟨4, (some 38), .fieldA 8 (.tmp 1), (some (37, false)), []⟩,
 ⟨5, (some 39), .load none (.tmp 38), (some (37, false)), []⟩,
 ⟨6, (some 40), .bin .gtr 3 true (.tmp 39) (.con (.int .i64 4096)), (some (37, false)), []⟩,
 ⟨7, (some 41), .pick (.tmp 37) (.con (.bool true)) (.tmp 40), none, []⟩,
 ⟨8, (some 42), .mv (.tmp 41), none, []⟩,
 ⟨9, (some 43), .fieldA 9 (.tmp 1), (some (42, false)), []⟩,
 ⟨10, (some 44), .load none (.tmp 43), (some (42, false)), []⟩,
 ⟨11, (some 45), .bin .lss 3 true (.tmp 44) (.con (.int .i64 1)), (some (42, false)), []⟩,
 ⟨12, (some 46), .pick (.tmp 42) (.con (.bool true)) (.tmp 45), none, []⟩,
 ⟨13, (some 47), .mv (.tmp 46), none, []⟩,
 ⟨14, (some 48), .fieldA 9 (.tmp 1), (some (47, false)), []⟩,
 ⟨15, (some 49), .load none (.tmp 48), (some (47, false)), []⟩,
 ⟨16, (some 50), .bin .gtr 3 true (.tmp 49) (.con (.int .i64 8)), (some (47, false)), []⟩,
 ⟨17, (some 51), .pick (.tmp 47) (.con (.bool true)) (.tmp 50), none, []⟩,
 ⟨18, (some 52), .mv (.tmp 51), none, []⟩,
 ⟨19, (some 53), .fieldA 10 (.tmp 1), (some (52, false)), []⟩,
 ⟨20, (some 54), .load none (.tmp 53), (some (52, false)), []⟩,
 ⟨21, (some 55), .bin .lss 3 true (.tmp 54) (.con (.int .i64 4)), (some (52, false)), []⟩,
 ⟨22, (some 56), .pick (.tmp 52) (.con (.bool true)) (.tmp 55), none, []⟩,
 ⟨23, (some 57), .mv (.tmp 56), none, []⟩,
 ⟨24, (some 58), .fieldA 10 (.tmp 1), (some (57, false)), []⟩,
 ⟨25, (some 59), .load none (.tmp 58), (some (57, false)), []⟩,
 ⟨26, (some 60), .bin .gtr 3 true (.tmp 59) (.con (.int .i64 32)), (some (57, false)), []⟩,
 ⟨27, (some 61), .pick (.tmp 57) (.con (.bool true)) (.tmp 60), none, []⟩])
 (.cond (.tmp 61)
 (.seq (.reg [⟨0, (some 2), .mv (.con (.int .i64 2)), none, []⟩])
 (.ret))
 (.skip)))
 (.seq (.reg [⟨0, (some 2), .mv (.con (.int .i64 0)), none, []⟩])
 (.ret)))),
 [.tmp 2]⟩
theorem p_r19_Check : prepFun Go.Proofs.Tryd.prog [0, 3, 4] Go.Proofs.Tryd.f12 = some v_r19_Check := by kernel_rfl

def v_r19_Wrong : VFun :=
⟨.seq (.reg [⟨0, (some 2), .box (.tmp 0), none, []⟩,
 ⟨1, (some 4), .mv (.con (.int .i64 0)), none, []⟩])
 (.seq (.seq (.reg [⟨0, (some 10), .mv (.tmp 1), none, []⟩,
 ⟨1, (some 11), .len (.tmp 10), none, []⟩,
 ⟨2, (some 12), .bin .gtr 3 true (.tmp 11) (.con (.int .i64 400)), none, []⟩])
 (.cond (.tmp 12)
 (.seq (.reg [⟨0, (some 4), .mv (.con (.int .i64 3)), none, []⟩])
 (.ret))
 (.skip)))
 (.seq (.seq (.reg [⟨0, (some 5), .mv (.con (.int .i64 0)), none, []⟩])
 (.block 0
 (.loop
 (.seq (.seq (.reg [⟨0, (some 13), .mv (.tmp 5), none, []⟩,
 ⟨1, (some 14), .mv (.tmp 1), none, []⟩,
 ⟨2, (some 15), .len (.tmp 14), none, []⟩,
 ⟨3, (some 16), .bin .lss 3 false (.tmp 13) (.tmp 15), none, []⟩])
 (.cond (.tmp 16)
 (.skip)
 (.exit 0)))
 (.seq (.block 1
 (.seq (.seq (.reg [⟨0, (some 20), .mv (.tmp 1), none, []⟩,
 ⟨1, (some 21), .mv (.tmp 5), none, []⟩,
 ⟨2, (some 22), .idxA none 7 (.tmp 20) (.tmp 21), none, []⟩,
 ⟨3, (some 23), .fieldA 0 (.tmp 22), none, []⟩,
 ⟨4, (some 24), .load none (.tmp 23), none, []⟩,
 ⟨5, (some 25), .call 22 [(.tmp 24)], none, []⟩,
 ⟨6, (some 19), .mv (.tmp 25), none, []⟩,
 ⟨7, (some 26), .ext (.tmp 19) 0, none, []⟩,
 ⟨8, (some 27), .ext (.tmp 19) 1, none, []⟩,
 ⟨9, (some 6), .mv (.tmp 26), none, []⟩,
 ⟨10, (some 7), .mv (.tmp 27), none, []⟩])
 (.seq (.reg [⟨0, (some 28), .mv (.tmp 7), none, []⟩,
 ⟨1, (some 29), .un .not (.tmp 28), none, []⟩])
 (.cond (.tmp 29)
 (.seq (.reg [⟨0, (some 4), .mv (.con (.int .i64 2)), none, []⟩])
 (.ret))
 (.skip))))
 (.seq (.reg [⟨0, (some 30), .mv (.tmp 1), none, []⟩,
 ⟨1, (some 31), .mv (.tmp 5), none, []⟩,
 ⟨2, (some 32), .idxA none 7 (.tmp 30) (.tmp 31), none, []⟩,
 ⟨3, (some 33), .load (some 7) (.tmp 32), none, []⟩,
 ⟨4, (some 34), .call 26 [(.tmp 33)], none, []⟩,
 ⟨5, (some 8), .mv (.tmp 34), none, []⟩])
 (.seq (.reg [⟨0, (some 9), .mv (.con (.int .i64 0)), none, []⟩])
 (.block 2
 (.loop
 (.seq (.seq (.reg [⟨0, (some 35), .mv (.tmp 9), none, []⟩,
 ⟨1, (some 36), .mv (.tmp 8), none, []⟩,
 ⟨2, (some 37), .len (.tmp 36), none, []⟩,
 ⟨3, (some 38), .bin .lss 3 false (.tmp 35) (.tmp 37), none, []⟩])
 (.cond (.tmp 38)
 (.skip)
 (.exit 2)))
 (.seq (.block 3
 (.seq (.reg [⟨0, (some 41), .mv (.tmp 8), none, []⟩,
 ⟨1, (some 42), .mv (.tmp 9), none, []⟩,
 ⟨2, (some 43), .idxA none 1 (.tmp 41) (.tmp 42), none, []⟩,
 ⟨3, (some 44), .load none (.tmp 43), none, []⟩,
 ⟨4, (some 45), .bin .lss 3 true (.tmp 44) (.con (.int .i64 0)), none, []⟩,
 ⟨5, (some 46), .mv (.tmp 45), none, []⟩,
 ⟨6, (some 47), .mv (.tmp 8), (some (46, false)), []⟩,
 ⟨7, (some 48), .mv (.tmp 9), (some (46, false)), []⟩,
 ⟨8, (some 49), .idxA none 1 (.tmp 47) (.tmp 48), (some (46, false)), []⟩,
 ⟨9, (some 50), .load none (.tmp 49), (some (46, false)), []⟩,
 ⟨10, (some 51), .fieldA 8 (.tmp 2), (some (46, false)), []⟩,
 ⟨11, (some 52), .load none (.tmp 51), (some (46, false)), []⟩,
 ⟨12, (some 53), .bin .geq 3 false (.tmp 50) (.tmp 52), (some (46, false)), []⟩,
 ⟨13, (some 54), .pick (.tmp 46) (.con (.bool true)) (.tmp 53), none, []⟩])
 (.cond (.tmp 54)
 (.seq (.reg [⟨0, (some 4), .mv (.con (.int .i64 2)), none, []⟩])
 (.ret))
 (.skip))))
 (.reg [⟨0, (some 39), .mv (.tmp 9), none, []⟩,
 ⟨1, (some 40), .bin .add 3 true (.tmp 39) (.con (.int .i64 1)), none, []⟩,
 ⟨2, (some 9), .mv (.tmp 40), none, []⟩])))))))))
 (.reg [⟨0, (some 17), .mv (.tmp 5), none, []⟩,
 ⟨1, (some 18), .bin .add 3 true (.tmp 17) (.con (.int .i64 1)), none, []⟩,
 ⟨2, (some 5), .mv (.tmp 18), none, []⟩]))))))
 (.seq (.reg [⟨0, (some 4), .mv (.con (.int .i64 0)), none, []⟩])
 (.ret)))),
 [.tmp 4]⟩
theorem p_r19_Wrong : prepFun Go.Proofs.Tryd.prog [0, 3, 4] Go.Proofs.Tryd.f13 = some v_r19_Wrong := by kernel_rfl

def v_l19_alive : VFun :=
⟨.seq (.reg [⟨0, (some 0), .mv (.con (.bool false)), none, []⟩])
 (.seq (.reg [⟨0, (some 15), .build [(.int .i64 0), (.int .i64 0), (.int .i64 0), (.int .i64 0), (.int .i64 0), (.int .i64 0), (.int .i64 0)] [(0, 1, (.con (.int .i64 3))), (1, 1, (.con (.int .i64 4))), (2, 1, (.con (.int .i64 0))), (3, 1, (.con (.int .i64 2))), (6, 1, (.con (.int .i64 6)))], none, []⟩,
 ⟨1, (some 16), .build [(.int .i64 0), (.int .i64 0), (.int .i64 0), (.int .i64 0), (.int .i64 0), (.int .i64 0), (.int .i64 0)] [(0, 1, (.con (.int .i64 3))), (1, 1, (.con (.int .i64 5))), (2, 1, (.con (.int .i64 2))), (3, 1, (.con (.int .i64 6))), (6, 1, (.con (.int .i64 (-1))))], none, []⟩,
 ⟨2, (some 1), .alloc [(.int .i64 0), (.int .i64 0), (.int .i64 0), (.int .i64 0), (.int .i64 0), (.int .i64 0), (.int .i64 0)], none, []⟩,
 ⟨3, (some 2), .alloc [(.int .i64 0), (.int .i64 0), (.int .i64 0), (.int .i64 0), (.int .i64 0), (.int .i64 0), (.int .i64 0)], none, []⟩,
 ⟨4, none, .store 7 (.tmp 1) (.tmp 15), none, []⟩,
 ⟨5, none, .store 7 (.tmp 2) (.tmp 16), none, []⟩])
 (.seq (.reg [⟨1, (some 19), .load (some 7) (.tmp 1), none, []⟩,
 ⟨2, (some 20), .load (some 7) (.tmp 2), none, []⟩,
 ⟨3, (some 21), .bslice 7 2 [(.int .i64 0), (.int .i64 0), (.int .i64 0), (.int .i64 0), (.int .i64 0), (.int .i64 0), (.int .i64 0)] [(0, 7, (.tmp 19)), (7, 7, (.tmp 20))], none, []⟩,
 ⟨0, (some 18), .call 32 [], none, [(.tmp 1), (.tmp 2)]⟩,
 ⟨4, (some 22), .call 10 [(.tmp 18), (.tmp 21)], none, []⟩,
 ⟨5, (some 17), .mv (.tmp 22), none, []⟩,
 ⟨6, (some 23), .ext (.tmp 17) 0, none, []⟩,
 ⟨7, (some 24), .ext (.tmp 17) 1, none, []⟩,
 ⟨8, (some 3), .mv (.tmp 23), none, []⟩,
 ⟨9, (some 4), .mv (.tmp 24), none, []⟩])
 (.seq (.reg [⟨1, (some 27), .load (some 7) (.tmp 1), none, []⟩,
 ⟨2, (some 28), .bslice 7 1 [(.int .i64 0), (.int .i64 0), (.int .i64 0), (.int .i64 0), (.int .i64 0), (.int .i64 0), (.int .i64 0)] [(0, 7, (.tmp 27))], none, []⟩,
 ⟨0, (some 26), .call 32 [], none, [(.tmp 1)]⟩,
 ⟨3, (some 29), .call 10 [(.tmp 26), (.tmp 28)], none, []⟩,
 ⟨4, (some 25), .mv (.tmp 29), none, []⟩,
 ⟨5, (some 30), .ext (.tmp 25) 0, none, []⟩,
 ⟨6, (some 31), .ext (.tmp 25) 1, none, []⟩,
 ⟨7, (some 5), .mv (.tmp 30), none, []⟩,
 ⟨8, (some 6), .mv (.tmp 31), none, []⟩])
 (.seq (.reg [⟨1, (some 34), .load (some 7) (.tmp 1), none, []⟩,
 ⟨2, (some 35), .load (some 7) (.tmp 2), none, []⟩,
 ⟨3, (some 36), .load (some 7) (.tmp 1), none, []⟩,
 ⟨4, (some 37), .bslice 7 3 [(.int .i64 0), (.int .i64 0), (.int .i64 0), (.int .i64 0), (.int .i64 0), (.int .i64 0), (.int .i64 0)] [(0, 7, (.tmp 34)), (7, 7, (.tmp 35)), (14, 7, (.tmp 36))], none, []⟩,
 ⟨0, (some 33), .call 32 [], none, [(.tmp 1), (.tmp 2), (.tmp 1)]⟩,
 ⟨5, (some 38), .call 11 [(.tmp 33), (.tmp 37)], none, []⟩,
 ⟨6, (some 32), .mv (.tmp 38), none, []⟩,
 ⟨7, (some 39), .ext (.tmp 32) 0, none, []⟩,
 ⟨8, (some 40), .ext (.tmp 32) 1, none, []⟩,
 ⟨9, (some 7), .mv (.tmp 39), none, []⟩,
 ⟨10, (some 8), .mv (.tmp 40), none, []⟩])
 (.seq (.reg [⟨0, (some 42), .call 32 [], none, []⟩,
 ⟨1, (some 43), .call 17 [(.tmp 42)], none, []⟩,
 ⟨2, (some 41), .mv (.tmp 43), none, []⟩,
 ⟨3, (some 44), .ext (.tmp 41) 0, none, []⟩,
 ⟨4, (some 45), .ext (.tmp 41) 1, none, []⟩,
 ⟨5, (some 9), .mv (.tmp 44), none, []⟩,
 ⟨6, (some 10), .mv (.tmp 45), none, []⟩])
 (.seq (.reg [⟨0, (some 47), .call 19 [(.con (.string ⟨#[117, 110, 105, 116, 115, 32, 50, 32, 49, 32, 49, 32, 49, 32, 108, 97, 116, 101, 110, 99, 121, 32, 49, 32, 51, 32, 50, 32, 49, 32, 114, 101, 103, 115, 32, 51, 50, 32, 98, 97, 110, 107, 115, 32, 50, 32, 112, 111, 114, 116, 115, 32, 52]⟩))], none, []⟩,
 ⟨1, (some 46), .mv (.tmp 47), none, []⟩,
 ⟨2, (some 48), .ext (.tmp 46) 0, none, []⟩,
 ⟨3, (some 49), .ext (.tmp 46) 1, none, []⟩,
 ⟨4, (some 11), .alloc [(.int .i64 0), (.int .i64 0), (.int .i64 0), (.int .i64 0), (.int .i64 0), (.int .i64 0), (.int .i64 0), (.int .i64 0), (.int .i64 0), (.int .i64 0), (.int .i64 0)], none, []⟩,
 ⟨5, none, .store 11 (.tmp 11) (.tmp 48), none, []⟩,
 ⟨6, (some 12), .mv (.tmp 49), none, []⟩])
 (.seq (.reg [⟨0, (some 51), .call 32 [], none, []⟩,
 ⟨1, (some 52), .call 23 [(.tmp 51), (.con (.int .i64 13))], none, []⟩,
 ⟨2, (some 50), .mv (.tmp 52), none, []⟩,
 ⟨3, (some 53), .ext (.tmp 50) 0, none, []⟩,
 ⟨4, (some 54), .ext (.tmp 50) 1, none, []⟩,
 ⟨5, (some 13), .mv (.tmp 53), none, []⟩,
 ⟨6, (some 14), .mv (.tmp 54), none, []⟩])
 (.seq (.reg [⟨0, (some 55), .mv (.tmp 3), none, []⟩,
 ⟨1, (some 56), .un .not (.tmp 55), none, []⟩,
 ⟨2, (some 57), .mv (.tmp 56), none, []⟩,
 ⟨3, (some 58), .mv (.tmp 4), (some (57, true)), []⟩,
 ⟨4, (some 59), .bin .eql 27 true (.tmp 58) (.con (.int .i64 0)), (some (57, true)), []⟩,
 ⟨5, (some 60), .pick (.tmp 57) (.tmp 59) (.con (.bool false)), none, []⟩,
 ⟨6, (some 61), .mv (.tmp 60), none, []⟩,
 ⟨7, (some 62), .mv (.tmp 5), (some (61, true)), []⟩,
 ⟨8, (some 63), .pick (.tmp 61) (.tmp 62) (.con (.bool false)), none, []⟩,
 ⟨9, (some 64), .mv (.tmp 63), none, []⟩,
 ⟨10, (some 65), .mv (.tmp 6), (some (64, true)), []⟩,
 ⟨11, (some 66), .bin .eql 27 true (.tmp 65) (.con (.int .i64 0)), (some (64, true)), []⟩,
 ⟨12, (some 67), .pick (.tmp 64) (.tmp 66) (.con (.bool false)), none, []⟩,
 ⟨13, (some 68), .mv (.tmp 67), none, []⟩,
 ⟨14, (some 69), .mv (.tmp 7), (some (68, true)), []⟩,
 ⟨15, (some 70), .bin .eql 3 true (.tmp 69) (.con (.int .i64 2)), (some (68, true)), []⟩,
 ⟨16, (some 71), .pick (.tmp 68) (.tmp 70) (.con (.bool false)), none, []⟩,
 ⟨17, (some 72), .mv (.tmp 71), none, []⟩,
 ⟨18, (some 73), .mv (.tmp 8), (some (72, true)), []⟩,
 ⟨19, (some 74), .bin .eql 27 true (.tmp 73) (.con (.int .i64 0)), (some (72, true)), []⟩,
 ⟨20, (some 75), .pick (.tmp 72) (.tmp 74) (.con (.bool false)), none, []⟩,
 ⟨21, (some 76), .mv (.tmp 75), none, []⟩,
 ⟨22, (some 77), .mv (.tmp 9), (some (76, true)), []⟩,
 ⟨23, (some 78), .bin .eql 9 true (.tmp 77) (.con (.string ⟨#[117, 110, 105, 116, 115, 32, 50, 32, 49, 32, 49, 32, 49, 32, 108, 97, 116, 101, 110, 99, 121, 32, 49, 32, 51, 32, 50, 32, 49, 32, 114, 101, 103, 115, 32, 51, 50, 32, 98, 97, 110, 107, 115, 32, 50, 32, 112, 111, 114, 116, 115, 32, 52]⟩)), (some (76, true)), []⟩,
 ⟨24, (some 79), .pick (.tmp 76) (.tmp 78) (.con (.bool false)), none, []⟩,
 ⟨25, (some 80), .mv (.tmp 79), none, []⟩,
 ⟨26, (some 81), .mv (.tmp 10), (some (80, true)), []⟩,
 ⟨27, (some 82), .bin .eql 27 true (.tmp 81) (.con (.int .i64 0)), (some (80, true)), []⟩,
 ⟨28, (some 83), .pick (.tmp 80) (.tmp 82) (.con (.bool false)), none, []⟩,
 ⟨29, (some 84), .mv (.tmp 83), none, []⟩,
 ⟨30, (some 85), .load (some 11) (.tmp 11), (some (84, true)), []⟩,
 ⟨31, (some 86), .call 32 [], (some (84, true)), [(.tmp 11)]⟩,
 ⟨32, (some 87), .bin .eql 24 false (.tmp 85) (.tmp 86), (some (84, true)), []⟩,
 ⟨33, (some 88), .pick (.tmp 84) (.tmp 87) (.con (.bool false)), none, []⟩,
 ⟨34, (some 89), .mv (.tmp 88), none, []⟩,
 ⟨35, (some 90), .mv (.tmp 12), (some (89, true)), []⟩,
 ⟨36, (some 91), .bin .eql 27 true (.tmp 90) (.con (.int .i64 0)), (some (89, true)), []⟩,
 ⟨37, (some 92), .pick (.tmp 89) (.tmp 91) (.con (.bool false)), none, []⟩,
 ⟨38, (some 93), .mv (.tmp 92), none, []⟩,
 ⟨39, (some 94), .mv (.tmp 13), (some (93, true)), []⟩,
 ⟨40, (some 95), .bin .eql 3 true (.tmp 94) (.con (.int .i64 3)), (some (93, true)), []⟩,
 ⟨41, (some 96), .pick (.tmp 93) (.tmp 95) (.con (.bool false)), none, []⟩,
 ⟨42, (some 97), .mv (.tmp 96), none, []⟩,
 ⟨43, (some 98), .mv (.tmp 14), (some (97, true)), []⟩,
 ⟨44, (some 99), .bin .eql 27 true (.tmp 98) (.con (.int .i64 0)), (some (97, true)), []⟩,
 ⟨45, (some 100), .pick (.tmp 97) (.tmp 99) (.con (.bool false)), none, []⟩,
 ⟨46, (some 101), .mv (.tmp 100), none, []⟩,
 ⟨47, (some 102), .build [(.int .i64 0), (.int .i64 0), (.int .i64 0), (.int .i64 0), (.int .i64 0), (.int .i64 0), (.int .i64 0), (.int .i64 0), (.int .i64 0), (.int .i64 0), (.int .i64 0)] [], (some (101, true)), []⟩,
 ⟨48, (some 103), .call 27 [(.tmp 102)], (some (101, true)), []⟩,
 ⟨49, (some 104), .bin .eql 27 true (.tmp 103) (.con (.int .i64 2)), (some (101, true)), []⟩,
 ⟨50, (some 105), .pick (.tmp 101) (.tmp 104) (.con (.bool false)), none, []⟩,
 ⟨51, (some 0), .mv (.tmp 105), none, []⟩])
 (.ret))))))))),
 [.tmp 0]⟩
theorem p_l19_alive : prepFun Go.Proofs.Tryd.prog [0, 3, 4] Go.Proofs.Tryd.f14 = some v_l19_alive := by kernel_rfl

def v_r19_Together : VFun :=
⟨.seq (.reg [⟨0, (some 2), .box (.tmp 0), none, []⟩,
 ⟨1, (some 4), .mv (.con (.bool false)), none, []⟩])
 (.seq (.reg [⟨0, (some 5), .load (some 11) (.tmp 2), none, []⟩,
 ⟨1, (some 6), .mv (.tmp 1), none, []⟩,
 ⟨2, (some 7), .call 16 [(.tmp 5), (.tmp 6)], none, []⟩,
 ⟨3, (some 8), .bin .leq 3 true (.tmp 7) (.con (.int .i64 1)), none, []⟩,
 ⟨4, (some 4), .mv (.tmp 8), none, []⟩])
 (.ret)),
 [.tmp 4]⟩
theorem p_r19_Together : prepFun Go.Proofs.Tryd.prog [0, 3, 4] Go.Proofs.Tryd.f15 = some v_r19_Together := by kernel_rfl

def v_r19_Home : VFun :=
⟨.seq (.reg [⟨0, (some 2), .box (.tmp 0), none, []⟩,
 ⟨1, (some 4), .mv (.con (.int .i64 0)), none, []⟩])
 (.seq (.reg [⟨0, (some 11), .load (some 11) (.tmp 2), none, []⟩,
 ⟨1, (some 12), .mv (.tmp 1), none, []⟩,
 ⟨2, (some 13), .call 33 [(.tmp 11), (.tmp 12)], none, []⟩,
 ⟨3, (some 10), .mv (.tmp 13), none, []⟩,
 ⟨4, (some 14), .ext (.tmp 10) 0, none, []⟩,
 ⟨5, (some 15), .ext (.tmp 10) 1, none, []⟩,
 ⟨6, (some 5), .alloc [(.int .i64 0), (.int .i64 0), (.int .i64 0), (.int .i64 0)], none, []⟩,
 ⟨7, none, .store 4 (.tmp 5) (.tmp 14), none, []⟩,
 ⟨8, (some 6), .mv (.tmp 15), none, []⟩])
 (.seq (.reg [⟨0, (some 7), .mv (.con (.int .i64 0)), none, []⟩])
 (.seq (.seq (.reg [⟨0, (some 8), .mv (.con (.int .i64 0)), none, []⟩])
 (.block 0
 (.loop
 (.seq (.seq (.reg [⟨0, (some 16), .mv (.tmp 8), none, []⟩,
 ⟨1, (some 17), .bin .lss 3 true (.tmp 16) (.con (.int .i64 4)), none, []⟩])
 (.cond (.tmp 17)
 (.skip)
 (.exit 0)))
 (.seq (.block 1
 (.reg [⟨0, (some 20), .mv (.tmp 7), none, []⟩,
 ⟨1, (some 21), .mv (.tmp 8), none, []⟩,
 ⟨2, (some 22), .idxA (some 4) 1 (.tmp 5) (.tmp 21), none, []⟩,
 ⟨3, (some 23), .load none (.tmp 22), none, []⟩,
 ⟨4, (some 24), .mv (.tmp 8), none, []⟩,
 ⟨5, (some 25), .fieldA 0 (.tmp 2), none, []⟩,
 ⟨6, (some 26), .idxA (some 4) 1 (.tmp 25) (.tmp 24), none, []⟩,
 ⟨7, (some 27), .load none (.tmp 26), none, []⟩,
 ⟨8, (some 28), .bin .add 3 false (.tmp 23) (.tmp 27), none, []⟩,
 ⟨9, (some 29), .bin .sub 3 true (.tmp 28) (.con (.int .i64 1)), none, []⟩,
 ⟨10, (some 30), .mv (.tmp 8), none, []⟩,
 ⟨11, (some 31), .fieldA 0 (.tmp 2), none, []⟩,
 ⟨12, (some 32), .idxA (some 4) 1 (.tmp 31) (.tmp 30), none, []⟩,
 ⟨13, (some 33), .load none (.tmp 32), none, []⟩,
 ⟨14, (some 34), .bin .quo 3 false (.tmp 29) (.tmp 33), none, []⟩,
 ⟨15, (some 35), .bi .max [3, 3] 3 [(.tmp 20), (.tmp 34)], none, []⟩,
 ⟨16, (some 7), .mv (.tmp 35), none, []⟩]))
 (.reg [⟨0, (some 18), .mv (.tmp 8), none, []⟩,
 ⟨1, (some 19), .bin .add 3 true (.tmp 18) (.con (.int .i64 1)), none, []⟩,
 ⟨2, (some 8), .mv (.tmp 19), none, []⟩]))))))
 (.seq (.seq (.reg [⟨0, (some 9), .mv (.con (.int .i64 0)), none, []⟩])
 (.block 2
 (.loop
 (.seq (.seq (.reg [⟨0, (some 36), .mv (.tmp 9), none, []⟩,
 ⟨1, (some 37), .mv (.tmp 6), none, []⟩,
 ⟨2, (some 38), .len (.tmp 37), none, []⟩,
 ⟨3, (some 39), .bin .lss 3 false (.tmp 36) (.tmp 38), none, []⟩])
 (.cond (.tmp 39)
 (.skip)
 (.exit 2)))
 (.seq (.block 3
 (.reg [⟨0, (some 42), .mv (.tmp 7), none, []⟩,
 ⟨1, (some 43), .mv (.tmp 6), none, []⟩,
 ⟨2, (some 44), .mv (.tmp 9), none, []⟩,
 ⟨3, (some 45), .idxA none 1 (.tmp 43) (.tmp 44), none, []⟩,
 ⟨4, (some 46), .load none (.tmp 45), none, []⟩,
 ⟨5, (some 47), .fieldA 10 (.tmp 2), none, []⟩,
 ⟨6, (some 48), .load none (.tmp 47), none, []⟩,
 ⟨7, (some 49), .bin .add 3 false (.tmp 46) (.tmp 48), none, []⟩,
 ⟨8, (some 50), .bin .sub 3 true (.tmp 49) (.con (.int .i64 1)), none, []⟩,
 ⟨9, (some 51), .fieldA 10 (.tmp 2), none, []⟩,
 ⟨10, (some 52), .load none (.tmp 51), none, []⟩,
 ⟨11, (some 53), .bin .quo 3 false (.tmp 50) (.tmp 52), none, []⟩,
 ⟨12, (some 54), .bi .max [3, 3] 3 [(.tmp 42), (.tmp 53)], none, []⟩,
 ⟨13, (some 7), .mv (.tmp 54), none, []⟩]))
 (.reg [⟨0, (some 40), .mv (.tmp 9), none, []⟩,
 ⟨1, (some 41), .bin .add 3 true (.tmp 40) (.con (.int .i64 1)), none, []⟩,
 ⟨2, (some 9), .mv (.tmp 41), none, []⟩]))))))
 (.seq (.reg [⟨0, (some 55), .mv (.tmp 7), none, []⟩,
 ⟨1, (some 4), .mv (.tmp 55), none, []⟩])
 (.ret)))))),
 [.tmp 4]⟩
theorem p_r19_Home : prepFun Go.Proofs.Tryd.prog [0, 3, 4] Go.Proofs.Tryd.f16 = some v_r19_Home := by kernel_rfl

end Go.VX.Seat
end
section
set_option maxRecDepth 20000
/-! MADE BY PROGRAM (lits.py): functions as they are prepared. -/
namespace Go.VX.Seat
def v_machine_Text : VFun :=
⟨.seq (.reg [⟨0, (some 1), .box (.tmp 0), none, []⟩,
 ⟨1, (some 2), .mv (.con (.string ⟨#[]⟩)), none, []⟩,
 ⟨2, (some 3), .mv (.con (.int .i64 0)), none, []⟩])
 (.seq (.seq (.reg [⟨0, (some 5), .load (some 11) (.tmp 1), none, []⟩,
 ⟨1, (some 6), .call 27 [(.tmp 5)], none, []⟩,
 ⟨2, (some 4), .mv (.tmp 6), none, []⟩])
 (.seq (.reg [⟨0, (some 7), .mv (.tmp 4), none, []⟩,
 ⟨1, (some 8), .bin .neq 27 true (.tmp 7) (.con (.int .i64 0)), none, []⟩])
 (.cond (.tmp 8)
 (.seq (.reg [⟨0, (some 9), .mv (.tmp 4), none, []⟩,
 ⟨1, (some 2), .mv (.con (.string ⟨#[]⟩)), none, []⟩,
 ⟨2, (some 3), .mv (.tmp 9), none, []⟩])
 (.ret))
 (.skip))))
 (.seq (.reg [⟨0, (some 10), .load (some 11) (.tmp 1), none, []⟩,
 ⟨1, (some 11), .call 34 [(.tmp 10)], none, []⟩,
 ⟨2, (some 2), .mv (.tmp 11), none, []⟩,
 ⟨3, (some 3), .mv (.con (.int .i64 0)), none, []⟩])
 (.ret))),
 [.tmp 2, .tmp 3]⟩
theorem p_machine_Text : prepFun Go.Proofs.Tryd.prog [0, 3, 4] Go.Proofs.Tryd.f17 = some v_machine_Text := by kernel_rfl

def v_machine_Parse : VFun :=
⟨.seq (.reg [⟨0, (some 2), .alloc [(.int .i64 0), (.int .i64 0), (.int .i64 0), (.int .i64 0), (.int .i64 0), (.int .i64 0), (.int .i64 0), (.int .i64 0), (.int .i64 0), (.int .i64 0), (.int .i64 0)], none, []⟩,
 ⟨1, (some 3), .mv (.con (.int .i64 0)), none, []⟩])
 (.seq (.seq (.reg [⟨0, (some 8), .mv (.tmp 0), none, []⟩,
 ⟨1, (some 9), .bi .len [9] 3 [(.tmp 8)], none, []⟩,
 ⟨2, (some 10), .bin .gtr 3 true (.tmp 9) (.con (.int .i64 400)), none, []⟩])
 (.cond (.tmp 10)
 (.seq (.reg [⟨0, (some 11), .build [(.int .i64 0), (.int .i64 0), (.int .i64 0), (.int .i64 0), (.int .i64 0), (.int .i64 0), (.int .i64 0), (.int .i64 0), (.int .i64 0), (.int .i64 0), (.int .i64 0)] [], none, []⟩,
 ⟨1, none, .store 11 (.tmp 2) (.tmp 11), none, []⟩,
 ⟨2, (some 3), .mv (.con (.int .i64 3)), none, []⟩])
 (.ret))
 (.skip)))
 (.seq (.reg [⟨0, (some 12), .mv (.tmp 0), none, []⟩,
 ⟨1, (some 13), .call 36 [(.tmp 12), (.con (.string ⟨#[32]⟩))], none, []⟩,
 ⟨2, (some 4), .alloc [(.slice none 0 0)], none, []⟩,
 ⟨3, none, .store 1 (.tmp 4) (.tmp 13), none, []⟩])
 (.seq (.seq (.reg [⟨0, (some 14), .load none (.tmp 4), none, []⟩,
 ⟨1, (some 15), .len (.tmp 14), none, []⟩,
 ⟨2, (some 16), .bin .neq 3 true (.tmp 15) (.con (.int .i64 16)), none, []⟩])
 (.cond (.tmp 16)
 (.seq (.reg [⟨0, (some 17), .build [(.int .i64 0), (.int .i64 0), (.int .i64 0), (.int .i64 0), (.int .i64 0), (.int .i64 0), (.int .i64 0), (.int .i64 0), (.int .i64 0), (.int .i64 0), (.int .i64 0)] [], none, []⟩,
 ⟨1, none, .store 11 (.tmp 2) (.tmp 17), none, []⟩,
 ⟨2, (some 3), .mv (.con (.int .i64 4)), none, []⟩])
 (.ret))
 (.skip)))
 (.seq (.reg [⟨0, (some 18), .mkfn 37 [] [(.tmp 4)], none, []⟩,
 ⟨1, (some 5), .mv (.tmp 18), none, []⟩])
 (.seq (.reg [⟨0, (some 6), .alloc [(.int .i64 0), (.int .i64 0), (.int .i64 0), (.int .i64 0), (.int .i64 0), (.int .i64 0), (.int .i64 0), (.int .i64 0), (.int .i64 0), (.int .i64 0), (.int .i64 0)], none, []⟩])
 (.seq (.seq (.reg [⟨0, (some 19), .mv (.con (.int .i64 0)), none, []⟩])
 (.block 0
 (.loop
 (.seq (.reg [⟨0, (some 20), .bin .lss 3 true (.tmp 19) (.con (.int .i64 4)), none, []⟩])
 (.seq (.cond (.tmp 20)
 (.skip)
 (.exit 0))
 (.seq (.block 1
 (.seq (.reg [⟨0, (some 21), .mv (.tmp 19), none, []⟩,
 ⟨1, (some 7), .mv (.tmp 21), none, []⟩])
 (.reg [⟨0, (some 22), .mv (.tmp 7), none, []⟩,
 ⟨1, (some 23), .mv (.tmp 7), none, []⟩,
 ⟨2, (some 24), .mv (.tmp 5), none, []⟩,
 ⟨3, (some 25), .mv (.tmp 7), none, []⟩,
 ⟨4, (some 26), .bin .add 3 true (.con (.int .i64 1)) (.tmp 25), none, []⟩,
 ⟨6, (some 28), .mv (.tmp 5), none, []⟩,
 ⟨7, (some 29), .mv (.tmp 7), none, []⟩,
 ⟨8, (some 30), .bin .add 3 true (.con (.int .i64 6)) (.tmp 29), none, []⟩,
 ⟨10, (some 32), .fieldA 0 (.tmp 6), none, []⟩,
 ⟨13, (some 34), .fieldA 4 (.tmp 6), none, []⟩,
 ⟨5, (some 27), .callv (.tmp 24) [(.tmp 26)], none, []⟩,
 ⟨11, (some 33), .idxA (some 4) 1 (.tmp 32) (.tmp 22), none, []⟩,
 ⟨9, (some 31), .callv (.tmp 28) [(.tmp 30)], none, []⟩,
 ⟨12, none, .store 1 (.tmp 33) (.tmp 27), none, []⟩,
 ⟨14, (some 35), .idxA (some 4) 1 (.tmp 34) (.tmp 23), none, []⟩,
 ⟨15, none, .store 1 (.tmp 35) (.tmp 31), none, []⟩])))
 (.reg [⟨0, (some 36), .bin .add 3 true (.tmp 19) (.con (.int .i64 1)), none, []⟩,
 ⟨1, (some 19), .mv (.tmp 36), none, []⟩])))))))
 (.seq (.reg [⟨0, (some 37), .mv (.tmp 5), none, []⟩,
 ⟨1, (some 38), .callv (.tmp 37) [(.con (.int .i64 11))], none, []⟩,
 ⟨2, (some 39), .mv (.tmp 5), none, []⟩,
 ⟨3, (some 40), .callv (.tmp 39) [(.con (.int .i64 13))], none, []⟩,
 ⟨4, (some 41), .mv (.tmp 5), none, []⟩,
 ⟨5, (some 42), .callv (.tmp 41) [(.con (.int .i64 15))], none, []⟩,
 ⟨6, (some 43), .fieldA 8 (.tmp 6), none, []⟩,
 ⟨7, none, .store 1 (.tmp 43) (.tmp 38), none, []⟩,
 ⟨8, (some 44), .fieldA 9 (.tmp 6), none, []⟩,
 ⟨9, none, .store 1 (.tmp 44) (.tmp 40), none, []⟩,
 ⟨10, (some 45), .fieldA 10 (.tmp 6), none, []⟩,
 ⟨11, none, .store 1 (.tmp 45) (.tmp 42), none, []⟩])
 (.seq (.seq (.reg [⟨0, (some 46), .load (some 11) (.tmp 6), none, []⟩,
 ⟨1, (some 47), .call 34 [(.tmp 46)], none, []⟩,
 ⟨2, (some 48), .mv (.tmp 0), none, []⟩,
 ⟨3, (some 49), .bin .neq 9 false (.tmp 47) (.tmp 48), none, []⟩,
 ⟨4, (some 50), .mv (.tmp 49), none, []⟩,
 ⟨5, (some 51), .load (some 11) (.tmp 6), (some (50, false)), []⟩,
 ⟨6, (some 52), .call 27 [(.tmp 51)], (some (50, false)), []⟩,
 ⟨7, (some 53), .bin .neq 27 true (.tmp 52) (.con (.int .i64 0)), (some (50, false)), []⟩,
 ⟨8, (some 54), .pick (.tmp 50) (.con (.bool true)) (.tmp 53), none, []⟩])
 (.cond (.tmp 54)
 (.seq (.reg [⟨0, (some 55), .build [(.int .i64 0), (.int .i64 0), (.int .i64 0), (.int .i64 0), (.int .i64 0), (.int .i64 0), (.int .i64 0), (.int .i64 0), (.int .i64 0), (.int .i64 0), (.int .i64 0)] [], none, []⟩,
 ⟨1, none, .store 11 (.tmp 2) (.tmp 55), none, []⟩,
 ⟨2, (some 3), .mv (.con (.int .i64 4)), none, []⟩])
 (.ret))
 (.skip)))
 (.seq (.reg [⟨0, (some 56), .load (some 11) (.tmp 6), none, []⟩,
 ⟨1, none, .store 11 (.tmp 2) (.tmp 56), none, []⟩,
 ⟨2, (some 3), .mv (.con (.int .i64 0)), none, []⟩])
 (.ret)))))))))),
 [.cell 2 (some 11), .tmp 3]⟩
theorem p_machine_Parse : prepFun Go.Proofs.Tryd.prog [0, 3, 4] Go.Proofs.Tryd.f19 = some v_machine_Parse := by kernel_rfl

def v_machine_Class : VFun :=
⟨.seq (.reg [⟨0, (some 2), .mv (.con (.int .i64 0)), none, []⟩,
 ⟨1, (some 3), .mv (.con (.bool false)), none, []⟩])
 (.seq (.seq (.reg [⟨0, (some 6), .mv (.tmp 0), none, []⟩])
 (.block 0
 (.seq (.seq (.reg [⟨0, (some 8), .bin .eql 3 true (.tmp 6) (.con (.int .i64 26)), none, []⟩,
 ⟨1, (some 7), .mv (.tmp 8), none, []⟩])
 (.cond (.tmp 7)
 (.skip)
 (.seq (.reg [⟨0, (some 9), .bin .eql 3 true (.tmp 6) (.con (.int .i64 27)), none, []⟩,
 ⟨1, (some 7), .mv (.tmp 9), none, []⟩])
 (.cond (.tmp 7)
 (.skip)
 (.reg [⟨0, (some 10), .bin .eql 3 true (.tmp 6) (.con (.int .i64 28)), none, []⟩,
 ⟨1, (some 7), .mv (.tmp 10), none, []⟩])))))
 (.cond (.tmp 7)
 (.seq (.reg [⟨0, (some 2), .mv (.con (.int .i64 3)), none, []⟩,
 ⟨1, (some 3), .mv (.con (.bool true)), none, []⟩])
 (.ret))
 (.skip)))))
 (.seq (.reg [⟨0, (some 12), .mv (.tmp 0), none, []⟩,
 ⟨1, (some 13), .call 41 [(.tmp 12)], none, []⟩,
 ⟨2, (some 11), .mv (.tmp 13), none, []⟩,
 ⟨3, (some 14), .ext (.tmp 11) 0, none, []⟩,
 ⟨4, (some 15), .ext (.tmp 11) 1, none, []⟩,
 ⟨5, (some 4), .mv (.tmp 14), none, []⟩,
 ⟨6, (some 5), .mv (.tmp 15), none, []⟩])
 (.seq (.reg [⟨0, (some 16), .mv (.tmp 4), none, []⟩,
 ⟨1, (some 17), .mv (.tmp 5), none, []⟩,
 ⟨2, (some 18), .bin .eql 27 true (.tmp 17) (.con (.int .i64 0)), none, []⟩,
 ⟨3, (some 2), .mv (.tmp 16), none, []⟩,
 ⟨4, (some 3), .mv (.tmp 18), none, []⟩])
 (.ret)))),
 [.tmp 2, .tmp 3]⟩
theorem p_machine_Class : prepFun Go.Proofs.Tryd.prog [0, 3, 4] Go.Proofs.Tryd.f21 = some v_machine_Class := by kernel_rfl

def v_r19_Class : VFun :=
⟨.seq (.reg [⟨0, (some 2), .mv (.con (.int .i64 0)), none, []⟩,
 ⟨1, (some 3), .mv (.con (.bool false)), none, []⟩])
 (.seq (.block 0
 (.seq (.reg [⟨0, (some 5), .mv (.tmp 0), none, []⟩,
 ⟨1, (some 6), .bin .geq 3 true (.tmp 5) (.con (.int .i64 1)), none, []⟩,
 ⟨2, (some 7), .mv (.tmp 6), none, []⟩,
 ⟨3, (some 8), .mv (.tmp 0), (some (7, true)), []⟩,
 ⟨4, (some 9), .bin .leq 3 true (.tmp 8) (.con (.int .i64 12)), (some (7, true)), []⟩,
 ⟨5, (some 10), .pick (.tmp 7) (.tmp 9) (.con (.bool false)), none, []⟩,
 ⟨6, (some 4), .mv (.tmp 10), none, []⟩])
 (.cond (.tmp 4)
 (.seq (.reg [⟨0, (some 2), .mv (.con (.int .i64 0)), none, []⟩,
 ⟨1, (some 3), .mv (.con (.bool true)), none, []⟩])
 (.ret))
 (.seq (.seq (.reg [⟨0, (some 12), .mv (.tmp 0), none, []⟩,
 ⟨1, (some 13), .bin .geq 3 true (.tmp 12) (.con (.int .i64 13)), none, []⟩,
 ⟨2, (some 14), .mv (.tmp 13), none, []⟩,
 ⟨3, (some 15), .mv (.tmp 0), (some (14, true)), []⟩,
 ⟨4, (some 16), .bin .leq 3 true (.tmp 15) (.con (.int .i64 15)), (some (14, true)), []⟩,
 ⟨5, (some 17), .pick (.tmp 14) (.tmp 16) (.con (.bool false)), none, []⟩,
 ⟨6, (some 11), .mv (.tmp 17), none, []⟩])
 (.cond (.tmp 11)
 (.skip)
 (.seq (.reg [⟨0, (some 18), .mv (.tmp 0), none, []⟩,
 ⟨1, (some 19), .bin .eql 3 true (.tmp 18) (.con (.int .i64 23)), none, []⟩,
 ⟨2, (some 11), .mv (.tmp 19), none, []⟩])
 (.cond (.tmp 11)
 (.skip)
 (.reg [⟨0, (some 20), .mv (.tmp 0), none, []⟩,
 ⟨1, (some 21), .bin .eql 3 true (.tmp 20) (.con (.int .i64 24)), none, []⟩,
 ⟨2, (some 11), .mv (.tmp 21), none, []⟩])))))
 (.cond (.tmp 11)
 (.seq (.reg [⟨0, (some 2), .mv (.con (.int .i64 1)), none, []⟩,
 ⟨1, (some 3), .mv (.con (.bool true)), none, []⟩])
 (.ret))
 (.seq (.seq (.reg [⟨0, (some 23), .mv (.tmp 0), none, []⟩,
 ⟨1, (some 24), .bin .geq 3 true (.tmp 23) (.con (.int .i64 16)), none, []⟩,
 ⟨2, (some 25), .mv (.tmp 24), none, []⟩,
 ⟨3, (some 26), .mv (.tmp 0), (some (25, true)), []⟩,
 ⟨4, (some 27), .bin .leq 3 true (.tmp 26) (.con (.int .i64 19)), (some (25, true)), []⟩,
 ⟨5, (some 28), .pick (.tmp 25) (.tmp 27) (.con (.bool false)), none, []⟩,
 ⟨6, (some 22), .mv (.tmp 28), none, []⟩])
 (.cond (.tmp 22)
 (.skip)
 (.reg [⟨0, (some 29), .mv (.tmp 0), none, []⟩,
 ⟨1, (some 30), .bin .eql 3 true (.tmp 29) (.con (.int .i64 25)), none, []⟩,
 ⟨2, (some 22), .mv (.tmp 30), none, []⟩])))
 (.cond (.tmp 22)
 (.seq (.reg [⟨0, (some 2), .mv (.con (.int .i64 2)), none, []⟩,
 ⟨1, (some 3), .mv (.con (.bool true)), none, []⟩])
 (.ret))
 (.seq (.seq (.reg [⟨0, (some 32), .mv (.tmp 0), none, []⟩,
 ⟨1, (some 33), .bin .geq 3 true (.tmp 32) (.con (.int .i64 20)), none, []⟩,
 ⟨2, (some 34), .mv (.tmp 33), none, []⟩,
 ⟨3, (some 35), .mv (.tmp 0), (some (34, true)), []⟩,
 ⟨4, (some 36), .bin .leq 3 true (.tmp 35) (.con (.int .i64 22)), (some (34, true)), []⟩,
 ⟨5, (some 37), .pick (.tmp 34) (.tmp 36) (.con (.bool false)), none, []⟩,
 ⟨6, (some 31), .mv (.tmp 37), none, []⟩])
 (.cond (.tmp 31)
 (.skip)
 (.reg [⟨0, (some 38), .mv (.tmp 0), none, []⟩,
 ⟨1, (some 39), .bin .geq 3 true (.tmp 38) (.con (.int .i64 26)), none, []⟩,
 ⟨2, (some 40), .mv (.tmp 39), none, []⟩,
 ⟨3, (some 41), .mv (.tmp 0), (some (40, true)), []⟩,
 ⟨4, (some 42), .bin .leq 3 true (.tmp 41) (.con (.int .i64 28)), (some (40, true)), []⟩,
 ⟨5, (some 43), .pick (.tmp 40) (.tmp 42) (.con (.bool false)), none, []⟩,
 ⟨6, (some 31), .mv (.tmp 43), none, []⟩])))
 (.cond (.tmp 31)
 (.seq (.reg [⟨0, (some 2), .mv (.con (.int .i64 3)), none, []⟩,
 ⟨1, (some 3), .mv (.con (.bool true)), none, []⟩])
 (.ret))
 (.skip))))))))))
 (.seq (.reg [⟨0, (some 2), .mv (.con (.int .i64 0)), none, []⟩,
 ⟨1, (some 3), .mv (.con (.bool false)), none, []⟩])
 (.ret))),
 [.tmp 2, .tmp 3]⟩
theorem p_r19_Class : prepFun Go.Proofs.Tryd.prog [0, 3, 4] Go.Proofs.Tryd.f22 = some v_r19_Class := by kernel_rfl

def v_machine_Latency : VFun :=
⟨.seq (.reg [⟨0, (some 2), .box (.tmp 0), none, []⟩,
 ⟨1, (some 4), .mv (.con (.int .i64 0)), none, []⟩,
 ⟨2, (some 5), .mv (.con (.int .i64 0)), none, []⟩])
 (.seq (.seq (.reg [⟨0, (some 9), .load (some 11) (.tmp 2), none, []⟩,
 ⟨1, (some 10), .call 27 [(.tmp 9)], none, []⟩,
 ⟨2, (some 6), .mv (.tmp 10), none, []⟩])
 (.seq (.reg [⟨0, (some 11), .mv (.tmp 6), none, []⟩,
 ⟨1, (some 12), .bin .neq 27 true (.tmp 11) (.con (.int .i64 0)), none, []⟩])
 (.cond (.tmp 12)
 (.seq (.reg [⟨0, (some 13), .mv (.tmp 6), none, []⟩,
 ⟨1, (some 4), .mv (.con (.int .i64 0)), none, []⟩,
 ⟨2, (some 5), .mv (.tmp 13), none, []⟩])
 (.ret))
 (.skip))))
 (.seq (.reg [⟨0, (some 15), .mv (.tmp 1), none, []⟩,
 ⟨1, (some 16), .call 21 [(.tmp 15)], none, []⟩,
 ⟨2, (some 14), .mv (.tmp 16), none, []⟩,
 ⟨3, (some 17), .ext (.tmp 14) 0, none, []⟩,
 ⟨4, (some 18), .ext (.tmp 14) 1, none, []⟩,
 ⟨5, (some 7), .mv (.tmp 17), none, []⟩,
 ⟨6, (some 8), .mv (.tmp 18), none, []⟩])
 (.seq (.seq (.reg [⟨0, (some 19), .mv (.tmp 8), none, []⟩,
 ⟨1, (some 20), .un .not (.tmp 19), none, []⟩])
 (.cond (.tmp 20)
 (.seq (.reg [⟨0, (some 4), .mv (.con (.int .i64 0)), none, []⟩,
 ⟨1, (some 5), .mv (.con (.int .i64 2)), none, []⟩])
 (.ret))
 (.skip)))
 (.seq (.reg [⟨0, (some 21), .mv (.tmp 7), none, []⟩,
 ⟨1, (some 22), .fieldA 4 (.tmp 2), none, []⟩,
 ⟨2, (some 23), .idxA (some 4) 1 (.tmp 22) (.tmp 21), none, []⟩,
 ⟨3, (some 24), .load none (.tmp 23), none, []⟩,
 ⟨4, (some 4), .mv (.tmp 24), none, []⟩,
 ⟨5, (some 5), .mv (.con (.int .i64 0)), none, []⟩])
 (.ret))))),
 [.tmp 4, .tmp 5]⟩
theorem p_machine_Latency : prepFun Go.Proofs.Tryd.prog [0, 3, 4] Go.Proofs.Tryd.f23 = some v_machine_Latency := by kernel_rfl

def v_machine_Bank : VFun :=
⟨.seq (.reg [⟨0, (some 2), .box (.tmp 0), none, []⟩,
 ⟨1, (some 4), .mv (.con (.int .i64 0)), none, []⟩,
 ⟨2, (some 5), .mv (.con (.int .i64 0)), none, []⟩])
 (.seq (.seq (.reg [⟨0, (some 7), .load (some 11) (.tmp 2), none, []⟩,
 ⟨1, (some 8), .call 27 [(.tmp 7)], none, []⟩,
 ⟨2, (some 6), .mv (.tmp 8), none, []⟩])
 (.seq (.reg [⟨0, (some 9), .mv (.tmp 6), none, []⟩,
 ⟨1, (some 10), .bin .neq 27 true (.tmp 9) (.con (.int .i64 0)), none, []⟩])
 (.cond (.tmp 10)
 (.seq (.reg [⟨0, (some 11), .mv (.tmp 6), none, []⟩,
 ⟨1, (some 4), .mv (.con (.int .i64 0)), none, []⟩,
 ⟨2, (some 5), .mv (.tmp 11), none, []⟩])
 (.ret))
 (.skip))))
 (.seq (.seq (.reg [⟨0, (some 12), .mv (.tmp 1), none, []⟩,
 ⟨1, (some 13), .fieldA 8 (.tmp 2), none, []⟩,
 ⟨2, (some 14), .load none (.tmp 13), none, []⟩,
 ⟨3, (some 15), .bin .sub 3 true (.tmp 14) (.con (.int .i64 1)), none, []⟩,
 ⟨4, (some 16), .call 42 [(.tmp 12), (.con (.int .i64 0)), (.tmp 15)], none, []⟩,
 ⟨5, (some 17), .un .not (.tmp 16), none, []⟩])
 (.cond (.tmp 17)
 (.seq (.reg [⟨0, (some 4), .mv (.con (.int .i64 0)), none, []⟩,
 ⟨1, (some 5), .mv (.con (.int .i64 2)), none, []⟩])
 (.ret))
 (.skip)))
 (.seq (.reg [⟨0, (some 18), .mv (.tmp 1), none, []⟩,
 ⟨1, (some 19), .fieldA 9 (.tmp 2), none, []⟩,
 ⟨2, (some 20), .load none (.tmp 19), none, []⟩,
 ⟨3, (some 21), .bin .rem 3 false (.tmp 18) (.tmp 20), none, []⟩,
 ⟨4, (some 4), .mv (.tmp 21), none, []⟩,
 ⟨5, (some 5), .mv (.con (.int .i64 0)), none, []⟩])
 (.ret)))),
 [.tmp 4, .tmp 5]⟩
theorem p_machine_Bank : prepFun Go.Proofs.Tryd.prog [0, 3, 4] Go.Proofs.Tryd.f24 = some v_machine_Bank := by kernel_rfl

def v_machine_Reads : VFun :=
⟨.seq (.reg [⟨0, (some 1), .box (.tmp 0), none, []⟩,
 ⟨1, (some 2), .mv (.con (.slice none 0 0)), none, []⟩])
 (.seq (.reg [⟨0, (some 3), .mv (.con (.slice none 0 0)), none, []⟩])
 (.seq (.seq (.reg [⟨0, (some 7), .fieldA 0 (.tmp 1), none, []⟩,
 ⟨1, (some 8), .load none (.tmp 7), none, []⟩])
 (.block 0
 (.seq (.seq (.reg [⟨0, (some 15), .bin .eql 3 true (.tmp 8) (.con (.int .i64 26)), none, []⟩,
 ⟨1, (some 14), .mv (.tmp 15), none, []⟩])
 (.cond (.tmp 14)
 (.skip)
 (.seq (.reg [⟨0, (some 16), .bin .eql 3 true (.tmp 8) (.con (.int .i64 27)), none, []⟩,
 ⟨1, (some 14), .mv (.tmp 16), none, []⟩])
 (.cond (.tmp 14)
 (.skip)
 (.reg [⟨0, (some 17), .bin .eql 3 true (.tmp 8) (.con (.int .i64 28)), none, []⟩,
 ⟨1, (some 14), .mv (.tmp 17), none, []⟩])))))
 (.cond (.tmp 14)
 (.seq (.seq (.reg [⟨0, (some 18), .fieldA 6 (.tmp 1), none, []⟩,
 ⟨1, (some 19), .load none (.tmp 18), none, []⟩,
 ⟨2, (some 20), .bin .neq 3 true (.tmp 19) (.con (.int .i64 (-1))), none, []⟩])
 (.cond (.tmp 20)
 (.reg [⟨0, (some 21), .mv (.tmp 3), none, []⟩,
 ⟨1, (some 22), .fieldA 6 (.tmp 1), none, []⟩,
 ⟨2, (some 23), .load none (.tmp 22), none, []⟩,
 ⟨3, (some 24), .bslice 1 1 [(.int .i64 0)] [(0, 1, (.tmp 23))], none, []⟩,
 ⟨4, (some 25), .append 1 8 (.tmp 21) (.tmp 24), none, []⟩,
 ⟨5, (some 3), .mv (.tmp 25), none, []⟩])
 (.skip)))
 (.seq (.reg [⟨0, (some 26), .fieldA 0 (.tmp 1), none, []⟩,
 ⟨1, (some 27), .load none (.tmp 26), none, []⟩,
 ⟨2, (some 28), .bin .neq 3 true (.tmp 27) (.con (.int .i64 26)), none, []⟩])
 (.cond (.tmp 28)
 (.reg [⟨0, (some 29), .mv (.tmp 3), none, []⟩,
 ⟨1, (some 30), .fieldA 2 (.tmp 1), none, []⟩,
 ⟨2, (some 31), .load none (.tmp 30), none, []⟩,
 ⟨3, (some 32), .bslice 1 1 [(.int .i64 0)] [(0, 1, (.tmp 31))], none, []⟩,
 ⟨4, (some 33), .append 1 8 (.tmp 29) (.tmp 32), none, []⟩,
 ⟨5, (some 3), .mv (.tmp 33), none, []⟩])
 (.skip))))
 (.reg [⟨0, (some 10), .load (some 7) (.tmp 1), none, []⟩,
 ⟨1, (some 11), .call 43 [(.tmp 10)], none, []⟩,
 ⟨2, (some 9), .mv (.tmp 11), none, []⟩,
 ⟨3, (some 12), .ext (.tmp 9) 0, none, []⟩,
 ⟨4, (some 13), .ext (.tmp 9) 1, none, []⟩,
 ⟨5, (some 3), .mv (.tmp 12), none, []⟩])))))
 (.seq (.reg [⟨0, (some 4), .mv (.con (.slice none 0 0)), none, []⟩])
 (.seq (.seq (.reg [⟨0, (some 34), .mv (.tmp 3), none, []⟩,
 ⟨1, (some 35), .len (.tmp 34), none, []⟩,
 ⟨2, (some 36), .mv (.con (.int .i64 0)), none, []⟩])
 (.block 1
 (.loop
 (.seq (.reg [⟨0, (some 37), .bin .lss 3 false (.tmp 36) (.tmp 35), none, []⟩])
 (.seq (.cond (.tmp 37)
 (.skip)
 (.exit 1))
 (.seq (.block 2
 (.seq (.reg [⟨0, (some 38), .idxA none 1 (.tmp 34) (.tmp 36), none, []⟩,
 ⟨1, (some 39), .load none (.tmp 38), none, []⟩,
 ⟨2, (some 6), .mv (.tmp 39), none, []⟩])
 (.seq (.reg [⟨0, (some 40), .mv (.tmp 4), none, []⟩,
 ⟨1, (some 41), .mv (.tmp 6), none, []⟩,
 ⟨2, (some 42), .call 44 [(.tmp 40), (.tmp 41)], none, []⟩,
 ⟨3, (some 43), .un .not (.tmp 42), none, []⟩])
 (.cond (.tmp 43)
 (.reg [⟨0, (some 44), .mv (.tmp 4), none, []⟩,
 ⟨1, (some 45), .mv (.tmp 6), none, []⟩,
 ⟨2, (some 46), .bslice 1 1 [(.int .i64 0)] [(0, 1, (.tmp 45))], none, []⟩,
 ⟨3, (some 47), .append 1 8 (.tmp 44) (.tmp 46), none, []⟩,
 ⟨4, (some 4), .mv (.tmp 47), none, []⟩])
 (.skip)))))
 (.reg [⟨0, (some 48), .bin .add 3 true (.tmp 36) (.con (.int .i64 1)), none, []⟩,
 ⟨1, (some 36), .mv (.tmp 48), none, []⟩])))))))
 (.seq (.reg [⟨0, (some 49), .mv (.tmp 4), none, []⟩,
 ⟨1, (some 2), .mv (.tmp 49), none, []⟩])
 (.ret)))))),
 [.tmp 2]⟩
theorem p_machine_Reads : prepFun Go.Proofs.Tryd.prog [0, 3, 4] Go.Proofs.Tryd.f25 = some v_machine_Reads := by kernel_rfl

def v_r19_Reads : VFun :=
⟨.seq (.reg [⟨0, (some 1), .box (.tmp 0), none, []⟩,
 ⟨1, (some 2), .mv (.con (.slice none 0 0)), none, []⟩])
 (.seq (.reg [⟨0, (some 3), .mv (.con (.slice none 0 0)), none, []⟩])
 (.seq (.seq (.reg [⟨0, (some 10), .fieldA 0 (.tmp 1), none, []⟩,
 ⟨1, (some 11), .load none (.tmp 10), none, []⟩,
 ⟨2, (some 12), .call 22 [(.tmp 11)], none, []⟩,
 ⟨3, (some 9), .mv (.tmp 12), none, []⟩,
 ⟨4, (some 13), .ext (.tmp 9) 0, none, []⟩,
 ⟨5, (some 14), .ext (.tmp 9) 1, none, []⟩,
 ⟨6, (some 4), .mv (.tmp 13), none, []⟩,
 ⟨7, (some 5), .mv (.tmp 14), none, []⟩])
 (.seq (.reg [⟨0, (some 15), .mv (.tmp 5), none, []⟩,
 ⟨1, (some 16), .un .not (.tmp 15), none, []⟩])
 (.cond (.tmp 16)
 (.seq (.reg [⟨0, (some 2), .mv (.con (.slice none 0 0)), none, []⟩])
 (.ret))
 (.skip))))
 (.seq (.seq (.reg [⟨0, (some 17), .fieldA 6 (.tmp 1), none, []⟩,
 ⟨1, (some 18), .load none (.tmp 17), none, []⟩,
 ⟨2, (some 19), .bin .neq 3 true (.tmp 18) (.con (.int .i64 (-1))), none, []⟩])
 (.cond (.tmp 19)
 (.reg [⟨0, (some 20), .mv (.tmp 3), none, []⟩,
 ⟨1, (some 21), .fieldA 6 (.tmp 1), none, []⟩,
 ⟨2, (some 22), .load none (.tmp 21), none, []⟩,
 ⟨3, (some 23), .bslice 1 1 [(.int .i64 0)] [(0, 1, (.tmp 22))], none, []⟩,
 ⟨4, (some 24), .append 1 8 (.tmp 20) (.tmp 23), none, []⟩,
 ⟨5, (some 3), .mv (.tmp 24), none, []⟩])
 (.skip)))
 (.seq (.reg [⟨0, (some 6), .mv (.con (.slice none 0 0)), none, []⟩])
 (.seq (.seq (.reg [⟨0, (some 25), .fieldA 0 (.tmp 1), none, []⟩,
 ⟨1, (some 26), .load none (.tmp 25), none, []⟩,
 ⟨2, (some 27), .bin .eql 3 true (.tmp 26) (.con (.int .i64 27)), none, []⟩,
 ⟨3, (some 28), .mv (.tmp 27), none, []⟩,
 ⟨4, (some 29), .fieldA 0 (.tmp 1), (some (28, false)), []⟩,
 ⟨5, (some 30), .load none (.tmp 29), (some (28, false)), []⟩,
 ⟨6, (some 31), .bin .eql 3 true (.tmp 30) (.con (.int .i64 28)), (some (28, false)), []⟩,
 ⟨7, (some 32), .pick (.tmp 28) (.con (.bool true)) (.tmp 31), none, []⟩])
 (.cond (.tmp 32)
 (.reg [⟨0, (some 33), .fieldA 2 (.tmp 1), none, []⟩,
 ⟨1, (some 34), .load none (.tmp 33), none, []⟩,
 ⟨2, (some 35), .bslice 1 1 [(.int .i64 0)] [(0, 1, (.tmp 34))], none, []⟩,
 ⟨3, (some 6), .mv (.tmp 35), none, []⟩])
 (.seq (.reg [⟨0, (some 36), .fieldA 0 (.tmp 1), none, []⟩,
 ⟨1, (some 37), .load none (.tmp 36), none, []⟩,
 ⟨2, (some 38), .bin .neq 3 true (.tmp 37) (.con (.int .i64 26)), none, []⟩])
 (.cond (.tmp 38)
 (.seq (.reg [⟨0, (some 39), .load (some 7) (.tmp 1), none, []⟩,
 ⟨1, (some 7), .alloc [(.int .i64 0), (.int .i64 0), (.int .i64 0), (.int .i64 0), (.int .i64 0), (.int .i64 0), (.int .i64 0)], none, []⟩,
 ⟨2, none, .store 7 (.tmp 7) (.tmp 39), none, []⟩])
 (.seq (.reg [⟨0, (some 40), .fieldA 6 (.tmp 7), none, []⟩,
 ⟨1, none, .store 1 (.tmp 40) (.con (.int .i64 (-1))), none, []⟩])
 (.reg [⟨0, (some 41), .load (some 7) (.tmp 7), none, []⟩,
 ⟨1, (some 42), .call 45 [(.tmp 41)], none, []⟩,
 ⟨2, (some 6), .mv (.tmp 42), none, []⟩])))
 (.skip)))))
 (.seq (.seq (.reg [⟨0, (some 8), .mv (.con (.int .i64 0)), none, []⟩])
 (.block 0
 (.loop
 (.seq (.seq (.reg [⟨0, (some 43), .mv (.tmp 8), none, []⟩,
 ⟨1, (some 44), .mv (.tmp 6), none, []⟩,
 ⟨2, (some 45), .len (.tmp 44), none, []⟩,
 ⟨3, (some 46), .bin .lss 3 false (.tmp 43) (.tmp 45), none, []⟩])
 (.cond (.tmp 46)
 (.skip)
 (.exit 0)))
 (.seq (.block 1
 (.seq (.reg [⟨0, (some 49), .fieldA 6 (.tmp 1), none, []⟩,
 ⟨1, (some 50), .load none (.tmp 49), none, []⟩,
 ⟨2, (some 51), .bin .eql 3 true (.tmp 50) (.con (.int .i64 (-1))), none, []⟩,
 ⟨3, (some 52), .mv (.tmp 51), none, []⟩,
 ⟨4, (some 53), .mv (.tmp 6), (some (52, false)), []⟩,
 ⟨5, (some 54), .mv (.tmp 8), (some (52, false)), []⟩,
 ⟨6, (some 55), .idxA none 1 (.tmp 53) (.tmp 54), (some (52, false)), []⟩,
 ⟨7, (some 56), .load none (.tmp 55), (some (52, false)), []⟩,
 ⟨8, (some 57), .fieldA 6 (.tmp 1), (some (52, false)), []⟩,
 ⟨9, (some 58), .load none (.tmp 57), (some (52, false)), []⟩,
 ⟨10, (some 59), .bin .neq 3 false (.tmp 56) (.tmp 58), (some (52, false)), []⟩,
 ⟨11, (some 60), .pick (.tmp 52) (.con (.bool true)) (.tmp 59), none, []⟩])
 (.cond (.tmp 60)
 (.reg [⟨0, (some 61), .mv (.tmp 3), none, []⟩,
 ⟨1, (some 62), .mv (.tmp 6), none, []⟩,
 ⟨2, (some 63), .mv (.tmp 8), none, []⟩,
 ⟨3, (some 64), .idxA none 1 (.tmp 62) (.tmp 63), none, []⟩,
 ⟨4, (some 65), .load none (.tmp 64), none, []⟩,
 ⟨5, (some 66), .bslice 1 1 [(.int .i64 0)] [(0, 1, (.tmp 65))], none, []⟩,
 ⟨6, (some 67), .append 1 8 (.tmp 61) (.tmp 66), none, []⟩,
 ⟨7, (some 3), .mv (.tmp 67), none, []⟩])
 (.skip))))
 (.reg [⟨0, (some 47), .mv (.tmp 8), none, []⟩,
 ⟨1, (some 48), .bin .add 3 true (.tmp 47) (.con (.int .i64 1)), none, []⟩,
 ⟨2, (some 8), .mv (.tmp 48), none, []⟩]))))))
 (.seq (.reg [⟨0, (some 68), .mv (.tmp 3), none, []⟩,
 ⟨1, (some 2), .mv (.tmp 68), none, []⟩])
 (.ret)))))))),
 [.tmp 2]⟩
theorem p_r19_Reads : prepFun Go.Proofs.Tryd.prog [0, 3, 4] Go.Proofs.Tryd.f26 = some v_r19_Reads := by kernel_rfl

def v_machine_Check : VFun :=
⟨.seq (.reg [⟨0, (some 1), .box (.tmp 0), none, []⟩,
 ⟨1, (some 2), .mv (.con (.int .i64 0)), none, []⟩])
 (.seq (.seq (.reg [⟨0, (some 4), .mv (.con (.int .i64 0)), none, []⟩])
 (.block 0
 (.loop
 (.seq (.reg [⟨0, (some 5), .bin .lss 3 true (.tmp 4) (.con (.int .i64 4)), none, []⟩])
 (.seq (.cond (.tmp 5)
 (.skip)
 (.exit 0))
 (.seq (.block 1
 (.seq (.reg [⟨0, (some 6), .mv (.tmp 4), none, []⟩,
 ⟨1, (some 3), .mv (.tmp 6), none, []⟩])
 (.seq (.reg [⟨0, (some 7), .mv (.tmp 3), none, []⟩,
 ⟨1, (some 8), .fieldA 0 (.tmp 1), none, []⟩,
 ⟨2, (some 9), .idxA (some 4) 1 (.tmp 8) (.tmp 7), none, []⟩,
 ⟨3, (some 10), .load none (.tmp 9), none, []⟩,
 ⟨4, (some 11), .call 42 [(.tmp 10), (.con (.int .i64 1)), (.con (.int .i64 8))], none, []⟩,
 ⟨5, (some 12), .un .not (.tmp 11), none, []⟩,
 ⟨6, (some 13), .mv (.tmp 12), none, []⟩,
 ⟨7, (some 14), .mv (.tmp 3), (some (13, false)), []⟩,
 ⟨8, (some 15), .fieldA 4 (.tmp 1), (some (13, false)), []⟩,
 ⟨9, (some 16), .idxA (some 4) 1 (.tmp 15) (.tmp 14), (some (13, false)), []⟩,
 ⟨10, (some 17), .load none (.tmp 16), (some (13, false)), []⟩,
 ⟨11, (some 18), .call 42 [(.tmp 17), (.con (.int .i64 1)), (.con (.int .i64 8))], (some (13, false)), []⟩,
 ⟨12, (some 19), .un .not (.tmp 18), (some (13, false)), []⟩,
 ⟨13, (some 20), .pick (.tmp 13) (.con (.bool true)) (.tmp 19), none, []⟩])
 (.cond (.tmp 20)
 (.seq (.reg [⟨0, (some 2), .mv (.con (.int .i64 2)), none, []⟩])
 (.ret))
 (.skip)))))
 (.reg [⟨0, (some 21), .bin .add 3 true (.tmp 4) (.con (.int .i64 1)), none, []⟩,
 ⟨1, (some 4), .mv (.tmp 21), none, []⟩])))))))
 (.seq (.seq (.reg [⟨0, (some 22), .fieldA 8 (.tmp 1), none, []⟩,
 ⟨1, (some 23), .load none (.tmp 22), none, []⟩,
 ⟨2, (some 24), .call 42 [(.tmp 23), (.con (.int .i64 1)), (.con (.int .i64 4096))], none, []⟩,
 ⟨3, (some 25), .un .not (.tmp 24), none, []⟩,
 ⟨4, (some 26), .mv (.tmp 25), none, []⟩,
 ⟨5, (some 27), .fieldA 9 (.tmp 1), (some (26, false)), []⟩,
 ⟨6, (some 28), .load none (.tmp 27), (some (26, false)), []⟩,
 ⟨7, (some 29), .call 42 [(.tmp 28), (.con (.int .i64 1)), (.con (.int .i64 8))], (some (26, false)), []⟩,
 ⟨8, (some 30), .un .not (.tmp 29), (some (26, false)), []⟩,
 ⟨9, (some 31), .pick (.tmp 26) (.con (.bool true)) (.tmp 30), none, []⟩,
 ⟨10, (some 32), .mv (.tmp 31), none, []⟩,
 ⟨11, (some 33), .fieldA 10 (.tmp 1), (some (32, false)), []⟩,
 ⟨12, (some 34), .load none (.tmp 33), (some (32, false)), []⟩,
 ⟨13, (some 35), .call 42 [(.tmp 34), (.con (.int .i64 4)), (.con (.int .i64 32))], (some (32, false)), []⟩,
 ⟨14, (some 36), .un .not (.tmp 35), (some (32, false)), []⟩,
 ⟨15, (some 37), .pick (.tmp 32) (.con (.bool true)) (.tmp 36), none, []⟩])
 (.cond (.tmp 37)
 (.seq (.reg [⟨0, (some 2), .mv (.con (.int .i64 2)), none, []⟩])
 (.ret))
 (.skip)))
 (.seq (.reg [⟨0, (some 2), .mv (.con (.int .i64 0)), none, []⟩])
 (.ret)))),
 [.tmp 2]⟩
theorem p_machine_Check : prepFun Go.Proofs.Tryd.prog [0, 3, 4] Go.Proofs.Tryd.f27 = some v_machine_Check := by kernel_rfl

def v_r19_Latency : VFun :=
⟨.seq (.reg [⟨0, (some 2), .box (.tmp 0), none, []⟩,
 ⟨1, (some 4), .mv (.con (.int .i64 0)), none, []⟩])
 (.seq (.reg [⟨0, (some 8), .mv (.tmp 1), none, []⟩,
 ⟨1, (some 9), .call 22 [(.tmp 8)], none, []⟩,
 ⟨2, (some 7), .mv (.tmp 9), none, []⟩,
 ⟨3, (some 10), .ext (.tmp 7) 0, none, []⟩,
 ⟨4, (some 11), .ext (.tmp 7) 1, none, []⟩,
 ⟨5, (some 5), .mv (.tmp 10), none, []⟩,
 ⟨6, (some 6), .mv (.tmp 11), none, []⟩])
 (.seq (.reg [⟨0, (some 12), .mv (.tmp 5), none, []⟩,
 ⟨1, (some 13), .fieldA 4 (.tmp 2), none, []⟩,
 ⟨2, (some 14), .idxA (some 4) 1 (.tmp 13) (.tmp 12), none, []⟩,
 ⟨3, (some 15), .load none (.tmp 14), none, []⟩,
 ⟨4, (some 4), .mv (.tmp 15), none, []⟩])
 (.ret))),
 [.tmp 4]⟩
theorem p_r19_Latency : prepFun Go.Proofs.Tryd.prog [0, 3, 4] Go.Proofs.Tryd.f28 = some v_r19_Latency := by kernel_rfl

def v_machine_use : VFun :=
⟨.seq (.reg [⟨0, (some 2), .box (.tmp 0), none, []⟩,
 ⟨1, (some 4), .alloc [(.int .i64 0), (.int .i64 0), (.int .i64 0), (.int .i64 0), (.int .i64 0), (.int .i64 0), (.int .i64 0), (.int .i64 0), (.int .i64 0), (.int .i64 0), (.int .i64 0), (.int .i64 0), (.int .i64 0), (.int .i64 0), (.int .i64 0), (.int .i64 0), (.int .i64 0), (.int .i64 0), (.int .i64 0), (.int .i64 0), (.int .i64 0), (.int .i64 0), (.int .i64 0)], none, []⟩,
 ⟨2, (some 5), .mv (.con (.int .i64 0)), none, []⟩])
 (.seq (.seq (.reg [⟨0, (some 14), .load (some 11) (.tmp 2), none, []⟩,
 ⟨1, (some 15), .call 27 [(.tmp 14)], none, []⟩,
 ⟨2, (some 6), .mv (.tmp 15), none, []⟩])
 (.seq (.reg [⟨0, (some 16), .mv (.tmp 6), none, []⟩,
 ⟨1, (some 17), .bin .neq 27 true (.tmp 16) (.con (.int .i64 0)), none, []⟩])
 (.cond (.tmp 17)
 (.seq (.reg [⟨0, (some 18), .build [(.int .i64 0), (.int .i64 0), (.int .i64 0), (.int .i64 0), (.int .i64 0), (.int .i64 0), (.int .i64 0), (.int .i64 0), (.int .i64 0), (.int .i64 0), (.int .i64 0), (.int .i64 0), (.int .i64 0), (.int .i64 0), (.int .i64 0), (.int .i64 0), (.int .i64 0), (.int .i64 0), (.int .i64 0), (.int .i64 0), (.int .i64 0), (.int .i64 0), (.int .i64 0)] [], none, []⟩,
 ⟨1, (some 19), .mv (.tmp 6), none, []⟩,
 ⟨2, none, .store 23 (.tmp 4) (.tmp 18), none, []⟩,
 ⟨3, (some 5), .mv (.tmp 19), none, []⟩])
 (.ret))
 (.skip))))
 (.seq (.seq (.reg [⟨0, (some 20), .mv (.tmp 1), none, []⟩,
 ⟨1, (some 21), .len (.tmp 20), none, []⟩,
 ⟨2, (some 22), .bin .gtr 3 true (.tmp 21) (.con (.int .i64 400)), none, []⟩])
 (.cond (.tmp 22)
 (.seq (.reg [⟨0, (some 23), .build [(.int .i64 0), (.int .i64 0), (.int .i64 0), (.int .i64 0), (.int .i64 0), (.int .i64 0), (.int .i64 0), (.int .i64 0), (.int .i64 0), (.int .i64 0), (.int .i64 0), (.int .i64 0), (.int .i64 0), (.int .i64 0), (.int .i64 0), (.int .i64 0), (.int .i64 0), (.int .i64 0), (.int .i64 0), (.int .i64 0), (.int .i64 0), (.int .i64 0), (.int .i64 0)] [], none, []⟩,
 ⟨1, none, .store 23 (.tmp 4) (.tmp 23), none, []⟩,
 ⟨2, (some 5), .mv (.con (.int .i64 3)), none, []⟩])
 (.ret))
 (.skip)))
 (.seq (.reg [⟨0, (some 24), .load (some 11) (.tmp 2), none, []⟩,
 ⟨1, (some 25), .call 46 [(.tmp 24)], none, []⟩,
 ⟨2, (some 7), .alloc [(.int .i64 0), (.int .i64 0), (.int .i64 0), (.int .i64 0), (.int .i64 0), (.int .i64 0), (.int .i64 0), (.int .i64 0), (.int .i64 0), (.int .i64 0), (.int .i64 0), (.int .i64 0), (.int .i64 0), (.int .i64 0), (.int .i64 0), (.int .i64 0), (.int .i64 0), (.int .i64 0), (.int .i64 0), (.int .i64 0), (.int .i64 0), (.int .i64 0), (.int .i64 0)], none, []⟩,
 ⟨3, none, .store 23 (.tmp 7) (.tmp 25), none, []⟩])
 (.seq (.seq (.reg [⟨0, (some 26), .mv (.tmp 1), none, []⟩,
 ⟨1, (some 27), .len (.tmp 26), none, []⟩,
 ⟨2, (some 28), .mv (.con (.int .i64 0)), none, []⟩])
 (.block 0
 (.loop
 (.seq (.reg [⟨0, (some 29), .bin .lss 3 false (.tmp 28) (.tmp 27), none, []⟩])
 (.seq (.cond (.tmp 29)
 (.skip)
 (.exit 0))
 (.seq (.block 1
 (.seq (.reg [⟨0, (some 30), .idxA none 7 (.tmp 26) (.tmp 28), none, []⟩,
 ⟨1, (some 31), .load (some 7) (.tmp 30), none, []⟩,
 ⟨2, (some 9), .alloc [(.int .i64 0), (.int .i64 0), (.int .i64 0), (.int .i64 0), (.int .i64 0), (.int .i64 0), (.int .i64 0)], none, []⟩,
 ⟨3, none, .store 7 (.tmp 9) (.tmp 31), none, []⟩])
 (.seq (.seq (.reg [⟨0, (some 33), .fieldA 0 (.tmp 9), none, []⟩,
 ⟨1, (some 34), .load none (.tmp 33), none, []⟩,
 ⟨2, (some 35), .call 21 [(.tmp 34)], none, []⟩,
 ⟨3, (some 32), .mv (.tmp 35), none, []⟩,
 ⟨4, (some 36), .ext (.tmp 32) 0, none, []⟩,
 ⟨5, (some 37), .ext (.tmp 32) 1, none, []⟩,
 ⟨6, (some 10), .mv (.tmp 36), none, []⟩,
 ⟨7, (some 11), .mv (.tmp 37), none, []⟩])
 (.seq (.reg [⟨0, (some 38), .mv (.tmp 11), none, []⟩,
 ⟨1, (some 39), .un .not (.tmp 38), none, []⟩])
 (.cond (.tmp 39)
 (.seq (.reg [⟨0, (some 40), .build [(.int .i64 0), (.int .i64 0), (.int .i64 0), (.int .i64 0), (.int .i64 0), (.int .i64 0), (.int .i64 0), (.int .i64 0), (.int .i64 0), (.int .i64 0), (.int .i64 0), (.int .i64 0), (.int .i64 0), (.int .i64 0), (.int .i64 0), (.int .i64 0), (.int .i64 0), (.int .i64 0), (.int .i64 0), (.int .i64 0), (.int .i64 0), (.int .i64 0), (.int .i64 0)] [], none, []⟩,
 ⟨1, none, .store 23 (.tmp 4) (.tmp 40), none, []⟩,
 ⟨2, (some 5), .mv (.con (.int .i64 2)), none, []⟩])
 (.ret))
 (.skip))))
 (.seq (.seq (.reg [⟨0, (some 41), .load (some 7) (.tmp 9), none, []⟩,
 ⟨1, (some 42), .call 25 [(.tmp 41)], none, []⟩,
 ⟨2, (some 43), .len (.tmp 42), none, []⟩,
 ⟨3, (some 44), .mv (.con (.int .i64 0)), none, []⟩])
 (.block 2
 (.loop
 (.seq (.reg [⟨0, (some 45), .bin .lss 3 false (.tmp 44) (.tmp 43), none, []⟩])
 (.seq (.cond (.tmp 45)
 (.skip)
 (.exit 2))
 (.seq (.block 3
 (.seq (.reg [⟨0, (some 46), .idxA none 1 (.tmp 42) (.tmp 44), none, []⟩,
 ⟨1, (some 47), .load none (.tmp 46), none, []⟩,
 ⟨2, (some 13), .mv (.tmp 47), none, []⟩])
 (.seq (.reg [⟨0, (some 48), .mv (.tmp 13), none, []⟩,
 ⟨1, (some 49), .fieldA 8 (.tmp 2), none, []⟩,
 ⟨2, (some 50), .load none (.tmp 49), none, []⟩,
 ⟨3, (some 51), .bin .sub 3 true (.tmp 50) (.con (.int .i64 1)), none, []⟩,
 ⟨4, (some 52), .call 42 [(.tmp 48), (.con (.int .i64 0)), (.tmp 51)], none, []⟩,
 ⟨5, (some 53), .un .not (.tmp 52), none, []⟩])
 (.cond (.tmp 53)
 (.seq (.reg [⟨0, (some 54), .build [(.int .i64 0), (.int .i64 0), (.int .i64 0), (.int .i64 0), (.int .i64 0), (.int .i64 0), (.int .i64 0), (.int .i64 0), (.int .i64 0), (.int .i64 0), (.int .i64 0), (.int .i64 0), (.int .i64 0), (.int .i64 0), (.int .i64 0), (.int .i64 0), (.int .i64 0), (.int .i64 0), (.int .i64 0), (.int .i64 0), (.int .i64 0), (.int .i64 0), (.int .i64 0)] [], none, []⟩,
 ⟨1, none, .store 23 (.tmp 4) (.tmp 54), none, []⟩,
 ⟨2, (some 5), .mv (.con (.int .i64 2)), none, []⟩])
 (.ret))
 (.skip)))))
 (.reg [⟨0, (some 55), .bin .add 3 true (.tmp 44) (.con (.int .i64 1)), none, []⟩,
 ⟨1, (some 44), .mv (.tmp 55), none, []⟩])))))))
 (.reg [⟨0, (some 56), .load (some 23) (.tmp 7), none, []⟩,
 ⟨1, (some 57), .load (some 7) (.tmp 9), none, []⟩,
 ⟨2, (some 58), .call 47 [(.tmp 56), (.tmp 57)], none, []⟩,
 ⟨3, none, .store 23 (.tmp 7) (.tmp 58), none, []⟩])))))
 (.reg [⟨0, (some 59), .bin .add 3 true (.tmp 28) (.con (.int .i64 1)), none, []⟩,
 ⟨1, (some 28), .mv (.tmp 59), none, []⟩])))))))
 (.seq (.reg [⟨0, (some 60), .load (some 23) (.tmp 7), none, []⟩,
 ⟨1, none, .store 23 (.tmp 4) (.tmp 60), none, []⟩,
 ⟨2, (some 5), .mv (.con (.int .i64 0)), none, []⟩])
 (.ret)))))),
 [.cell 4 (some 23), .tmp 5]⟩
theorem p_machine_use : prepFun Go.Proofs.Tryd.prog [0, 3, 4] Go.Proofs.Tryd.f29 = some v_machine_use := by kernel_rfl

def v__machine_Use_Fits : VFun :=
⟨.seq (.reg [⟨0, (some 1), .box (.tmp 0), none, []⟩,
 ⟨1, (some 2), .mv (.con (.bool false)), none, []⟩])
 (.seq (.seq (.reg [⟨0, (some 5), .fieldA 11 (.tmp 1), none, []⟩,
 ⟨1, (some 6), .load (some 4) (.tmp 5), none, []⟩,
 ⟨2, (some 7), .mv (.con (.int .i64 0)), none, []⟩])
 (.block 0
 (.loop
 (.seq (.reg [⟨0, (some 8), .bin .lss 3 true (.tmp 7) (.con (.int .i64 4)), none, []⟩])
 (.seq (.cond (.tmp 8)
 (.skip)
 (.exit 0))
 (.seq (.block 1
 (.seq (.reg [⟨0, (some 9), .mv (.tmp 7), none, []⟩,
 ⟨1, (some 10), .idx 4 none 1 (.tmp 6) (.tmp 7), none, []⟩,
 ⟨2, (some 3), .mv (.tmp 9), none, []⟩,
 ⟨3, (some 4), .mv (.tmp 10), none, []⟩])
 (.seq (.reg [⟨0, (some 11), .mv (.tmp 4), none, []⟩,
 ⟨1, (some 12), .mv (.tmp 3), none, []⟩,
 ⟨2, (some 13), .fieldA 0 (.tmp 1), none, []⟩,
 ⟨3, (some 14), .fieldA 0 (.tmp 13), none, []⟩,
 ⟨4, (some 15), .idxA (some 4) 1 (.tmp 14) (.tmp 12), none, []⟩,
 ⟨5, (some 16), .load none (.tmp 15), none, []⟩,
 ⟨6, (some 17), .bin .gtr 3 false (.tmp 11) (.tmp 16), none, []⟩])
 (.cond (.tmp 17)
 (.seq (.reg [⟨0, (some 2), .mv (.con (.bool false)), none, []⟩])
 (.ret))
 (.skip)))))
 (.reg [⟨0, (some 18), .bin .add 3 true (.tmp 7) (.con (.int .i64 1)), none, []⟩,
 ⟨1, (some 7), .mv (.tmp 18), none, []⟩])))))))
 (.seq (.reg [⟨0, (some 19), .fieldA 15 (.tmp 1), none, []⟩,
 ⟨1, (some 20), .slice (some 8) 1 (.tmp 19) none none none, none, []⟩,
 ⟨3, (some 22), .fieldA 0 (.tmp 1), none, []⟩,
 ⟨4, (some 23), .fieldA 10 (.tmp 22), none, []⟩,
 ⟨5, (some 24), .load none (.tmp 23), none, []⟩,
 ⟨2, (some 21), .call 48 [(.tmp 20)], none, [(.tmp 23)]⟩,
 ⟨6, (some 25), .bin .leq 3 false (.tmp 21) (.tmp 24), none, []⟩,
 ⟨7, (some 2), .mv (.tmp 25), none, []⟩])
 (.ret))),
 [.tmp 2]⟩
theorem p__machine_Use_Fits : prepFun Go.Proofs.Tryd.prog [0, 3, 4] Go.Proofs.Tryd.f30 = some v__machine_Use_Fits := by kernel_rfl

def v__machine_Use_Home : VFun :=
⟨.seq (.reg [⟨0, (some 1), .box (.tmp 0), none, []⟩,
 ⟨1, (some 2), .mv (.con (.int .i64 0)), none, []⟩])
 (.seq (.reg [⟨0, (some 3), .mv (.con (.int .i64 0)), none, []⟩])
 (.seq (.seq (.reg [⟨0, (some 6), .fieldA 11 (.tmp 1), none, []⟩,
 ⟨1, (some 7), .load (some 4) (.tmp 6), none, []⟩,
 ⟨2, (some 8), .mv (.con (.int .i64 0)), none, []⟩])
 (.block 0
 (.loop
 (.seq (.reg [⟨0, (some 9), .bin .lss 3 true (.tmp 8) (.con (.int .i64 4)), none, []⟩])
 (.seq (.cond (.tmp 9)
 (.skip)
 (.exit 0))
 (.seq (.block 1
 (.seq (.reg [⟨0, (some 10), .mv (.tmp 8), none, []⟩,
 ⟨1, (some 11), .idx 4 none 1 (.tmp 7) (.tmp 8), none, []⟩,
 ⟨2, (some 4), .mv (.tmp 10), none, []⟩,
 ⟨3, (some 5), .mv (.tmp 11), none, []⟩])
 (.reg [⟨0, (some 12), .mv (.tmp 3), none, []⟩,
 ⟨1, (some 13), .mv (.tmp 5), none, []⟩,
 ⟨2, (some 14), .mv (.tmp 4), none, []⟩,
 ⟨3, (some 15), .fieldA 0 (.tmp 1), none, []⟩,
 ⟨4, (some 16), .fieldA 0 (.tmp 15), none, []⟩,
 ⟨5, (some 17), .idxA (some 4) 1 (.tmp 16) (.tmp 14), none, []⟩,
 ⟨6, (some 18), .load none (.tmp 17), none, []⟩,
 ⟨7, (some 19), .call 49 [(.tmp 13), (.tmp 18)], none, []⟩,
 ⟨8, (some 20), .bi .max [3, 3] 3 [(.tmp 12), (.tmp 19)], none, []⟩,
 ⟨9, (some 3), .mv (.tmp 20), none, []⟩])))
 (.reg [⟨0, (some 21), .bin .add 3 true (.tmp 8) (.con (.int .i64 1)), none, []⟩,
 ⟨1, (some 8), .mv (.tmp 21), none, []⟩])))))))
 (.seq (.reg [⟨0, (some 22), .mv (.tmp 3), none, []⟩,
 ⟨1, (some 23), .fieldA 15 (.tmp 1), none, []⟩,
 ⟨2, (some 24), .slice (some 8) 1 (.tmp 23) none none none, none, []⟩,
 ⟨4, (some 26), .fieldA 0 (.tmp 1), none, []⟩,
 ⟨5, (some 27), .fieldA 10 (.tmp 26), none, []⟩,
 ⟨6, (some 28), .load none (.tmp 27), none, []⟩,
 ⟨3, (some 25), .call 48 [(.tmp 24)], none, [(.tmp 27)]⟩,
 ⟨7, (some 29), .call 49 [(.tmp 25), (.tmp 28)], none, []⟩,
 ⟨8, (some 30), .bi .max [3, 3] 3 [(.tmp 22), (.tmp 29)], none, []⟩,
 ⟨9, (some 2), .mv (.tmp 30), none, []⟩])
 (.ret)))),
 [.tmp 2]⟩
theorem p__machine_Use_Home : prepFun Go.Proofs.Tryd.prog [0, 3, 4] Go.Proofs.Tryd.f31 = some v__machine_Use_Home := by kernel_rfl

def v_l19_example : VFun :=
⟨.seq (.reg [⟨0, (some 0), .alloc [(.int .i64 0), (.int .i64 0), (.int .i64 0), (.int .i64 0), (.int .i64 0), (.int .i64 0), (.int .i64 0), (.int .i64 0), (.int .i64 0), (.int .i64 0), (.int .i64 0)], none, []⟩])
 (.seq (.reg [⟨0, (some 1), .build [(.int .i64 0), (.int .i64 0), (.int .i64 0), (.int .i64 0)] [(0, 1, (.con (.int .i64 2))), (1, 1, (.con (.int .i64 1))), (2, 1, (.con (.int .i64 1))), (3, 1, (.con (.int .i64 1)))], none, []⟩,
 ⟨1, (some 2), .build [(.int .i64 0), (.int .i64 0), (.int .i64 0), (.int .i64 0)] [(0, 1, (.con (.int .i64 1))), (1, 1, (.con (.int .i64 3))), (2, 1, (.con (.int .i64 2))), (3, 1, (.con (.int .i64 1)))], none, []⟩,
 ⟨2, (some 3), .build [(.int .i64 0), (.int .i64 0), (.int .i64 0), (.int .i64 0), (.int .i64 0), (.int .i64 0), (.int .i64 0), (.int .i64 0), (.int .i64 0), (.int .i64 0), (.int .i64 0)] [(0, 4, (.tmp 1)), (4, 4, (.tmp 2)), (8, 1, (.con (.int .i64 32))), (9, 1, (.con (.int .i64 2))), (10, 1, (.con (.int .i64 4)))], none, []⟩,
 ⟨3, none, .store 11 (.tmp 0) (.tmp 3), none, []⟩])
 (.ret)),
 [.cell 0 (some 11)]⟩
theorem p_l19_example : prepFun Go.Proofs.Tryd.prog [0, 3, 4] Go.Proofs.Tryd.f32 = some v_l19_example := by kernel_rfl

def v_r19_counts : VFun :=
⟨.seq (.reg [⟨0, (some 2), .box (.tmp 0), none, []⟩,
 ⟨1, (some 4), .alloc [(.int .i64 0), (.int .i64 0), (.int .i64 0), (.int .i64 0)], none, []⟩,
 ⟨2, (some 5), .mv (.con (.slice none 0 0)), none, []⟩])
 (.seq (.reg [⟨0, (some 6), .alloc [(.int .i64 0), (.int .i64 0), (.int .i64 0), (.int .i64 0)], none, []⟩])
 (.seq (.reg [⟨0, (some 13), .fieldA 9 (.tmp 2), none, []⟩,
 ⟨1, (some 14), .load none (.tmp 13), none, []⟩,
 ⟨2, (some 15), .mksl 1 8 [(.int .i64 0)] (.tmp 14) (.tmp 14), none, []⟩,
 ⟨3, (some 7), .mv (.tmp 15), none, []⟩])
 (.seq (.seq (.reg [⟨0, (some 8), .mv (.con (.int .i64 0)), none, []⟩])
 (.block 0
 (.loop
 (.seq (.seq (.reg [⟨0, (some 16), .mv (.tmp 8), none, []⟩,
 ⟨1, (some 17), .mv (.tmp 1), none, []⟩,
 ⟨2, (some 18), .len (.tmp 17), none, []⟩,
 ⟨3, (some 19), .bin .lss 3 false (.tmp 16) (.tmp 18), none, []⟩])
 (.cond (.tmp 19)
 (.skip)
 (.exit 0)))
 (.seq (.block 1
 (.seq (.reg [⟨0, (some 23), .mv (.tmp 1), none, []⟩,
 ⟨1, (some 24), .mv (.tmp 8), none, []⟩,
 ⟨2, (some 25), .idxA none 7 (.tmp 23) (.tmp 24), none, []⟩,
 ⟨3, (some 26), .fieldA 0 (.tmp 25), none, []⟩,
 ⟨4, (some 27), .load none (.tmp 26), none, []⟩,
 ⟨5, (some 28), .call 22 [(.tmp 27)], none, []⟩,
 ⟨6, (some 22), .mv (.tmp 28), none, []⟩,
 ⟨7, (some 29), .ext (.tmp 22) 0, none, []⟩,
 ⟨8, (some 30), .ext (.tmp 22) 1, none, []⟩,
 ⟨9, (some 9), .mv (.tmp 29), none, []⟩,
 ⟨10, (some 10), .mv (.tmp 30), none, []⟩])
 (.seq (.reg [⟨0, (some 31), .mv (.tmp 9), none, []⟩,
 ⟨1, (some 32), .idxA (some 4) 1 (.tmp 6) (.tmp 31), none, []⟩,
 ⟨2, (some 33), .load none (.tmp 32), none, []⟩,
 ⟨3, (some 34), .bin .add 3 true (.tmp 33) (.con (.int .i64 1)), none, []⟩,
 ⟨4, (some 35), .idxA (some 4) 1 (.tmp 6) (.tmp 31), none, []⟩,
 ⟨5, none, .store 1 (.tmp 35) (.tmp 34), none, []⟩])
 (.seq (.reg [⟨0, (some 36), .mv (.tmp 1), none, []⟩,
 ⟨1, (some 37), .mv (.tmp 8), none, []⟩,
 ⟨2, (some 38), .idxA none 7 (.tmp 36) (.tmp 37), none, []⟩,
 ⟨3, (some 39), .load (some 7) (.tmp 38), none, []⟩,
 ⟨4, (some 40), .call 26 [(.tmp 39)], none, []⟩,
 ⟨5, (some 11), .mv (.tmp 40), none, []⟩])
 (.seq (.reg [⟨0, (some 12), .mv (.con (.int .i64 0)), none, []⟩])
 (.block 2
 (.loop
 (.seq (.seq (.reg [⟨0, (some 41), .mv (.tmp 12), none, []⟩,
 ⟨1, (some 42), .mv (.tmp 11), none, []⟩,
 ⟨2, (some 43), .len (.tmp 42), none, []⟩,
 ⟨3, (some 44), .bin .lss 3 false (.tmp 41) (.tmp 43), none, []⟩])
 (.cond (.tmp 44)
 (.skip)
 (.exit 2)))
 (.seq (.block 3
 (.reg [⟨0, (some 47), .mv (.tmp 7), none, []⟩,
 ⟨1, (some 48), .mv (.tmp 11), none, []⟩,
 ⟨2, (some 49), .mv (.tmp 12), none, []⟩,
 ⟨3, (some 50), .idxA none 1 (.tmp 48) (.tmp 49), none, []⟩,
 ⟨4, (some 51), .load none (.tmp 50), none, []⟩,
 ⟨5, (some 52), .fieldA 9 (.tmp 2), none, []⟩,
 ⟨6, (some 53), .load none (.tmp 52), none, []⟩,
 ⟨7, (some 54), .bin .rem 3 false (.tmp 51) (.tmp 53), none, []⟩,
 ⟨8, (some 55), .idxA none 1 (.tmp 47) (.tmp 54), none, []⟩,
 ⟨9, (some 56), .load none (.tmp 55), none, []⟩,
 ⟨10, (some 57), .bin .add 3 true (.tmp 56) (.con (.int .i64 1)), none, []⟩,
 ⟨11, (some 58), .idxA none 1 (.tmp 47) (.tmp 54), none, []⟩,
 ⟨12, none, .store 1 (.tmp 58) (.tmp 57), none, []⟩]))
 (.reg [⟨0, (some 45), .mv (.tmp 12), none, []⟩,
 ⟨1, (some 46), .bin .add 3 true (.tmp 45) (.con (.int .i64 1)), none, []⟩,
 ⟨2, (some 12), .mv (.tmp 46), none, []⟩]))))))))))
 (.reg [⟨0, (some 20), .mv (.tmp 8), none, []⟩,
 ⟨1, (some 21), .bin .add 3 true (.tmp 20) (.con (.int .i64 1)), none, []⟩,
 ⟨2, (some 8), .mv (.tmp 21), none, []⟩]))))))
 (.seq (.reg [⟨0, (some 59), .load (some 4) (.tmp 6), none, []⟩,
 ⟨1, (some 60), .mv (.tmp 7), none, []⟩,
 ⟨2, none, .store 4 (.tmp 4) (.tmp 59), none, []⟩,
 ⟨3, (some 5), .mv (.tmp 60), none, []⟩])
 (.ret))))),
 [.cell 4 (some 4), .tmp 5]⟩
theorem p_r19_counts : prepFun Go.Proofs.Tryd.prog [0, 3, 4] Go.Proofs.Tryd.f33 = some v_r19_counts := by kernel_rfl

def v_machine_write : VFun :=
⟨.seq (.reg [⟨0, (some 1), .box (.tmp 0), none, []⟩,
 ⟨1, (some 2), .mv (.con (.string ⟨#[]⟩)), none, []⟩])
 (.seq (.reg [⟨0, (some 8), .bslice 1 1 [(.string ⟨#[]⟩)] [(0, 1, (.con (.string ⟨#[117, 110, 105, 116, 115]⟩)))], none, []⟩,
 ⟨1, (some 3), .mv (.tmp 8), none, []⟩])
 (.seq (.seq (.reg [⟨0, (some 9), .fieldA 0 (.tmp 1), none, []⟩,
 ⟨1, (some 10), .load (some 4) (.tmp 9), none, []⟩,
 ⟨2, (some 11), .mv (.con (.int .i64 0)), none, []⟩])
 (.block 0
 (.loop
 (.seq (.reg [⟨0, (some 12), .bin .lss 3 true (.tmp 11) (.con (.int .i64 4)), none, []⟩])
 (.seq (.cond (.tmp 12)
 (.skip)
 (.exit 0))
 (.seq (.block 1
 (.seq (.reg [⟨0, (some 13), .idx 4 none 1 (.tmp 10) (.tmp 11), none, []⟩,
 ⟨1, (some 5), .mv (.tmp 13), none, []⟩])
 (.reg [⟨0, (some 14), .mv (.tmp 3), none, []⟩,
 ⟨1, (some 15), .mv (.tmp 5), none, []⟩,
 ⟨2, (some 16), .call 35 [(.tmp 15)], none, []⟩,
 ⟨3, (some 17), .bslice 1 1 [(.string ⟨#[]⟩)] [(0, 1, (.tmp 16))], none, []⟩,
 ⟨4, (some 18), .append 1 16 (.tmp 14) (.tmp 17), none, []⟩,
 ⟨5, (some 3), .mv (.tmp 18), none, []⟩])))
 (.reg [⟨0, (some 19), .bin .add 3 true (.tmp 11) (.con (.int .i64 1)), none, []⟩,
 ⟨1, (some 11), .mv (.tmp 19), none, []⟩])))))))
 (.seq (.reg [⟨0, (some 20), .mv (.tmp 3), none, []⟩,
 ⟨1, (some 21), .bslice 1 1 [(.string ⟨#[]⟩)] [(0, 1, (.con (.string ⟨#[108, 97, 116, 101, 110, 99, 121]⟩)))], none, []⟩,
 ⟨2, (some 22), .append 1 16 (.tmp 20) (.tmp 21), none, []⟩,
 ⟨3, (some 3), .mv (.tmp 22), none, []⟩])
 (.seq (.seq (.reg [⟨0, (some 23), .fieldA 4 (.tmp 1), none, []⟩,
 ⟨1, (some 24), .load (some 4) (.tmp 23), none, []⟩,
 ⟨2, (some 25), .mv (.con (.int .i64 0)), none, []⟩])
 (.block 2
 (.loop
 (.seq (.reg [⟨0, (some 26), .bin .lss 3 true (.tmp 25) (.con (.int .i64 4)), none, []⟩])
 (.seq (.cond (.tmp 26)
 (.skip)
 (.exit 2))
 (.seq (.block 3
 (.seq (.reg [⟨0, (some 27), .idx 4 none 1 (.tmp 24) (.tmp 25), none, []⟩,
 ⟨1, (some 7), .mv (.tmp 27), none, []⟩])
 (.reg [⟨0, (some 28), .mv (.tmp 3), none, []⟩,
 ⟨1, (some 29), .mv (.tmp 7), none, []⟩,
 ⟨2, (some 30), .call 35 [(.tmp 29)], none, []⟩,
 ⟨3, (some 31), .bslice 1 1 [(.string ⟨#[]⟩)] [(0, 1, (.tmp 30))], none, []⟩,
 ⟨4, (some 32), .append 1 16 (.tmp 28) (.tmp 31), none, []⟩,
 ⟨5, (some 3), .mv (.tmp 32), none, []⟩])))
 (.reg [⟨0, (some 33), .bin .add 3 true (.tmp 25) (.con (.int .i64 1)), none, []⟩,
 ⟨1, (some 25), .mv (.tmp 33), none, []⟩])))))))
 (.seq (.reg [⟨0, (some 34), .mv (.tmp 3), none, []⟩,
 ⟨1, (some 35), .fieldA 8 (.tmp 1), none, []⟩,
 ⟨2, (some 36), .load none (.tmp 35), none, []⟩,
 ⟨4, (some 38), .fieldA 9 (.tmp 1), none, []⟩,
 ⟨5, (some 39), .load none (.tmp 38), none, []⟩,
 ⟨7, (some 41), .fieldA 10 (.tmp 1), none, []⟩,
 ⟨8, (some 42), .load none (.tmp 41), none, []⟩,
 ⟨3, (some 37), .call 35 [(.tmp 36)], none, [(.tmp 38), (.tmp 41)]⟩,
 ⟨6, (some 40), .call 35 [(.tmp 39)], none, [(.tmp 41)]⟩,
 ⟨9, (some 43), .call 35 [(.tmp 42)], none, []⟩,
 ⟨10, (some 44), .bslice 1 6 [(.string ⟨#[]⟩)] [(0, 1, (.con (.string ⟨#[114, 101, 103, 115]⟩))), (1, 1, (.tmp 37)), (2, 1, (.con (.string ⟨#[98, 97, 110, 107, 115]⟩))), (3, 1, (.tmp 40)), (4, 1, (.con (.string ⟨#[112, 111, 114, 116, 115]⟩))), (5, 1, (.tmp 43))], none, []⟩,
 ⟨11, (some 45), .append 1 16 (.tmp 34) (.tmp 44), none, []⟩,
 ⟨12, (some 3), .mv (.tmp 45), none, []⟩])
 (.seq (.reg [⟨0, (some 46), .mv (.tmp 3), none, []⟩,
 ⟨1, (some 47), .call 50 [(.tmp 46), (.con (.string ⟨#[32]⟩))], none, []⟩,
 ⟨2, (some 2), .mv (.tmp 47), none, []⟩])
 (.ret))))))),
 [.tmp 2]⟩
theorem p_machine_write : prepFun Go.Proofs.Tryd.prog [0, 3, 4] Go.Proofs.Tryd.f34 = some v_machine_write := by kernel_rfl

end Go.VX.Seat
end
section
set_option maxRecDepth 20000
/-! MADE BY PROGRAM (lits.py): functions as they are prepared. -/
namespace Go.VX.Seat
def v_strconv_Itoa : VFun :=
⟨.seq (.reg [⟨0, (some 2), .mv (.con (.string ⟨#[]⟩)), none, []⟩])
 (.seq (.reg [⟨0, (some 3), .mv (.tmp 0), none, []⟩,
 ⟨1, (some 4), .call 51 [(.tmp 3)], none, []⟩,
 ⟨2, (some 2), .mv (.tmp 4), none, []⟩])
 (.ret)),
 [.tmp 2]⟩
theorem p_strconv_Itoa : prepFun Go.Proofs.Tryd.prog [0, 3, 4] Go.Proofs.Tryd.f35 = some v_strconv_Itoa := by kernel_rfl

def v_strings_Split : VFun :=
⟨.seq (.reg [⟨0, (some 4), .mv (.con (.slice none 0 0)), none, []⟩])
 (.seq (.reg [⟨0, (some 5), .mv (.tmp 0), none, []⟩,
 ⟨1, (some 6), .mv (.tmp 1), none, []⟩,
 ⟨2, (some 7), .call 52 [(.tmp 5), (.tmp 6), (.con (.int .i64 0)), (.con (.int .i64 (-1)))], none, []⟩,
 ⟨3, (some 4), .mv (.tmp 7), none, []⟩])
 (.ret)),
 [.tmp 4]⟩
theorem p_strings_Split : prepFun Go.Proofs.Tryd.prog [0, 3, 4] Go.Proofs.Tryd.f36 = some v_strings_Split := by kernel_rfl

def v_machine_Parse_c1 : VFun :=
⟨.seq (.reg [⟨0, (some 3), .mv (.con (.int .i64 0)), none, []⟩])
 (.seq (.reg [⟨0, (some 7), .load none (.tmp 1), none, []⟩,
 ⟨1, (some 8), .mv (.tmp 0), none, []⟩,
 ⟨2, (some 9), .idxA none 1 (.tmp 7) (.tmp 8), none, []⟩,
 ⟨3, (some 10), .load none (.tmp 9), none, []⟩,
 ⟨4, (some 11), .call 38 [(.tmp 10)], none, []⟩,
 ⟨5, (some 6), .mv (.tmp 11), none, []⟩,
 ⟨6, (some 12), .ext (.tmp 6) 0, none, []⟩,
 ⟨7, (some 13), .ext (.tmp 6) 1, none, []⟩,
 ⟨8, (some 4), .mv (.tmp 12), none, []⟩,
 ⟨9, (some 5), .mv (.tmp 13), none, []⟩])
 (.seq (.reg [⟨0, (some 14), .mv (.tmp 4), none, []⟩,
 ⟨1, (some 3), .mv (.tmp 14), none, []⟩])
 (.ret))),
 [.tmp 3]⟩
theorem p_machine_Parse_c1 : prepFun Go.Proofs.Tryd.prog [0, 3, 4] Go.Proofs.Tryd.f37 = some v_machine_Parse_c1 := by kernel_rfl

def v_strconv_Atoi : VFun :=
⟨.seq (.reg [⟨0, (some 2), .mv (.con (.int .i64 0)), none, []⟩,
 ⟨1, (some 3), .mv (.con .nilIface), none, []⟩])
 (.seq (.reg [⟨0, (some 7), .mv (.tmp 0), none, []⟩,
 ⟨1, (some 8), .call 53 [(.tmp 7)], none, []⟩,
 ⟨2, (some 6), .mv (.tmp 8), none, []⟩,
 ⟨3, (some 9), .ext (.tmp 6) 0, none, []⟩,
 ⟨4, (some 10), .ext (.tmp 6) 1, none, []⟩,
 ⟨5, (some 4), .mv (.tmp 9), none, []⟩,
 ⟨6, (some 5), .mv (.tmp 10), none, []⟩])
 (.seq (.seq (.reg [⟨0, (some 11), .mv (.tmp 5), none, []⟩,
 ⟨1, (some 12), .bin .neq 71 true (.tmp 11) (.con .nilIface), none, []⟩])
 (.cond (.tmp 12)
 (.seq (.reg [⟨0, (some 13), .mv (.tmp 4), none, []⟩,
 ⟨1, (some 14), .mv (.tmp 0), none, []⟩,
 ⟨2, (some 15), .mv (.tmp 5), none, []⟩,
 ⟨3, (some 16), .call 54 [(.con (.string ⟨#[65, 116, 111, 105]⟩)), (.tmp 14), (.con (.int .i64 0)), (.con (.int .i64 0)), (.tmp 15)], none, []⟩,
 ⟨4, (some 2), .mv (.tmp 13), none, []⟩,
 ⟨5, (some 3), .mv (.tmp 16), none, []⟩])
 (.ret))
 (.skip)))
 (.seq (.reg [⟨0, (some 17), .mv (.tmp 4), none, []⟩,
 ⟨1, (some 2), .mv (.tmp 17), none, []⟩,
 ⟨2, (some 3), .mv (.con .nilIface), none, []⟩])
 (.ret)))),
 [.tmp 2, .tmp 3]⟩
theorem p_strconv_Atoi : prepFun Go.Proofs.Tryd.prog [0, 3, 4] Go.Proofs.Tryd.f38 = some v_strconv_Atoi := by kernel_rfl

def v_code_Class : VFun :=
⟨.seq (.reg [⟨0, (some 2), .mv (.con (.int .i64 0)), none, []⟩,
 ⟨1, (some 3), .mv (.con (.int .i64 0)), none, []⟩])
 (.seq (.reg [⟨0, (some 7), .mv (.tmp 0), none, []⟩,
 ⟨1, (some 8), .call 55 [(.tmp 7)], none, []⟩,
 ⟨2, (some 6), .mv (.tmp 8), none, []⟩,
 ⟨3, (some 9), .ext (.tmp 6) 0, none, []⟩,
 ⟨4, (some 10), .ext (.tmp 6) 1, none, []⟩,
 ⟨5, (some 4), .alloc [(.int .i64 0), (.int .i64 0), (.string ⟨#[]⟩)], none, []⟩,
 ⟨6, none, .store 3 (.tmp 4) (.tmp 9), none, []⟩,
 ⟨7, (some 5), .mv (.tmp 10), none, []⟩])
 (.seq (.seq (.reg [⟨0, (some 11), .mv (.tmp 5), none, []⟩,
 ⟨1, (some 12), .un .not (.tmp 11), none, []⟩])
 (.cond (.tmp 12)
 (.seq (.reg [⟨0, (some 2), .mv (.con (.int .i64 0)), none, []⟩,
 ⟨1, (some 3), .mv (.con (.int .i64 4)), none, []⟩])
 (.ret))
 (.skip)))
 (.seq (.reg [⟨0, (some 13), .fieldA 1 (.tmp 4), none, []⟩,
 ⟨1, (some 14), .load none (.tmp 13), none, []⟩,
 ⟨2, (some 2), .mv (.tmp 14), none, []⟩,
 ⟨3, (some 3), .mv (.con (.int .i64 0)), none, []⟩])
 (.ret)))),
 [.tmp 2, .tmp 3]⟩
theorem p_code_Class : prepFun Go.Proofs.Tryd.prog [0, 3, 4] Go.Proofs.Tryd.f41 = some v_code_Class := by kernel_rfl

def v_machine_in : VFun :=
⟨.seq (.reg [⟨0, (some 6), .mv (.con (.bool false)), none, []⟩])
 (.seq (.reg [⟨0, (some 7), .mv (.tmp 0), none, []⟩,
 ⟨1, (some 8), .mv (.tmp 1), none, []⟩,
 ⟨2, (some 9), .bin .geq 3 false (.tmp 7) (.tmp 8), none, []⟩,
 ⟨3, (some 10), .mv (.tmp 9), none, []⟩,
 ⟨4, (some 11), .mv (.tmp 0), (some (10, true)), []⟩,
 ⟨5, (some 12), .mv (.tmp 2), (some (10, true)), []⟩,
 ⟨6, (some 13), .bin .leq 3 false (.tmp 11) (.tmp 12), (some (10, true)), []⟩,
 ⟨7, (some 14), .pick (.tmp 10) (.tmp 13) (.con (.bool false)), none, []⟩,
 ⟨8, (some 6), .mv (.tmp 14), none, []⟩])
 (.ret)),
 [.tmp 6]⟩
theorem p_machine_in : prepFun Go.Proofs.Tryd.prog [0, 3, 4] Go.Proofs.Tryd.f42 = some v_machine_in := by kernel_rfl

def v_code_Reads : VFun :=
⟨.seq (.reg [⟨0, (some 1), .box (.tmp 0), none, []⟩,
 ⟨1, (some 2), .mv (.con (.slice none 0 0)), none, []⟩,
 ⟨2, (some 3), .mv (.con (.int .i64 0)), none, []⟩])
 (.seq (.seq (.reg [⟨0, (some 7), .fieldA 0 (.tmp 1), none, []⟩,
 ⟨1, (some 8), .load none (.tmp 7), none, []⟩,
 ⟨2, (some 9), .call 55 [(.tmp 8)], none, []⟩,
 ⟨3, (some 6), .mv (.tmp 9), none, []⟩,
 ⟨4, (some 10), .ext (.tmp 6) 0, none, []⟩,
 ⟨5, (some 11), .ext (.tmp 6) 1, none, []⟩,
 ⟨6, (some 4), .alloc [(.int .i64 0), (.int .i64 0), (.string ⟨#[]⟩)], none, []⟩,
 ⟨7, none, .store 3 (.tmp 4) (.tmp 10), none, []⟩,
 ⟨8, (some 5), .mv (.tmp 11), none, []⟩])
 (.seq (.reg [⟨0, (some 12), .mv (.tmp 5), none, []⟩,
 ⟨1, (some 13), .un .not (.tmp 12), none, []⟩])
 (.cond (.tmp 13)
 (.seq (.reg [⟨0, (some 2), .mv (.con (.slice none 0 0)), none, []⟩,
 ⟨1, (some 3), .mv (.con (.int .i64 4)), none, []⟩])
 (.ret))
 (.skip))))
 (.seq (.seq (.reg [⟨0, (some 14), .fieldA 6 (.tmp 1), none, []⟩,
 ⟨1, (some 15), .load none (.tmp 14), none, []⟩,
 ⟨2, (some 16), .bin .neq 3 true (.tmp 15) (.con (.int .i64 (-1))), none, []⟩])
 (.cond (.tmp 16)
 (.seq (.reg [⟨0, (some 17), .fieldA 6 (.tmp 1), none, []⟩,
 ⟨1, (some 18), .load none (.tmp 17), none, []⟩,
 ⟨2, (some 19), .bslice 1 1 [(.int .i64 0)] [(0, 1, (.tmp 18))], none, []⟩,
 ⟨3, (some 20), .load (some 7) (.tmp 1), none, []⟩,
 ⟨4, (some 21), .call 56 [(.tmp 20)], none, [(.tmp 17)]⟩,
 ⟨5, (some 22), .append 1 8 (.tmp 19) (.tmp 21), none, []⟩,
 ⟨6, (some 2), .mv (.tmp 22), none, []⟩,
 ⟨7, (some 3), .mv (.con (.int .i64 0)), none, []⟩])
 (.ret))
 (.skip)))
 (.seq (.reg [⟨0, (some 23), .load (some 7) (.tmp 1), none, []⟩,
 ⟨1, (some 24), .call 56 [(.tmp 23)], none, []⟩,
 ⟨2, (some 2), .mv (.tmp 24), none, []⟩,
 ⟨3, (some 3), .mv (.con (.int .i64 0)), none, []⟩])
 (.ret)))),
 [.tmp 2, .tmp 3]⟩
theorem p_code_Reads : prepFun Go.Proofs.Tryd.prog [0, 3, 4] Go.Proofs.Tryd.f43 = some v_code_Reads := by kernel_rfl

def v_slices_Contains_int : VFun :=
⟨.seq (.reg [⟨0, (some 4), .mv (.con (.bool false)), none, []⟩])
 (.seq (.reg [⟨0, (some 5), .mv (.tmp 0), none, []⟩,
 ⟨1, (some 6), .mv (.tmp 1), none, []⟩,
 ⟨2, (some 7), .call 57 [(.tmp 5), (.tmp 6)], none, []⟩,
 ⟨3, (some 8), .bin .geq 3 true (.tmp 7) (.con (.int .i64 0)), none, []⟩,
 ⟨4, (some 4), .mv (.tmp 8), none, []⟩])
 (.ret)),
 [.tmp 4]⟩
theorem p_slices_Contains_int : prepFun Go.Proofs.Tryd.prog [0, 3, 4] Go.Proofs.Tryd.f44 = some v_slices_Contains_int := by kernel_rfl

def v_r18_Reads : VFun :=
⟨.seq (.reg [⟨0, (some 1), .box (.tmp 0), none, []⟩,
 ⟨1, (some 2), .mv (.con (.slice none 0 0)), none, []⟩])
 (.seq (.reg [⟨0, (some 3), .mv (.con (.slice none 0 0)), none, []⟩])
 (.seq (.seq (.reg [⟨0, (some 7), .fieldA 0 (.tmp 1), none, []⟩,
 ⟨1, (some 8), .load none (.tmp 7), none, []⟩,
 ⟨2, (some 9), .bin .lss 3 true (.tmp 8) (.con (.int .i64 1)), none, []⟩,
 ⟨3, (some 10), .mv (.tmp 9), none, []⟩,
 ⟨4, (some 11), .fieldA 0 (.tmp 1), (some (10, false)), []⟩,
 ⟨5, (some 12), .load none (.tmp 11), (some (10, false)), []⟩,
 ⟨6, (some 13), .bin .gtr 3 true (.tmp 12) (.con (.int .i64 25)), (some (10, false)), []⟩,
 ⟨7, (some 14), .pick (.tmp 10) (.con (.bool true)) (.tmp 13), none, []⟩])
 (.cond (.tmp 14)
 (.seq (.reg [⟨0, (some 2), .mv (.con (.slice none 0 0)), none, []⟩])
 (.ret))
 (.skip)))
 (.seq (.reg [⟨0, (some 16), .fieldA 0 (.tmp 1), none, []⟩,
 ⟨1, (some 17), .load none (.tmp 16), none, []⟩,
 ⟨2, (some 18), .call 58 [(.tmp 17)], none, []⟩,
 ⟨3, (some 15), .mv (.tmp 18), none, []⟩,
 ⟨4, (some 19), .ext (.tmp 15) 0, none, []⟩,
 ⟨5, (some 20), .ext (.tmp 15) 1, none, []⟩,
 ⟨6, (some 21), .ext (.tmp 15) 2, none, []⟩,
 ⟨7, (some 4), .mv (.tmp 19), none, []⟩,
 ⟨8, (some 5), .mv (.tmp 20), none, []⟩,
 ⟨9, (some 6), .mv (.tmp 21), none, []⟩])
 (.seq (.seq (.reg [⟨0, (some 22), .mv (.tmp 4), none, []⟩])
 (.cond (.tmp 22)
 (.reg [⟨0, (some 23), .mv (.tmp 3), none, []⟩,
 ⟨1, (some 24), .fieldA 2 (.tmp 1), none, []⟩,
 ⟨2, (some 25), .load none (.tmp 24), none, []⟩,
 ⟨3, (some 26), .call 59 [(.tmp 23), (.tmp 25)], none, []⟩,
 ⟨4, (some 3), .mv (.tmp 26), none, []⟩])
 (.skip)))
 (.seq (.seq (.reg [⟨0, (some 27), .mv (.tmp 5), none, []⟩])
 (.cond (.tmp 27)
 (.reg [⟨0, (some 28), .mv (.tmp 3), none, []⟩,
 ⟨1, (some 29), .fieldA 3 (.tmp 1), none, []⟩,
 ⟨2, (some 30), .load none (.tmp 29), none, []⟩,
 ⟨3, (some 31), .call 59 [(.tmp 28), (.tmp 30)], none, []⟩,
 ⟨4, (some 3), .mv (.tmp 31), none, []⟩])
 (.skip)))
 (.seq (.seq (.reg [⟨0, (some 32), .mv (.tmp 6), none, []⟩])
 (.cond (.tmp 32)
 (.reg [⟨0, (some 33), .mv (.tmp 3), none, []⟩,
 ⟨1, (some 34), .fieldA 4 (.tmp 1), none, []⟩,
 ⟨2, (some 35), .load none (.tmp 34), none, []⟩,
 ⟨3, (some 36), .call 59 [(.tmp 33), (.tmp 35)], none, []⟩,
 ⟨4, (some 3), .mv (.tmp 36), none, []⟩])
 (.skip)))
 (.seq (.seq (.reg [⟨0, (some 37), .fieldA 6 (.tmp 1), none, []⟩,
 ⟨1, (some 38), .load none (.tmp 37), none, []⟩,
 ⟨2, (some 39), .bin .neq 3 true (.tmp 38) (.con (.int .i64 (-1))), none, []⟩])
 (.cond (.tmp 39)
 (.reg [⟨0, (some 40), .mv (.tmp 3), none, []⟩,
 ⟨1, (some 41), .fieldA 6 (.tmp 1), none, []⟩,
 ⟨2, (some 42), .load none (.tmp 41), none, []⟩,
 ⟨3, (some 43), .call 59 [(.tmp 40), (.tmp 42)], none, []⟩,
 ⟨4, (some 3), .mv (.tmp 43), none, []⟩])
 (.skip)))
 (.seq (.reg [⟨0, (some 44), .mv (.tmp 3), none, []⟩,
 ⟨1, (some 2), .mv (.tmp 44), none, []⟩])
 (.ret))))))))),
 [.tmp 2]⟩
theorem p_r18_Reads : prepFun Go.Proofs.Tryd.prog [0, 3, 4] Go.Proofs.Tryd.f45 = some v_r18_Reads := by kernel_rfl

def v_machine_NewUse : VFun :=
⟨.seq (.reg [⟨0, (some 1), .box (.tmp 0), none, []⟩,
 ⟨1, (some 2), .alloc [(.int .i64 0), (.int .i64 0), (.int .i64 0), (.int .i64 0), (.int .i64 0), (.int .i64 0), (.int .i64 0), (.int .i64 0), (.int .i64 0), (.int .i64 0), (.int .i64 0), (.int .i64 0), (.int .i64 0), (.int .i64 0), (.int .i64 0), (.int .i64 0), (.int .i64 0), (.int .i64 0), (.int .i64 0), (.int .i64 0), (.int .i64 0), (.int .i64 0), (.int .i64 0)], none, []⟩])
 (.seq (.reg [⟨0, (some 3), .load (some 11) (.tmp 1), none, []⟩,
 ⟨1, (some 4), .build [(.int .i64 0), (.int .i64 0), (.int .i64 0), (.int .i64 0), (.int .i64 0), (.int .i64 0), (.int .i64 0), (.int .i64 0), (.int .i64 0), (.int .i64 0), (.int .i64 0), (.int .i64 0), (.int .i64 0), (.int .i64 0), (.int .i64 0), (.int .i64 0), (.int .i64 0), (.int .i64 0), (.int .i64 0), (.int .i64 0), (.int .i64 0), (.int .i64 0), (.int .i64 0)] [(0, 11, (.tmp 3))], none, []⟩,
 ⟨2, none, .store 23 (.tmp 2) (.tmp 4), none, []⟩])
 (.ret)),
 [.cell 2 (some 23)]⟩
theorem p_machine_NewUse : prepFun Go.Proofs.Tryd.prog [0, 3, 4] Go.Proofs.Tryd.f46 = some v_machine_NewUse := by kernel_rfl

def v__machine_Use_With : VFun :=
⟨.seq (.reg [⟨0, (some 2), .box (.tmp 0), none, []⟩,
 ⟨1, (some 3), .box (.tmp 1), none, []⟩,
 ⟨2, (some 4), .alloc [(.int .i64 0), (.int .i64 0), (.int .i64 0), (.int .i64 0), (.int .i64 0), (.int .i64 0), (.int .i64 0), (.int .i64 0), (.int .i64 0), (.int .i64 0), (.int .i64 0), (.int .i64 0), (.int .i64 0), (.int .i64 0), (.int .i64 0), (.int .i64 0), (.int .i64 0), (.int .i64 0), (.int .i64 0), (.int .i64 0), (.int .i64 0), (.int .i64 0), (.int .i64 0)], none, []⟩])
 (.seq (.reg [⟨0, (some 10), .fieldA 0 (.tmp 3), none, []⟩,
 ⟨1, (some 11), .load none (.tmp 10), none, []⟩,
 ⟨2, (some 12), .call 21 [(.tmp 11)], none, []⟩,
 ⟨3, (some 9), .mv (.tmp 12), none, []⟩,
 ⟨4, (some 13), .ext (.tmp 9) 0, none, []⟩,
 ⟨5, (some 14), .ext (.tmp 9) 1, none, []⟩,
 ⟨6, (some 5), .mv (.tmp 13), none, []⟩,
 ⟨7, (some 6), .mv (.tmp 14), none, []⟩])
 (.seq (.reg [⟨0, (some 15), .mv (.tmp 5), none, []⟩,
 ⟨1, (some 16), .fieldA 11 (.tmp 2), none, []⟩,
 ⟨2, (some 17), .idxA (some 4) 1 (.tmp 16) (.tmp 15), none, []⟩,
 ⟨3, (some 18), .load none (.tmp 17), none, []⟩,
 ⟨4, (some 19), .bin .add 3 true (.tmp 18) (.con (.int .i64 1)), none, []⟩,
 ⟨5, (some 20), .fieldA 11 (.tmp 2), none, []⟩,
 ⟨6, (some 21), .idxA (some 4) 1 (.tmp 20) (.tmp 15), none, []⟩,
 ⟨7, none, .store 1 (.tmp 21) (.tmp 19), none, []⟩])
 (.seq (.seq (.reg [⟨0, (some 22), .load (some 7) (.tmp 3), none, []⟩,
 ⟨1, (some 23), .call 25 [(.tmp 22)], none, []⟩,
 ⟨2, (some 24), .len (.tmp 23), none, []⟩,
 ⟨3, (some 25), .mv (.con (.int .i64 0)), none, []⟩])
 (.block 0
 (.loop
 (.seq (.reg [⟨0, (some 26), .bin .lss 3 false (.tmp 25) (.tmp 24), none, []⟩])
 (.seq (.cond (.tmp 26)
 (.skip)
 (.exit 0))
 (.seq (.block 1
 (.seq (.reg [⟨0, (some 27), .idxA none 1 (.tmp 23) (.tmp 25), none, []⟩,
 ⟨1, (some 28), .load none (.tmp 27), none, []⟩,
 ⟨2, (some 8), .mv (.tmp 28), none, []⟩])
 (.reg [⟨0, (some 29), .mv (.tmp 8), none, []⟩,
 ⟨1, (some 30), .fieldA 0 (.tmp 2), none, []⟩,
 ⟨2, (some 31), .fieldA 9 (.tmp 30), none, []⟩,
 ⟨3, (some 32), .load none (.tmp 31), none, []⟩,
 ⟨4, (some 33), .bin .rem 3 false (.tmp 29) (.tmp 32), none, []⟩,
 ⟨5, (some 34), .fieldA 15 (.tmp 2), none, []⟩,
 ⟨6, (some 35), .idxA (some 8) 1 (.tmp 34) (.tmp 33), none, []⟩,
 ⟨7, (some 36), .load none (.tmp 35), none, []⟩,
 ⟨8, (some 37), .bin .add 3 true (.tmp 36) (.con (.int .i64 1)), none, []⟩,
 ⟨9, (some 38), .fieldA 15 (.tmp 2), none, []⟩,
 ⟨10, (some 39), .idxA (some 8) 1 (.tmp 38) (.tmp 33), none, []⟩,
 ⟨11, none, .store 1 (.tmp 39) (.tmp 37), none, []⟩])))
 (.reg [⟨0, (some 40), .bin .add 3 true (.tmp 25) (.con (.int .i64 1)), none, []⟩,
 ⟨1, (some 25), .mv (.tmp 40), none, []⟩])))))))
 (.seq (.reg [⟨0, (some 41), .load (some 23) (.tmp 2), none, []⟩,
 ⟨1, none, .store 23 (.tmp 4) (.tmp 41), none, []⟩])
 (.ret))))),
 [.cell 4 (some 23)]⟩
theorem p__machine_Use_With : prepFun Go.Proofs.Tryd.prog [0, 3, 4] Go.Proofs.Tryd.f47 = some v__machine_Use_With := by kernel_rfl

def v_slices_Max_int : VFun :=
⟨.seq (.reg [⟨0, (some 2), .mv (.con (.int .i64 0)), none, []⟩])
 (.seq (.seq (.reg [⟨0, (some 5), .mv (.tmp 0), none, []⟩,
 ⟨1, (some 6), .len (.tmp 5), none, []⟩,
 ⟨2, (some 7), .bin .lss 3 true (.tmp 6) (.con (.int .i64 1)), none, []⟩])
 (.cond (.tmp 7)
 (.reg [⟨0, (some 8), .mkif 9 (.con (.string ⟨#[115, 108, 105, 99, 101, 115, 46, 77, 97, 120, 58, 32, 101, 109, 112, 116, 121, 32, 108, 105, 115, 116]⟩)), none, []⟩,
 ⟨1, none, .panic (.tmp 8), none, []⟩])
 (.skip)))
 (.seq (.reg [⟨0, (some 9), .mv (.tmp 0), none, []⟩,
 ⟨1, (some 10), .idxA none 1 (.tmp 9) (.con (.int .i64 0)), none, []⟩,
 ⟨2, (some 11), .load none (.tmp 10), none, []⟩,
 ⟨3, (some 3), .mv (.tmp 11), none, []⟩])
 (.seq (.seq (.reg [⟨0, (some 4), .mv (.con (.int .i64 1)), none, []⟩])
 (.block 0
 (.loop
 (.seq (.seq (.reg [⟨0, (some 12), .mv (.tmp 4), none, []⟩,
 ⟨1, (some 13), .mv (.tmp 0), none, []⟩,
 ⟨2, (some 14), .len (.tmp 13), none, []⟩,
 ⟨3, (some 15), .bin .lss 3 false (.tmp 12) (.tmp 14), none, []⟩])
 (.cond (.tmp 15)
 (.skip)
 (.exit 0)))
 (.seq (.block 1
 (.reg [⟨0, (some 18), .mv (.tmp 3), none, []⟩,
 ⟨1, (some 19), .mv (.tmp 0), none, []⟩,
 ⟨2, (some 20), .mv (.tmp 4), none, []⟩,
 ⟨3, (some 21), .idxA none 1 (.tmp 19) (.tmp 20), none, []⟩,
 ⟨4, (some 22), .load none (.tmp 21), none, []⟩,
 ⟨5, (some 23), .bi .max [3, 3] 3 [(.tmp 18), (.tmp 22)], none, []⟩,
 ⟨6, (some 3), .mv (.tmp 23), none, []⟩]))
 (.reg [⟨0, (some 16), .mv (.tmp 4), none, []⟩,
 ⟨1, (some 17), .bin .add 3 true (.tmp 16) (.con (.int .i64 1)), none, []⟩,
 ⟨2, (some 4), .mv (.tmp 17), none, []⟩]))))))
 (.seq (.reg [⟨0, (some 24), .mv (.tmp 3), none, []⟩,
 ⟨1, (some 2), .mv (.tmp 24), none, []⟩])
 (.ret))))),
 [.tmp 2]⟩
theorem p_slices_Max_int : prepFun Go.Proofs.Tryd.prog [0, 3, 4] Go.Proofs.Tryd.f48 = some v_slices_Max_int := by kernel_rfl

def v_machine_up : VFun :=
⟨.seq (.reg [⟨0, (some 4), .mv (.con (.int .i64 0)), none, []⟩])
 (.seq (.reg [⟨0, (some 5), .mv (.tmp 0), none, []⟩,
 ⟨1, (some 6), .mv (.tmp 1), none, []⟩,
 ⟨2, (some 7), .bin .add 3 false (.tmp 5) (.tmp 6), none, []⟩,
 ⟨3, (some 8), .bin .sub 3 true (.tmp 7) (.con (.int .i64 1)), none, []⟩,
 ⟨4, (some 9), .mv (.tmp 1), none, []⟩,
 ⟨5, (some 10), .bin .quo 3 false (.tmp 8) (.tmp 9), none, []⟩,
 ⟨6, (some 4), .mv (.tmp 10), none, []⟩])
 (.ret)),
 [.tmp 4]⟩
theorem p_machine_up : prepFun Go.Proofs.Tryd.prog [0, 3, 4] Go.Proofs.Tryd.f49 = some v_machine_up := by kernel_rfl

def v_strings_Join : VFun :=
⟨.seq (.reg [⟨0, (some 4), .mv (.con (.string ⟨#[]⟩)), none, []⟩])
 (.seq (.seq (.reg [⟨0, (some 11), .mv (.tmp 0), none, []⟩,
 ⟨1, (some 12), .len (.tmp 11), none, []⟩])
 (.block 0
 (.seq (.reg [⟨0, (some 14), .bin .eql 3 true (.tmp 12) (.con (.int .i64 0)), none, []⟩,
 ⟨1, (some 13), .mv (.tmp 14), none, []⟩])
 (.cond (.tmp 13)
 (.seq (.reg [⟨0, (some 4), .mv (.con (.string ⟨#[]⟩)), none, []⟩])
 (.ret))
 (.seq (.reg [⟨0, (some 16), .bin .eql 3 true (.tmp 12) (.con (.int .i64 1)), none, []⟩,
 ⟨1, (some 15), .mv (.tmp 16), none, []⟩])
 (.cond (.tmp 15)
 (.seq (.reg [⟨0, (some 17), .mv (.tmp 0), none, []⟩,
 ⟨1, (some 18), .idxA none 1 (.tmp 17) (.con (.int .i64 0)), none, []⟩,
 ⟨2, (some 19), .load none (.tmp 18), none, []⟩,
 ⟨3, (some 4), .mv (.tmp 19), none, []⟩])
 (.ret))
 (.skip)))))))
 (.seq (.reg [⟨0, (some 5), .mv (.con (.int .i64 0)), none, []⟩])
 (.seq (.seq (.reg [⟨0, (some 20), .mv (.tmp 1), none, []⟩,
 ⟨1, (some 21), .bi .len [9] 3 [(.tmp 20)], none, []⟩,
 ⟨2, (some 22), .bin .gtr 3 true (.tmp 21) (.con (.int .i64 0)), none, []⟩])
 (.cond (.tmp 22)
 (.seq (.seq (.reg [⟨0, (some 23), .mv (.tmp 1), none, []⟩,
 ⟨1, (some 24), .bi .len [9] 3 [(.tmp 23)], none, []⟩,
 ⟨2, (some 25), .mv (.tmp 0), none, []⟩,
 ⟨3, (some 26), .len (.tmp 25), none, []⟩,
 ⟨4, (some 27), .bin .sub 3 true (.tmp 26) (.con (.int .i64 1)), none, []⟩,
 ⟨5, (some 28), .bin .quo 3 true (.con (.int .i64 9223372036854775807)) (.tmp 27), none, []⟩,
 ⟨6, (some 29), .bin .geq 3 false (.tmp 24) (.tmp 28), none, []⟩])
 (.cond (.tmp 29)
 (.reg [⟨0, (some 30), .mkif 9 (.con (.string ⟨#[115, 116, 114, 105, 110, 103, 115, 58, 32, 74, 111, 105, 110, 32, 111, 117, 116, 112, 117, 116, 32, 108, 101, 110, 103, 116, 104, 32, 111, 118, 101, 114, 102, 108, 111, 119]⟩)), none, []⟩,
 ⟨1, none, .panic (.tmp 30), none, []⟩])
 (.skip)))
 (.reg [⟨0, (some 31), .mv (.tmp 5), none, []⟩,
 ⟨1, (some 32), .mv (.tmp 1), none, []⟩,
 ⟨2, (some 33), .bi .len [9] 3 [(.tmp 32)], none, []⟩,
 ⟨3, (some 34), .mv (.tmp 0), none, []⟩,
 ⟨4, (some 35), .len (.tmp 34), none, []⟩,
 ⟨5, (some 36), .bin .sub 3 true (.tmp 35) (.con (.int .i64 1)), none, []⟩,
 ⟨6, (some 37), .bin .mul 3 false (.tmp 33) (.tmp 36), none, []⟩,
 ⟨7, (some 38), .bin .add 3 false (.tmp 31) (.tmp 37), none, []⟩,
 ⟨8, (some 5), .mv (.tmp 38), none, []⟩]))
 (.skip)))
 (.seq (.seq (.reg [⟨0, (some 39), .mv (.tmp 0), none, []⟩,
 ⟨1, (some 40), .len (.tmp 39), none, []⟩,
 ⟨2, (some 41), .mv (.con (.int .i64 0)), none, []⟩])
 (.block 1
 (.loop
 (.seq (.reg [⟨0, (some 42), .bin .lss 3 false (.tmp 41) (.tmp 40), none, []⟩])
 (.seq (.cond (.tmp 42)
 (.skip)
 (.exit 1))
 (.seq (.block 2
 (.seq (.reg [⟨0, (some 43), .idxA none 1 (.tmp 39) (.tmp 41), none, []⟩,
 ⟨1, (some 44), .load none (.tmp 43), none, []⟩,
 ⟨2, (some 7), .mv (.tmp 44), none, []⟩])
 (.seq (.seq (.reg [⟨0, (some 45), .mv (.tmp 7), none, []⟩,
 ⟨1, (some 46), .bi .len [9] 3 [(.tmp 45)], none, []⟩,
 ⟨2, (some 47), .mv (.tmp 5), none, []⟩,
 ⟨3, (some 48), .bin .sub 3 true (.con (.int .i64 9223372036854775807)) (.tmp 47), none, []⟩,
 ⟨4, (some 49), .bin .gtr 3 false (.tmp 46) (.tmp 48), none, []⟩])
 (.cond (.tmp 49)
 (.reg [⟨0, (some 50), .mkif 9 (.con (.string ⟨#[115, 116, 114, 105, 110, 103, 115, 58, 32, 74, 111, 105, 110, 32, 111, 117, 116, 112, 117, 116, 32, 108, 101, 110, 103, 116, 104, 32, 111, 118, 101, 114, 102, 108, 111, 119]⟩)), none, []⟩,
 ⟨1, none, .panic (.tmp 50), none, []⟩])
 (.skip)))
 (.reg [⟨0, (some 51), .mv (.tmp 5), none, []⟩,
 ⟨1, (some 52), .mv (.tmp 7), none, []⟩,
 ⟨2, (some 53), .bi .len [9] 3 [(.tmp 52)], none, []⟩,
 ⟨3, (some 54), .bin .add 3 false (.tmp 51) (.tmp 53), none, []⟩,
 ⟨4, (some 5), .mv (.tmp 54), none, []⟩]))))
 (.reg [⟨0, (some 55), .bin .add 3 true (.tmp 41) (.con (.int .i64 1)), none, []⟩,
 ⟨1, (some 41), .mv (.tmp 55), none, []⟩])))))))
 (.seq (.reg [⟨0, (some 8), .allocF [(.int .i64 1), (.int .i64 99), (.int .i64 5), (.string ⟨#[]⟩)], none, []⟩])
 (.seq (.reg [⟨0, (some 56), .mv (.tmp 5), none, []⟩,
 ⟨1, (some 57), .call 60 [(.tmp 8), (.tmp 56)], none, []⟩])
 (.seq (.reg [⟨0, (some 58), .mv (.tmp 0), none, []⟩,
 ⟨1, (some 59), .idxA none 1 (.tmp 58) (.con (.int .i64 0)), none, []⟩,
 ⟨2, (some 60), .load none (.tmp 59), none, []⟩,
 ⟨3, (some 61), .call 61 [(.tmp 8), (.tmp 60)], none, []⟩])
 (.seq (.seq (.reg [⟨0, (some 62), .mv (.tmp 0), none, []⟩,
 ⟨1, (some 63), .slice none 1 (.tmp 62) (some (.con (.int .i64 1))) none none, none, []⟩,
 ⟨2, (some 64), .len (.tmp 63), none, []⟩,
 ⟨3, (some 65), .mv (.con (.int .i64 0)), none, []⟩])
 (.block 3
 (.loop
 (.seq (.reg [⟨0, (some 66), .bin .lss 3 false (.tmp 65) (.tmp 64), none, []⟩])
 (.seq (.cond (.tmp 66)
 (.skip)
 (.exit 3))
 (.seq (.block 4
 (.seq (.reg [⟨0, (some 67), .idxA none 1 (.tmp 63) (.tmp 65), none, []⟩,
 ⟨1, (some 68), .load none (.tmp 67), none, []⟩,
 ⟨2, (some 10), .mv (.tmp 68), none, []⟩])
 (.seq (.reg [⟨0, (some 69), .mv (.tmp 1), none, []⟩,
 ⟨1, (some 70), .call 61 [(.tmp 8), (.tmp 69)], none, []⟩])
 (.reg [⟨0, (some 71), .mv (.tmp 10), none, []⟩,
 ⟨1, (some 72), .call 61 [(.tmp 8), (.tmp 71)], none, []⟩]))))
 (.reg [⟨0, (some 73), .bin .add 3 true (.tmp 65) (.con (.int .i64 1)), none, []⟩,
 ⟨1, (some 65), .mv (.tmp 73), none, []⟩])))))))
 (.seq (.reg [⟨0, (some 74), .call 62 [(.tmp 8)], none, []⟩,
 ⟨1, (some 4), .mv (.tmp 74), none, []⟩])
 (.ret)))))))))),
 [.tmp 4]⟩
theorem p_strings_Join : prepFun Go.Proofs.Tryd.prog [0, 3, 4] Go.Proofs.Tryd.f50 = some v_strings_Join := by kernel_rfl

def v_internal_strconv_Itoa : VFun :=
⟨.seq (.reg [⟨0, (some 2), .mv (.con (.string ⟨#[]⟩)), none, []⟩])
 (.seq (.reg [⟨0, (some 3), .mv (.tmp 0), none, []⟩,
 ⟨1, (some 4), .call 63 [(.tmp 3), (.con (.int .i64 10))], none, []⟩,
 ⟨2, (some 2), .mv (.tmp 4), none, []⟩])
 (.ret)),
 [.tmp 2]⟩
theorem p_internal_strconv_Itoa : prepFun Go.Proofs.Tryd.prog [0, 3, 4] Go.Proofs.Tryd.f51 = some v_internal_strconv_Itoa := by kernel_rfl

def v_strings_genSplit : VFun :=
⟨.seq (.reg [⟨0, (some 8), .mv (.con (.slice none 0 0)), none, []⟩])
 (.seq (.seq (.reg [⟨0, (some 12), .mv (.tmp 3), none, []⟩,
 ⟨1, (some 13), .bin .eql 3 true (.tmp 12) (.con (.int .i64 0)), none, []⟩])
 (.cond (.tmp 13)
 (.seq (.reg [⟨0, (some 8), .mv (.con (.slice none 0 0)), none, []⟩])
 (.ret))
 (.skip)))
 (.seq (.seq (.reg [⟨0, (some 14), .mv (.tmp 1), none, []⟩,
 ⟨1, (some 15), .bin .eql 9 true (.tmp 14) (.con (.string ⟨#[]⟩)), none, []⟩])
 (.cond (.tmp 15)
 (.seq (.reg [⟨0, (some 16), .mv (.tmp 0), none, []⟩,
 ⟨1, (some 17), .mv (.tmp 3), none, []⟩,
 ⟨2, (some 18), .call 64 [(.tmp 16), (.tmp 17)], none, []⟩,
 ⟨3, (some 8), .mv (.tmp 18), none, []⟩])
 (.ret))
 (.skip)))
 (.seq (.seq (.reg [⟨0, (some 19), .mv (.tmp 3), none, []⟩,
 ⟨1, (some 20), .bin .lss 3 true (.tmp 19) (.con (.int .i64 0)), none, []⟩])
 (.cond (.tmp 20)
 (.reg [⟨0, (some 21), .mv (.tmp 0), none, []⟩,
 ⟨1, (some 22), .mv (.tmp 1), none, []⟩,
 ⟨2, (some 23), .call 65 [(.tmp 21), (.tmp 22)], none, []⟩,
 ⟨3, (some 24), .bin .add 3 true (.tmp 23) (.con (.int .i64 1)), none, []⟩,
 ⟨4, (some 3), .mv (.tmp 24), none, []⟩])
 (.skip)))
 (.seq (.reg [⟨0, (some 25), .mv (.tmp 3), none, []⟩,
 ⟨1, (some 26), .mv (.tmp 0), none, []⟩,
 ⟨2, (some 27), .bi .len [9] 3 [(.tmp 26)], none, []⟩,
 ⟨3, (some 28), .bin .add 3 true (.tmp 27) (.con (.int .i64 1)), none, []⟩,
 ⟨4, (some 29), .bi .min [3, 3] 3 [(.tmp 25), (.tmp 28)], none, []⟩,
 ⟨5, (some 3), .mv (.tmp 29), none, []⟩])
 (.seq (.reg [⟨0, (some 30), .mv (.tmp 3), none, []⟩,
 ⟨1, (some 31), .mksl 1 16 [(.string ⟨#[]⟩)] (.tmp 30) (.tmp 30), none, []⟩,
 ⟨2, (some 9), .mv (.tmp 31), none, []⟩])
 (.seq (.reg [⟨0, (some 32), .mv (.tmp 3), none, []⟩,
 ⟨1, (some 33), .bin .sub 3 true (.tmp 32) (.con (.int .i64 1)), none, []⟩,
 ⟨2, (some 3), .mv (.tmp 33), none, []⟩])
 (.seq (.reg [⟨0, (some 10), .mv (.con (.int .i64 0)), none, []⟩])
 (.seq (.block 0
 (.loop
 (.seq (.seq (.reg [⟨0, (some 34), .mv (.tmp 10), none, []⟩,
 ⟨1, (some 35), .mv (.tmp 3), none, []⟩,
 ⟨2, (some 36), .bin .lss 3 false (.tmp 34) (.tmp 35), none, []⟩])
 (.cond (.tmp 36)
 (.skip)
 (.exit 0)))
 (.block 1
 (.seq (.reg [⟨0, (some 37), .mv (.tmp 0), none, []⟩,
 ⟨1, (some 38), .mv (.tmp 1), none, []⟩,
 ⟨2, (some 39), .call 66 [(.tmp 37), (.tmp 38)], none, []⟩,
 ⟨3, (some 11), .mv (.tmp 39), none, []⟩])
 (.seq (.seq (.reg [⟨0, (some 40), .mv (.tmp 11), none, []⟩,
 ⟨1, (some 41), .bin .lss 3 true (.tmp 40) (.con (.int .i64 0)), none, []⟩])
 (.cond (.tmp 41)
 (.exit 0)
 (.skip)))
 (.seq (.reg [⟨0, (some 42), .mv (.tmp 9), none, []⟩,
 ⟨1, (some 43), .mv (.tmp 10), none, []⟩,
 ⟨2, (some 44), .mv (.tmp 0), none, []⟩,
 ⟨3, (some 45), .mv (.tmp 11), none, []⟩,
 ⟨4, (some 46), .mv (.tmp 2), none, []⟩,
 ⟨5, (some 47), .bin .add 3 false (.tmp 45) (.tmp 46), none, []⟩,
 ⟨6, (some 48), .slS 9 (.tmp 44) none (some (.tmp 47)), none, []⟩,
 ⟨7, (some 49), .idxA none 1 (.tmp 42) (.tmp 43), none, []⟩,
 ⟨8, none, .store 1 (.tmp 49) (.tmp 48), none, []⟩])
 (.seq (.reg [⟨0, (some 50), .mv (.tmp 0), none, []⟩,
 ⟨1, (some 51), .mv (.tmp 11), none, []⟩,
 ⟨2, (some 52), .mv (.tmp 1), none, []⟩,
 ⟨3, (some 53), .bi .len [9] 3 [(.tmp 52)], none, []⟩,
 ⟨4, (some 54), .bin .add 3 false (.tmp 51) (.tmp 53), none, []⟩,
 ⟨5, (some 55), .slS 9 (.tmp 50) (some (.tmp 54)) none, none, []⟩,
 ⟨6, (some 0), .mv (.tmp 55), none, []⟩])
 (.reg [⟨0, (some 56), .mv (.tmp 10), none, []⟩,
 ⟨1, (some 57), .bin .add 3 true (.tmp 56) (.con (.int .i64 1)), none, []⟩,
 ⟨2, (some 10), .mv (.tmp 57), none, []⟩])))))))))
 (.seq (.reg [⟨0, (some 58), .mv (.tmp 9), none, []⟩,
 ⟨1, (some 59), .mv (.tmp 10), none, []⟩,
 ⟨2, (some 60), .mv (.tmp 0), none, []⟩,
 ⟨3, (some 61), .idxA none 1 (.tmp 58) (.tmp 59), none, []⟩,
 ⟨4, none, .store 1 (.tmp 61) (.tmp 60), none, []⟩])
 (.seq (.reg [⟨0, (some 62), .mv (.tmp 9), none, []⟩,
 ⟨1, (some 63), .mv (.tmp 10), none, []⟩,
 ⟨2, (some 64), .bin .add 3 true (.tmp 63) (.con (.int .i64 1)), none, []⟩,
 ⟨3, (some 65), .slice none 1 (.tmp 62) none (some (.tmp 64)) none, none, []⟩,
 ⟨4, (some 8), .mv (.tmp 65), none, []⟩])
 (.ret))))))))))),
 [.tmp 8]⟩
theorem p_strings_genSplit : prepFun Go.Proofs.Tryd.prog [0, 3, 4] Go.Proofs.Tryd.f52 = some v_strings_genSplit := by kernel_rfl

def v_internal_strconv_Atoi : VFun :=
⟨.seq (.reg [⟨0, (some 2), .mv (.con (.int .i64 0)), none, []⟩,
 ⟨1, (some 3), .mv (.con .nilIface), none, []⟩])
 (.seq (.reg [⟨0, (some 11), .mv (.tmp 0), none, []⟩,
 ⟨1, (some 12), .bi .len [9] 3 [(.tmp 11)], none, []⟩,
 ⟨2, (some 4), .mv (.tmp 12), none, []⟩])
 (.seq (.seq (.reg [⟨0, (some 13), .mv (.con (.bool false)), none, []⟩,
 ⟨1, (some 14), .mv (.tmp 4), (some (13, true)), []⟩,
 ⟨2, (some 15), .bin .lss 3 true (.con (.int .i64 0)) (.tmp 14), (some (13, true)), []⟩,
 ⟨3, (some 16), .mv (.tmp 15), (some (13, true)), []⟩,
 ⟨4, (some 17), .mv (.tmp 4), (some (16, true)), []⟩,
 ⟨5, (some 18), .bin .lss 3 true (.tmp 17) (.con (.int .i64 10)), (some (16, true)), []⟩,
 ⟨6, (some 19), .pick (.tmp 16) (.tmp 18) (.con (.bool false)), (some (13, true)), []⟩,
 ⟨7, (some 20), .pick (.tmp 13) (.tmp 19) (.con (.bool false)), none, []⟩,
 ⟨8, (some 21), .mv (.tmp 20), none, []⟩,
 ⟨9, (some 22), .mv (.con (.bool true)), (some (21, false)), []⟩,
 ⟨10, (some 23), .mv (.tmp 4), (some (22, true)), []⟩,
 ⟨11, (some 24), .bin .lss 3 true (.con (.int .i64 0)) (.tmp 23), (some (22, true)), []⟩,
 ⟨12, (some 25), .mv (.tmp 24), (some (22, true)), []⟩,
 ⟨13, (some 26), .mv (.tmp 4), (some (25, true)), []⟩,
 ⟨14, (some 27), .bin .lss 3 true (.tmp 26) (.con (.int .i64 19)), (some (25, true)), []⟩,
 ⟨15, (some 28), .pick (.tmp 25) (.tmp 27) (.con (.bool false)), (some (22, true)), []⟩,
 ⟨16, (some 29), .pick (.tmp 22) (.tmp 28) (.con (.bool false)), (some (21, false)), []⟩,
 ⟨17, (some 30), .pick (.tmp 21) (.con (.bool true)) (.tmp 29), none, []⟩])
 (.cond (.tmp 30)
 (.seq (.reg [⟨0, (some 31), .mv (.tmp 0), none, []⟩,
 ⟨1, (some 5), .mv (.tmp 31), none, []⟩])
 (.seq (.seq (.reg [⟨0, (some 32), .mv (.tmp 0), none, []⟩,
 ⟨1, (some 33), .idxS 9 (.tmp 32) (.con (.int .i64 0)), none, []⟩,
 ⟨2, (some 34), .bin .eql 5 true (.tmp 33) (.con (.int .u8 45)), none, []⟩,
 ⟨3, (some 35), .mv (.tmp 34), none, []⟩,
 ⟨4, (some 36), .mv (.tmp 0), (some (35, false)), []⟩,
 ⟨5, (some 37), .idxS 9 (.tmp 36) (.con (.int .i64 0)), (some (35, false)), []⟩,
 ⟨6, (some 38), .bin .eql 5 true (.tmp 37) (.con (.int .u8 43)), (some (35, false)), []⟩,
 ⟨7, (some 39), .pick (.tmp 35) (.con (.bool true)) (.tmp 38), none, []⟩])
 (.cond (.tmp 39)
 (.seq (.reg [⟨0, (some 40), .mv (.tmp 0), none, []⟩,
 ⟨1, (some 41), .slS 9 (.tmp 40) (some (.con (.int .i64 1))) none, none, []⟩,
 ⟨2, (some 0), .mv (.tmp 41), none, []⟩])
 (.seq (.reg [⟨0, (some 42), .mv (.tmp 0), none, []⟩,
 ⟨1, (some 43), .bi .len [9] 3 [(.tmp 42)], none, []⟩,
 ⟨2, (some 44), .bin .lss 3 true (.tmp 43) (.con (.int .i64 1)), none, []⟩])
 (.cond (.tmp 44)
 (.seq (.reg [⟨0, (some 45), .mkif 105 (.con (.int .i64 2)), none, []⟩,
 ⟨1, (some 2), .mv (.con (.int .i64 0)), none, []⟩,
 ⟨2, (some 3), .mv (.tmp 45), none, []⟩])
 (.ret))
 (.skip))))
 (.skip)))
 (.seq (.reg [⟨0, (some 6), .mv (.con (.int .i64 0)), none, []⟩])
 (.seq (.seq (.reg [⟨0, (some 46), .mv (.tmp 0), none, []⟩,
 ⟨1, (some 47), .s2b (.tmp 46), none, []⟩,
 ⟨2, (some 48), .len (.tmp 47), none, []⟩,
 ⟨3, (some 49), .mv (.con (.int .i64 0)), none, []⟩])
 (.block 0
 (.loop
 (.seq (.reg [⟨0, (some 50), .bin .lss 3 false (.tmp 49) (.tmp 48), none, []⟩])
 (.seq (.cond (.tmp 50)
 (.skip)
 (.exit 0))
 (.seq (.block 1
 (.seq (.reg [⟨0, (some 51), .idxA none 1 (.tmp 47) (.tmp 49), none, []⟩,
 ⟨1, (some 52), .load none (.tmp 51), none, []⟩,
 ⟨2, (some 8), .mv (.tmp 52), none, []⟩])
 (.seq (.reg [⟨0, (some 53), .mv (.tmp 8), none, []⟩,
 ⟨1, (some 54), .bin .sub 5 true (.tmp 53) (.con (.int .u8 48)), none, []⟩,
 ⟨2, (some 8), .mv (.tmp 54), none, []⟩])
 (.seq (.seq (.reg [⟨0, (some 55), .mv (.tmp 8), none, []⟩,
 ⟨1, (some 56), .bin .gtr 5 true (.tmp 55) (.con (.int .u8 9)), none, []⟩])
 (.cond (.tmp 56)
 (.seq (.reg [⟨0, (some 57), .mkif 105 (.con (.int .i64 2)), none, []⟩,
 ⟨1, (some 2), .mv (.con (.int .i64 0)), none, []⟩,
 ⟨2, (some 3), .mv (.tmp 57), none, []⟩])
 (.ret))
 (.skip)))
 (.reg [⟨0, (some 58), .mv (.tmp 6), none, []⟩,
 ⟨1, (some 59), .bin .mul 3 true (.tmp 58) (.con (.int .i64 10)), none, []⟩,
 ⟨2, (some 60), .mv (.tmp 8), none, []⟩,
 ⟨3, (some 61), .conv 5 3 (.tmp 60), none, []⟩,
 ⟨4, (some 62), .bin .add 3 false (.tmp 59) (.tmp 61), none, []⟩,
 ⟨5, (some 6), .mv (.tmp 62), none, []⟩])))))
 (.reg [⟨0, (some 63), .bin .add 3 true (.tmp 49) (.con (.int .i64 1)), none, []⟩,
 ⟨1, (some 49), .mv (.tmp 63), none, []⟩])))))))
 (.seq (.seq (.reg [⟨0, (some 64), .mv (.tmp 5), none, []⟩,
 ⟨1, (some 65), .idxS 9 (.tmp 64) (.con (.int .i64 0)), none, []⟩,
 ⟨2, (some 66), .bin .eql 5 true (.tmp 65) (.con (.int .u8 45)), none, []⟩])
 (.cond (.tmp 66)
 (.reg [⟨0, (some 67), .mv (.tmp 6), none, []⟩,
 ⟨1, (some 68), .un .neg (.tmp 67), none, []⟩,
 ⟨2, (some 6), .mv (.tmp 68), none, []⟩])
 (.skip)))
 (.seq (.reg [⟨0, (some 69), .mv (.tmp 6), none, []⟩,
 ⟨1, (some 2), .mv (.tmp 69), none, []⟩,
 ⟨2, (some 3), .mv (.con .nilIface), none, []⟩])
 (.ret)))))))
 (.skip)))
 (.seq (.reg [⟨0, (some 71), .mv (.tmp 0), none, []⟩,
 ⟨1, (some 72), .call 67 [(.tmp 71), (.con (.int .i64 10)), (.con (.int .i64 0))], none, []⟩,
 ⟨2, (some 70), .mv (.tmp 72), none, []⟩,
 ⟨3, (some 73), .ext (.tmp 70) 0, none, []⟩,
 ⟨4, (some 74), .ext (.tmp 70) 1, none, []⟩,
 ⟨5, (some 9), .mv (.tmp 73), none, []⟩,
 ⟨6, (some 10), .mv (.tmp 74), none, []⟩])
 (.seq (.reg [⟨0, (some 75), .mv (.tmp 9), none, []⟩,
 ⟨1, (some 76), .mv (.tmp 10), none, []⟩,
 ⟨2, (some 2), .mv (.tmp 75), none, []⟩,
 ⟨3, (some 3), .mv (.tmp 76), none, []⟩])
 (.ret))))),
 [.tmp 2, .tmp 3]⟩
theorem p_internal_strconv_Atoi : prepFun Go.Proofs.Tryd.prog [0, 3, 4] Go.Proofs.Tryd.f53 = some v_internal_strconv_Atoi := by kernel_rfl

def v_strconv_toError : VFun :=
⟨.seq (.reg [⟨0, (some 10), .mv (.con .nilIface), none, []⟩])
 (.seq (.seq (.reg [⟨0, (some 11), .mv (.tmp 4), none, []⟩])
 (.block 0
 (.seq (.reg [⟨0, (some 13), .mkif 105 (.con (.int .i64 2)), none, []⟩,
 ⟨1, (some 14), .bin .eql 71 false (.tmp 11) (.tmp 13), none, []⟩,
 ⟨2, (some 12), .mv (.tmp 14), none, []⟩])
 (.cond (.tmp 12)
 (.seq (.reg [⟨0, (some 15), .mv (.tmp 0), none, []⟩,
 ⟨1, (some 16), .mv (.tmp 1), none, []⟩,
 ⟨2, (some 17), .call 68 [(.tmp 15), (.tmp 16)], none, []⟩,
 ⟨3, (some 18), .mkif 108 (.tmp 17), none, []⟩,
 ⟨4, (some 10), .mv (.tmp 18), none, []⟩])
 (.ret))
 (.seq (.reg [⟨0, (some 20), .mkif 105 (.con (.int .i64 1)), none, []⟩,
 ⟨1, (some 21), .bin .eql 71 false (.tmp 11) (.tmp 20), none, []⟩,
 ⟨2, (some 19), .mv (.tmp 21), none, []⟩])
 (.cond (.tmp 19)
 (.seq (.reg [⟨0, (some 22), .mv (.tmp 0), none, []⟩,
 ⟨1, (some 23), .mv (.tmp 1), none, []⟩,
 ⟨2, (some 24), .call 69 [(.tmp 22), (.tmp 23)], none, []⟩,
 ⟨3, (some 25), .mkif 108 (.tmp 24), none, []⟩,
 ⟨4, (some 10), .mv (.tmp 25), none, []⟩])
 (.ret))
 (.seq (.reg [⟨0, (some 27), .mkif 105 (.con (.int .i64 3)), none, []⟩,
 ⟨1, (some 28), .bin .eql 71 false (.tmp 11) (.tmp 27), none, []⟩,
 ⟨2, (some 26), .mv (.tmp 28), none, []⟩])
 (.cond (.tmp 26)
 (.seq (.reg [⟨0, (some 29), .mv (.tmp 0), none, []⟩,
 ⟨1, (some 30), .mv (.tmp 1), none, []⟩,
 ⟨2, (some 31), .mv (.tmp 2), none, []⟩,
 ⟨3, (some 32), .call 70 [(.tmp 29), (.tmp 30), (.tmp 31)], none, []⟩,
 ⟨4, (some 33), .mkif 108 (.tmp 32), none, []⟩,
 ⟨5, (some 10), .mv (.tmp 33), none, []⟩])
 (.ret))
 (.seq (.reg [⟨0, (some 35), .mkif 105 (.con (.int .i64 4)), none, []⟩,
 ⟨1, (some 36), .bin .eql 71 false (.tmp 11) (.tmp 35), none, []⟩,
 ⟨2, (some 34), .mv (.tmp 36), none, []⟩])
 (.cond (.tmp 34)
 (.seq (.reg [⟨0, (some 37), .mv (.tmp 0), none, []⟩,
 ⟨1, (some 38), .mv (.tmp 1), none, []⟩,
 ⟨2, (some 39), .mv (.tmp 3), none, []⟩,
 ⟨3, (some 40), .call 71 [(.tmp 37), (.tmp 38), (.tmp 39)], none, []⟩,
 ⟨4, (some 41), .mkif 108 (.tmp 40), none, []⟩,
 ⟨5, (some 10), .mv (.tmp 41), none, []⟩])
 (.ret))
 (.skip)))))))))))
 (.seq (.reg [⟨0, (some 42), .mv (.tmp 4), none, []⟩,
 ⟨1, (some 10), .mv (.tmp 42), none, []⟩])
 (.ret))),
 [.tmp 10]⟩
theorem p_strconv_toError : prepFun Go.Proofs.Tryd.prog [0, 3, 4] Go.Proofs.Tryd.f54 = some v_strconv_toError := by kernel_rfl

def v_code_of : VFun :=
⟨.seq (.reg [⟨0, (some 2), .alloc [(.int .i64 0), (.int .i64 0), (.string ⟨#[]⟩)], none, []⟩,
 ⟨1, (some 3), .mv (.con (.bool false)), none, []⟩])
 (.seq (.seq (.reg [⟨0, (some 4), .mv (.tmp 0), none, []⟩,
 ⟨1, (some 5), .bin .lss 3 true (.tmp 4) (.con (.int .i64 1)), none, []⟩,
 ⟨2, (some 6), .mv (.tmp 5), none, []⟩,
 ⟨3, (some 7), .mv (.tmp 0), (some (6, false)), []⟩,
 ⟨4, (some 8), .bin .gtr 3 true (.tmp 7) (.con (.int .i64 25)), (some (6, false)), []⟩,
 ⟨5, (some 9), .pick (.tmp 6) (.con (.bool true)) (.tmp 8), none, []⟩])
 (.cond (.tmp 9)
 (.seq (.reg [⟨0, (some 10), .build [(.int .i64 0), (.int .i64 0), (.string ⟨#[]⟩)] [], none, []⟩,
 ⟨1, none, .store 3 (.tmp 2) (.tmp 10), none, []⟩,
 ⟨2, (some 3), .mv (.con (.bool false)), none, []⟩])
 (.ret))
 (.skip)))
 (.seq (.reg [⟨0, (some 11), .mv (.tmp 0), none, []⟩,
 ⟨1, (some 12), .bin .sub 3 true (.tmp 11) (.con (.int .i64 1)), none, []⟩,
 ⟨2, (some 13), .idxA (some 25) 3 (.glo 0) (.tmp 12), none, []⟩,
 ⟨3, (some 14), .load (some 3) (.tmp 13), none, []⟩,
 ⟨4, none, .store 3 (.tmp 2) (.tmp 14), none, []⟩,
 ⟨5, (some 3), .mv (.con (.bool true)), none, []⟩])
 (.ret))),
 [.cell 2 (some 3), .tmp 3]⟩
theorem p_code_of : prepFun Go.Proofs.Tryd.prog [0, 3, 4] Go.Proofs.Tryd.f55 = some v_code_of := by kernel_rfl

def v_code_Read : VFun :=
⟨.seq (.reg [⟨0, (some 1), .box (.tmp 0), none, []⟩,
 ⟨1, (some 2), .mv (.con (.slice none 0 0)), none, []⟩])
 (.seq (.reg [⟨0, (some 9), .fieldA 0 (.tmp 1), none, []⟩,
 ⟨1, (some 10), .load none (.tmp 9), none, []⟩,
 ⟨2, (some 11), .call 55 [(.tmp 10)], none, []⟩,
 ⟨3, (some 8), .mv (.tmp 11), none, []⟩,
 ⟨4, (some 12), .ext (.tmp 8) 0, none, []⟩,
 ⟨5, (some 13), .ext (.tmp 8) 1, none, []⟩,
 ⟨6, (some 3), .alloc [(.int .i64 0), (.int .i64 0), (.string ⟨#[]⟩)], none, []⟩,
 ⟨7, none, .store 3 (.tmp 3) (.tmp 12), none, []⟩,
 ⟨8, (some 4), .mv (.tmp 13), none, []⟩])
 (.seq (.reg [⟨0, (some 5), .mv (.con (.slice none 0 0)), none, []⟩])
 (.seq (.seq (.reg [⟨0, (some 14), .fieldA 2 (.tmp 1), none, []⟩,
 ⟨1, (some 15), .load none (.tmp 14), none, []⟩,
 ⟨2, (some 16), .fieldA 3 (.tmp 1), none, []⟩,
 ⟨3, (some 17), .load none (.tmp 16), none, []⟩,
 ⟨4, (some 18), .fieldA 4 (.tmp 1), none, []⟩,
 ⟨5, (some 19), .load none (.tmp 18), none, []⟩,
 ⟨6, (some 20), .build [(.int .i64 0), (.int .i64 0), (.int .i64 0)] [(0, 1, (.tmp 15)), (1, 1, (.tmp 17)), (2, 1, (.tmp 19))], none, []⟩,
 ⟨7, (some 21), .mv (.con (.int .i64 0)), none, []⟩])
 (.block 0
 (.loop
 (.seq (.reg [⟨0, (some 22), .bin .lss 3 true (.tmp 21) (.con (.int .i64 3)), none, []⟩])
 (.seq (.cond (.tmp 22)
 (.skip)
 (.exit 0))
 (.seq (.block 1
 (.seq (.reg [⟨0, (some 23), .mv (.tmp 21), none, []⟩,
 ⟨1, (some 24), .idx 3 none 1 (.tmp 20) (.tmp 21), none, []⟩,
 ⟨2, (some 6), .mv (.tmp 23), none, []⟩,
 ⟨3, (some 7), .mv (.tmp 24), none, []⟩])
 (.seq (.reg [⟨0, (some 25), .fieldA 0 (.tmp 3), none, []⟩,
 ⟨1, (some 26), .load none (.tmp 25), none, []⟩,
 ⟨2, (some 27), .mv (.tmp 6), none, []⟩,
 ⟨3, (some 28), .bin .shl 3 true (.con (.int .i64 2)) (.tmp 27), none, []⟩,
 ⟨4, (some 29), .bin .and 3 false (.tmp 26) (.tmp 28), none, []⟩,
 ⟨5, (some 30), .bin .neq 3 true (.tmp 29) (.con (.int .i64 0)), none, []⟩])
 (.cond (.tmp 30)
 (.reg [⟨0, (some 31), .mv (.tmp 5), none, []⟩,
 ⟨1, (some 32), .mv (.tmp 7), none, []⟩,
 ⟨2, (some 33), .bslice 1 1 [(.int .i64 0)] [(0, 1, (.tmp 32))], none, []⟩,
 ⟨3, (some 34), .append 1 8 (.tmp 31) (.tmp 33), none, []⟩,
 ⟨4, (some 5), .mv (.tmp 34), none, []⟩])
 (.skip)))))
 (.reg [⟨0, (some 35), .bin .add 3 true (.tmp 21) (.con (.int .i64 1)), none, []⟩,
 ⟨1, (some 21), .mv (.tmp 35), none, []⟩])))))))
 (.seq (.reg [⟨0, (some 36), .mv (.tmp 5), none, []⟩,
 ⟨1, (some 2), .mv (.tmp 36), none, []⟩])
 (.ret))))),
 [.tmp 2]⟩
theorem p_code_Read : prepFun Go.Proofs.Tryd.prog [0, 3, 4] Go.Proofs.Tryd.f56 = some v_code_Read := by kernel_rfl

def v_slices_Index_int : VFun :=
⟨.seq (.reg [⟨0, (some 4), .mv (.con (.int .i64 0)), none, []⟩])
 (.seq (.seq (.reg [⟨0, (some 6), .mv (.tmp 0), none, []⟩,
 ⟨1, (some 7), .len (.tmp 6), none, []⟩,
 ⟨2, (some 8), .mv (.con (.int .i64 0)), none, []⟩])
 (.block 0
 (.loop
 (.seq (.reg [⟨0, (some 9), .bin .lss 3 false (.tmp 8) (.tmp 7), none, []⟩])
 (.seq (.cond (.tmp 9)
 (.skip)
 (.exit 0))
 (.seq (.block 1
 (.seq (.reg [⟨0, (some 10), .mv (.tmp 8), none, []⟩,
 ⟨1, (some 5), .mv (.tmp 10), none, []⟩])
 (.seq (.reg [⟨0, (some 11), .mv (.tmp 1), none, []⟩,
 ⟨1, (some 12), .mv (.tmp 0), none, []⟩,
 ⟨2, (some 13), .mv (.tmp 5), none, []⟩,
 ⟨3, (some 14), .idxA none 1 (.tmp 12) (.tmp 13), none, []⟩,
 ⟨4, (some 15), .load none (.tmp 14), none, []⟩,
 ⟨5, (some 16), .bin .eql 3 false (.tmp 11) (.tmp 15), none, []⟩])
 (.cond (.tmp 16)
 (.seq (.reg [⟨0, (some 17), .mv (.tmp 5), none, []⟩,
 ⟨1, (some 4), .mv (.tmp 17), none, []⟩])
 (.ret))
 (.skip)))))
 (.reg [⟨0, (some 18), .bin .add 3 true (.tmp 8) (.con (.int .i64 1)), none, []⟩,
 ⟨1, (some 8), .mv (.tmp 18), none, []⟩])))))))
 (.seq (.reg [⟨0, (some 4), .mv (.con (.int .i64 (-1))), none, []⟩])
 (.ret))),
 [.tmp 4]⟩
theorem p_slices_Index_int : prepFun Go.Proofs.Tryd.prog [0, 3, 4] Go.Proofs.Tryd.f57 = some v_slices_Index_int := by kernel_rfl

def v_r18_uses : VFun :=
⟨.seq (.reg [⟨0, (some 2), .mv (.con (.bool false)), none, []⟩,
 ⟨1, (some 3), .mv (.con (.bool false)), none, []⟩,
 ⟨2, (some 4), .mv (.con (.bool false)), none, []⟩])
 (.seq (.block 0
 (.seq (.reg [⟨0, (some 6), .mv (.tmp 0), none, []⟩,
 ⟨1, (some 7), .bin .lss 3 true (.tmp 6) (.con (.int .i64 1)), none, []⟩,
 ⟨2, (some 8), .mv (.tmp 7), none, []⟩,
 ⟨3, (some 9), .mv (.tmp 0), (some (8, false)), []⟩,
 ⟨4, (some 10), .bin .gtr 3 true (.tmp 9) (.con (.int .i64 25)), (some (8, false)), []⟩,
 ⟨5, (some 11), .pick (.tmp 8) (.con (.bool true)) (.tmp 10), none, []⟩,
 ⟨6, (some 12), .mv (.tmp 11), none, []⟩,
 ⟨7, (some 13), .mv (.tmp 0), (some (12, false)), []⟩,
 ⟨8, (some 14), .bin .eql 3 true (.tmp 13) (.con (.int .i64 1)), (some (12, false)), []⟩,
 ⟨9, (some 15), .pick (.tmp 12) (.con (.bool true)) (.tmp 14), none, []⟩,
 ⟨10, (some 16), .mv (.tmp 15), none, []⟩,
 ⟨11, (some 17), .mv (.tmp 0), (some (16, false)), []⟩,
 ⟨12, (some 18), .bin .eql 3 true (.tmp 17) (.con (.int .i64 18)), (some (16, false)), []⟩,
 ⟨13, (some 19), .pick (.tmp 16) (.con (.bool true)) (.tmp 18), none, []⟩,
 ⟨14, (some 5), .mv (.tmp 19), none, []⟩])
 (.cond (.tmp 5)
 (.seq (.reg [⟨0, (some 2), .mv (.con (.bool false)), none, []⟩,
 ⟨1, (some 3), .mv (.con (.bool false)), none, []⟩,
 ⟨2, (some 4), .mv (.con (.bool false)), none, []⟩])
 (.ret))
 (.seq (.reg [⟨0, (some 21), .mv (.tmp 0), none, []⟩,
 ⟨1, (some 22), .bin .eql 3 true (.tmp 21) (.con (.int .i64 12)), none, []⟩,
 ⟨2, (some 20), .mv (.tmp 22), none, []⟩])
 (.cond (.tmp 20)
 (.seq (.reg [⟨0, (some 2), .mv (.con (.bool true)), none, []⟩,
 ⟨1, (some 3), .mv (.con (.bool true)), none, []⟩,
 ⟨2, (some 4), .mv (.con (.bool true)), none, []⟩])
 (.ret))
 (.seq (.seq (.reg [⟨0, (some 24), .mv (.tmp 0), none, []⟩,
 ⟨1, (some 25), .bin .geq 3 true (.tmp 24) (.con (.int .i64 3)), none, []⟩,
 ⟨2, (some 26), .mv (.tmp 25), none, []⟩,
 ⟨3, (some 27), .mv (.tmp 0), (some (26, true)), []⟩,
 ⟨4, (some 28), .bin .leq 3 true (.tmp 27) (.con (.int .i64 15)), (some (26, true)), []⟩,
 ⟨5, (some 29), .pick (.tmp 26) (.tmp 28) (.con (.bool false)), none, []⟩,
 ⟨6, (some 23), .mv (.tmp 29), none, []⟩])
 (.cond (.tmp 23)
 (.skip)
 (.seq (.reg [⟨0, (some 30), .mv (.tmp 0), none, []⟩,
 ⟨1, (some 31), .bin .eql 3 true (.tmp 30) (.con (.int .i64 17)), none, []⟩,
 ⟨2, (some 23), .mv (.tmp 31), none, []⟩])
 (.cond (.tmp 23)
 (.skip)
 (.seq (.reg [⟨0, (some 32), .mv (.tmp 0), none, []⟩,
 ⟨1, (some 33), .bin .eql 3 true (.tmp 32) (.con (.int .i64 23)), none, []⟩,
 ⟨2, (some 23), .mv (.tmp 33), none, []⟩])
 (.cond (.tmp 23)
 (.skip)
 (.reg [⟨0, (some 34), .mv (.tmp 0), none, []⟩,
 ⟨1, (some 35), .bin .eql 3 true (.tmp 34) (.con (.int .i64 24)), none, []⟩,
 ⟨2, (some 23), .mv (.tmp 35), none, []⟩])))))))
 (.cond (.tmp 23)
 (.seq (.reg [⟨0, (some 2), .mv (.con (.bool true)), none, []⟩,
 ⟨1, (some 3), .mv (.con (.bool true)), none, []⟩,
 ⟨2, (some 4), .mv (.con (.bool false)), none, []⟩])
 (.ret))
 (.skip))))))))
 (.seq (.reg [⟨0, (some 2), .mv (.con (.bool true)), none, []⟩,
 ⟨1, (some 3), .mv (.con (.bool false)), none, []⟩,
 ⟨2, (some 4), .mv (.con (.bool false)), none, []⟩])
 (.ret))),
 [.tmp 2, .tmp 3, .tmp 4]⟩
theorem p_r18_uses : prepFun Go.Proofs.Tryd.prog [0, 3, 4] Go.Proofs.Tryd.f58 = some v_r18_uses := by kernel_rfl

def v_r18_put : VFun :=
⟨.seq (.reg [⟨0, (some 4), .mv (.con (.slice none 0 0)), none, []⟩])
 (.seq (.seq (.reg [⟨0, (some 5), .mv (.tmp 0), none, []⟩,
 ⟨1, (some 6), .mv (.tmp 1), none, []⟩,
 ⟨2, (some 7), .call 72 [(.tmp 5), (.tmp 6)], none, []⟩])
 (.cond (.tmp 7)
 (.seq (.reg [⟨0, (some 8), .mv (.tmp 0), none, []⟩,
 ⟨1, (some 4), .mv (.tmp 8), none, []⟩])
 (.ret))
 (.skip)))
 (.seq (.reg [⟨0, (some 9), .mv (.tmp 0), none, []⟩,
 ⟨1, (some 10), .mv (.tmp 1), none, []⟩,
 ⟨2, (some 11), .bslice 1 1 [(.int .i64 0)] [(0, 1, (.tmp 10))], none, []⟩,
 ⟨3, (some 12), .append 1 8 (.tmp 9) (.tmp 11), none, []⟩,
 ⟨4, (some 4), .mv (.tmp 12), none, []⟩])
 (.ret))),
 [.tmp 4]⟩
theorem p_r18_put : prepFun Go.Proofs.Tryd.prog [0, 3, 4] Go.Proofs.Tryd.f59 = some v_r18_put := by kernel_rfl

def v_strings_Builder_WriteString : VFun :=
⟨.seq (.reg [⟨0, (some 4), .mv (.con (.int .i64 0)), none, []⟩,
 ⟨1, (some 5), .mv (.con .nilIface), none, []⟩])
 (.seq (.reg [⟨0, (some 6), .mv (.tmp 0), none, []⟩,
 ⟨1, (some 7), .call 73 [(.tmp 6)], none, []⟩])
 (.seq (.reg [⟨0, (some 8), .mv (.tmp 0), none, []⟩,
 ⟨1, (some 9), .mv (.tmp 0), none, []⟩,
 ⟨2, (some 10), .nilck (.tmp 9), none, []⟩,
 ⟨3, (some 11), .fieldA 1 (.tmp 10), none, []⟩,
 ⟨4, (some 12), .load none (.tmp 11), none, []⟩,
 ⟨5, (some 13), .mv (.tmp 1), none, []⟩,
 ⟨6, (some 14), .append 1 1 (.tmp 12) (.tmp 13), none, []⟩,
 ⟨7, (some 15), .nilck (.tmp 8), none, []⟩,
 ⟨8, (some 16), .fieldA 1 (.tmp 15), none, []⟩,
 ⟨9, none, .store 1 (.tmp 16) (.tmp 14), none, []⟩])
 (.seq (.reg [⟨0, (some 17), .mv (.tmp 1), none, []⟩,
 ⟨1, (some 18), .bi .len [9] 3 [(.tmp 17)], none, []⟩,
 ⟨2, (some 4), .mv (.tmp 18), none, []⟩,
 ⟨3, (some 5), .mv (.con .nilIface), none, []⟩])
 (.ret)))),
 [.tmp 4, .tmp 5]⟩
theorem p_strings_Builder_WriteString : prepFun Go.Proofs.Tryd.prog [0, 3, 4] Go.Proofs.Tryd.f61 = some v_strings_Builder_WriteString := by kernel_rfl

def v_internal_strconv_FormatInt : VFun :=
⟨.seq (.reg [⟨0, (some 4), .mv (.con (.string ⟨#[]⟩)), none, []⟩])
 (.seq (.seq (.reg [⟨0, (some 10), .mv (.tmp 1), none, []⟩,
 ⟨1, (some 11), .bin .eql 3 true (.tmp 10) (.con (.int .i64 10)), none, []⟩])
 (.cond (.tmp 11)
 (.seq (.seq (.reg [⟨0, (some 12), .mv (.tmp 0), none, []⟩,
 ⟨1, (some 13), .bin .leq 2 true (.con (.int .i64 0)) (.tmp 12), none, []⟩,
 ⟨2, (some 14), .mv (.tmp 13), none, []⟩,
 ⟨3, (some 15), .mv (.tmp 0), (some (14, true)), []⟩,
 ⟨4, (some 16), .bin .lss 2 true (.tmp 15) (.con (.int .i64 100)), (some (14, true)), []⟩,
 ⟨5, (some 17), .pick (.tmp 14) (.tmp 16) (.con (.bool false)), none, []⟩])
 (.cond (.tmp 17)
 (.seq (.reg [⟨0, (some 18), .mv (.tmp 0), none, []⟩,
 ⟨1, (some 19), .call 75 [(.tmp 18)], none, []⟩,
 ⟨2, (some 4), .mv (.tmp 19), none, []⟩])
 (.ret))
 (.skip)))
 (.seq (.reg [⟨0, (some 5), .alloc [(.int .u8 0), (.int .u8 0), (.int .u8 0), (.int .u8 0), (.int .u8 0), (.int .u8 0), (.int .u8 0), (.int .u8 0), (.int .u8 0), (.int .u8 0), (.int .u8 0), (.int .u8 0), (.int .u8 0), (.int .u8 0), (.int .u8 0), (.int .u8 0), (.int .u8 0), (.int .u8 0), (.int .u8 0), (.int .u8 0), (.int .u8 0), (.int .u8 0), (.int .u8 0), (.int .u8 0)], none, []⟩])
 (.seq (.reg [⟨0, (some 20), .mv (.tmp 0), none, []⟩,
 ⟨1, (some 21), .conv 2 115 (.tmp 20), none, []⟩,
 ⟨2, (some 6), .mv (.tmp 21), none, []⟩])
 (.seq (.seq (.reg [⟨0, (some 22), .mv (.tmp 0), none, []⟩,
 ⟨1, (some 23), .bin .lss 2 true (.tmp 22) (.con (.int .i64 0)), none, []⟩])
 (.cond (.tmp 23)
 (.reg [⟨0, (some 24), .mv (.tmp 6), none, []⟩,
 ⟨1, (some 25), .un .neg (.tmp 24), none, []⟩,
 ⟨2, (some 6), .mv (.tmp 25), none, []⟩])
 (.skip)))
 (.seq (.reg [⟨0, (some 26), .mv (.tmp 6), none, []⟩,
 ⟨1, (some 27), .call 76 [(.tmp 26)], none, []⟩,
 ⟨2, (some 7), .mv (.tmp 27), none, []⟩])
 (.seq (.reg [⟨0, (some 28), .mv (.tmp 7), none, []⟩,
 ⟨1, (some 29), .bin .add 3 true (.con (.int .i64 1)) (.tmp 28), none, []⟩,
 ⟨2, (some 30), .slice (some 24) 1 (.tmp 5) (some (.con (.int .i64 1))) (some (.tmp 29)) none, none, []⟩,
 ⟨3, (some 31), .mv (.tmp 6), none, []⟩,
 ⟨4, (some 32), .call 77 [(.tmp 30), (.tmp 31)], none, []⟩])
 (.seq (.seq (.reg [⟨0, (some 33), .mv (.tmp 0), none, []⟩,
 ⟨1, (some 34), .bin .lss 2 true (.tmp 33) (.con (.int .i64 0)), none, []⟩])
 (.cond (.tmp 34)
 (.seq (.reg [⟨0, (some 35), .idxA (some 24) 1 (.tmp 5) (.con (.int .i64 0)), none, []⟩,
 ⟨1, none, .store 1 (.tmp 35) (.con (.int .u8 45)), none, []⟩])
 (.seq (.reg [⟨0, (some 36), .mv (.tmp 7), none, []⟩,
 ⟨1, (some 37), .bin .add 3 true (.con (.int .i64 1)) (.tmp 36), none, []⟩,
 ⟨2, (some 38), .slice (some 24) 1 (.tmp 5) none (some (.tmp 37)) none, none, []⟩,
 ⟨3, (some 39), .b2s (.tmp 38), none, []⟩,
 ⟨4, (some 4), .mv (.tmp 39), none, []⟩])
 (.ret)))
 (.skip)))
 (.seq (.reg [⟨0, (some 40), .mv (.tmp 7), none, []⟩,
 ⟨1, (some 41), .bin .add 3 true (.con (.int .i64 1)) (.tmp 40), none, []⟩,
 ⟨2, (some 42), .slice (some 24) 1 (.tmp 5) (some (.con (.int .i64 1))) (some (.tmp 41)) none, none, []⟩,
 ⟨3, (some 43), .b2s (.tmp 42), none, []⟩,
 ⟨4, (some 4), .mv (.tmp 43), none, []⟩])
 (.ret)))))))))
 (.skip)))
 (.seq (.reg [⟨0, (some 45), .mv (.tmp 0), none, []⟩,
 ⟨1, (some 46), .conv 2 115 (.tmp 45), none, []⟩,
 ⟨2, (some 47), .mv (.tmp 1), none, []⟩,
 ⟨3, (some 48), .mv (.tmp 0), none, []⟩,
 ⟨4, (some 49), .bin .lss 2 true (.tmp 48) (.con (.int .i64 0)), none, []⟩,
 ⟨5, (some 50), .call 78 [(.con (.slice none 0 0)), (.tmp 46), (.tmp 47), (.tmp 49), (.con (.bool false))], none, []⟩,
 ⟨6, (some 44), .mv (.tmp 50), none, []⟩,
 ⟨7, (some 51), .ext (.tmp 44) 0, none, []⟩,
 ⟨8, (some 52), .ext (.tmp 44) 1, none, []⟩,
 ⟨9, (some 8), .mv (.tmp 51), none, []⟩,
 ⟨10, (some 9), .mv (.tmp 52), none, []⟩])
 (.seq (.reg [⟨0, (some 53), .mv (.tmp 9), none, []⟩,
 ⟨1, (some 4), .mv (.tmp 53), none, []⟩])
 (.ret)))),
 [.tmp 4]⟩
theorem p_internal_strconv_FormatInt : prepFun Go.Proofs.Tryd.prog [0, 3, 4] Go.Proofs.Tryd.f63 = some v_internal_strconv_FormatInt := by kernel_rfl

def v_strings_explode : VFun :=
⟨.seq (.reg [⟨0, (some 4), .mv (.con (.slice none 0 0)), none, []⟩])
 (.seq (.reg [⟨0, (some 10), .mv (.tmp 0), none, []⟩,
 ⟨1, (some 11), .call 79 [(.tmp 10)], none, []⟩,
 ⟨2, (some 5), .mv (.tmp 11), none, []⟩])
 (.seq (.seq (.reg [⟨0, (some 12), .mv (.tmp 1), none, []⟩,
 ⟨1, (some 13), .bin .lss 3 true (.tmp 12) (.con (.int .i64 0)), none, []⟩,
 ⟨2, (some 14), .mv (.tmp 13), none, []⟩,
 ⟨3, (some 15), .mv (.tmp 1), (some (14, false)), []⟩,
 ⟨4, (some 16), .mv (.tmp 5), (some (14, false)), []⟩,
 ⟨5, (some 17), .bin .gtr 3 false (.tmp 15) (.tmp 16), (some (14, false)), []⟩,
 ⟨6, (some 18), .pick (.tmp 14) (.con (.bool true)) (.tmp 17), none, []⟩])
 (.cond (.tmp 18)
 (.reg [⟨0, (some 19), .mv (.tmp 5), none, []⟩,
 ⟨1, (some 1), .mv (.tmp 19), none, []⟩])
 (.skip)))
 (.seq (.reg [⟨0, (some 20), .mv (.tmp 1), none, []⟩,
 ⟨1, (some 21), .mksl 1 16 [(.string ⟨#[]⟩)] (.tmp 20) (.tmp 20), none, []⟩,
 ⟨2, (some 6), .mv (.tmp 21), none, []⟩])
 (.seq (.seq (.reg [⟨0, (some 7), .mv (.con (.int .i64 0)), none, []⟩])
 (.block 0
 (.loop
 (.seq (.seq (.reg [⟨0, (some 22), .mv (.tmp 7), none, []⟩,
 ⟨1, (some 23), .mv (.tmp 1), none, []⟩,
 ⟨2, (some 24), .bin .sub 3 true (.tmp 23) (.con (.int .i64 1)), none, []⟩,
 ⟨3, (some 25), .bin .lss 3 false (.tmp 22) (.tmp 24), none, []⟩])
 (.cond (.tmp 25)
 (.skip)
 (.exit 0)))
 (.seq (.block 1
 (.seq (.reg [⟨0, (some 29), .mv (.tmp 0), none, []⟩,
 ⟨1, (some 30), .call 80 [(.tmp 29)], none, []⟩,
 ⟨2, (some 28), .mv (.tmp 30), none, []⟩,
 ⟨3, (some 31), .ext (.tmp 28) 0, none, []⟩,
 ⟨4, (some 32), .ext (.tmp 28) 1, none, []⟩,
 ⟨5, (some 8), .mv (.tmp 31), none, []⟩,
 ⟨6, (some 9), .mv (.tmp 32), none, []⟩])
 (.seq (.reg [⟨0, (some 33), .mv (.tmp 6), none, []⟩,
 ⟨1, (some 34), .mv (.tmp 7), none, []⟩,
 ⟨2, (some 35), .mv (.tmp 0), none, []⟩,
 ⟨3, (some 36), .mv (.tmp 9), none, []⟩,
 ⟨4, (some 37), .slS 9 (.tmp 35) none (some (.tmp 36)), none, []⟩,
 ⟨5, (some 38), .idxA none 1 (.tmp 33) (.tmp 34), none, []⟩,
 ⟨6, none, .store 1 (.tmp 38) (.tmp 37), none, []⟩])
 (.reg [⟨0, (some 39), .mv (.tmp 0), none, []⟩,
 ⟨1, (some 40), .mv (.tmp 9), none, []⟩,
 ⟨2, (some 41), .slS 9 (.tmp 39) (some (.tmp 40)) none, none, []⟩,
 ⟨3, (some 0), .mv (.tmp 41), none, []⟩]))))
 (.reg [⟨0, (some 26), .mv (.tmp 7), none, []⟩,
 ⟨1, (some 27), .bin .add 3 true (.tmp 26) (.con (.int .i64 1)), none, []⟩,
 ⟨2, (some 7), .mv (.tmp 27), none, []⟩]))))))
 (.seq (.seq (.reg [⟨0, (some 42), .mv (.tmp 1), none, []⟩,
 ⟨1, (some 43), .bin .gtr 3 true (.tmp 42) (.con (.int .i64 0)), none, []⟩])
 (.cond (.tmp 43)
 (.reg [⟨0, (some 44), .mv (.tmp 6), none, []⟩,
 ⟨1, (some 45), .mv (.tmp 1), none, []⟩,
 ⟨2, (some 46), .bin .sub 3 true (.tmp 45) (.con (.int .i64 1)), none, []⟩,
 ⟨3, (some 47), .mv (.tmp 0), none, []⟩,
 ⟨4, (some 48), .idxA none 1 (.tmp 44) (.tmp 46), none, []⟩,
 ⟨5, none, .store 1 (.tmp 48) (.tmp 47), none, []⟩])
 (.skip)))
 (.seq (.reg [⟨0, (some 49), .mv (.tmp 6), none, []⟩,
 ⟨1, (some 4), .mv (.tmp 49), none, []⟩])
 (.ret))))))),
 [.tmp 4]⟩
theorem p_strings_explode : prepFun Go.Proofs.Tryd.prog [0, 3, 4] Go.Proofs.Tryd.f64 = some v_strings_explode := by kernel_rfl

end Go.VX.Seat
end
section
set_option maxRecDepth 20000
/-! MADE BY PROGRAM (lits.py): functions as they are prepared. -/
namespace Go.VX.Seat
def v_strings_Count : VFun :=
⟨.seq (.reg [⟨0, (some 4), .mv (.con (.int .i64 0)), none, []⟩])
 (.seq (.seq (.reg [⟨0, (some 7), .mv (.tmp 1), none, []⟩,
 ⟨1, (some 8), .bi .len [9] 3 [(.tmp 7)], none, []⟩,
 ⟨2, (some 9), .bin .eql 3 true (.tmp 8) (.con (.int .i64 0)), none, []⟩])
 (.cond (.tmp 9)
 (.seq (.reg [⟨0, (some 10), .mv (.tmp 0), none, []⟩,
 ⟨1, (some 11), .call 79 [(.tmp 10)], none, []⟩,
 ⟨2, (some 12), .bin .add 3 true (.tmp 11) (.con (.int .i64 1)), none, []⟩,
 ⟨3, (some 4), .mv (.tmp 12), none, []⟩])
 (.ret))
 (.skip)))
 (.seq (.seq (.reg [⟨0, (some 13), .mv (.tmp 1), none, []⟩,
 ⟨1, (some 14), .bi .len [9] 3 [(.tmp 13)], none, []⟩,
 ⟨2, (some 15), .bin .eql 3 true (.tmp 14) (.con (.int .i64 1)), none, []⟩])
 (.cond (.tmp 15)
 (.seq (.reg [⟨0, (some 16), .mv (.tmp 0), none, []⟩,
 ⟨1, (some 17), .mv (.tmp 1), none, []⟩,
 ⟨2, (some 18), .idxS 9 (.tmp 17) (.con (.int .i64 0)), none, []⟩,
 ⟨3, (some 19), .call 81 [(.tmp 16), (.tmp 18)], none, []⟩,
 ⟨4, (some 4), .mv (.tmp 19), none, []⟩])
 (.ret))
 (.skip)))
 (.seq (.reg [⟨0, (some 5), .mv (.con (.int .i64 0)), none, []⟩])
 (.block 0
 (.loop
 (.block 1
 (.seq (.reg [⟨0, (some 20), .mv (.tmp 0), none, []⟩,
 ⟨1, (some 21), .mv (.tmp 1), none, []⟩,
 ⟨2, (some 22), .call 66 [(.tmp 20), (.tmp 21)], none, []⟩,
 ⟨3, (some 6), .mv (.tmp 22), none, []⟩])
 (.seq (.seq (.reg [⟨0, (some 23), .mv (.tmp 6), none, []⟩,
 ⟨1, (some 24), .bin .eql 3 true (.tmp 23) (.con (.int .i64 (-1))), none, []⟩])
 (.cond (.tmp 24)
 (.seq (.reg [⟨0, (some 25), .mv (.tmp 5), none, []⟩,
 ⟨1, (some 4), .mv (.tmp 25), none, []⟩])
 (.ret))
 (.skip)))
 (.seq (.reg [⟨0, (some 26), .mv (.tmp 5), none, []⟩,
 ⟨1, (some 27), .bin .add 3 true (.tmp 26) (.con (.int .i64 1)), none, []⟩,
 ⟨2, (some 5), .mv (.tmp 27), none, []⟩])
 (.reg [⟨0, (some 28), .mv (.tmp 0), none, []⟩,
 ⟨1, (some 29), .mv (.tmp 6), none, []⟩,
 ⟨2, (some 30), .mv (.tmp 1), none, []⟩,
 ⟨3, (some 31), .bi .len [9] 3 [(.tmp 30)], none, []⟩,
 ⟨4, (some 32), .bin .add 3 false (.tmp 29) (.tmp 31), none, []⟩,
 ⟨5, (some 33), .slS 9 (.tmp 28) (some (.tmp 32)) none, none, []⟩,
 ⟨6, (some 0), .mv (.tmp 33), none, []⟩])))))))))),
 [.tmp 4]⟩
theorem p_strings_Count : prepFun Go.Proofs.Tryd.prog [0, 3, 4] Go.Proofs.Tryd.f65 = some v_strings_Count := by kernel_rfl

def v_strings_Index : VFun :=
⟨.seq (.reg [⟨0, (some 4), .mv (.con (.int .i64 0)), none, []⟩])
 (.seq (.reg [⟨0, (some 5), .mv (.tmp 0), none, []⟩,
 ⟨1, (some 6), .mv (.tmp 1), none, []⟩,
 ⟨2, (some 7), .call 82 [(.tmp 5), (.tmp 6)], none, []⟩,
 ⟨3, (some 4), .mv (.tmp 7), none, []⟩])
 (.ret)),
 [.tmp 4]⟩
theorem p_strings_Index : prepFun Go.Proofs.Tryd.prog [0, 3, 4] Go.Proofs.Tryd.f66 = some v_strings_Index := by kernel_rfl

def v_internal_strconv_ParseInt : VFun :=
⟨.seq (.reg [⟨0, (some 6), .mv (.con (.int .i64 0)), none, []⟩,
 ⟨1, (some 7), .mv (.con .nilIface), none, []⟩])
 (.seq (.seq (.reg [⟨0, (some 12), .mv (.tmp 0), none, []⟩,
 ⟨1, (some 13), .bin .eql 9 true (.tmp 12) (.con (.string ⟨#[]⟩)), none, []⟩])
 (.cond (.tmp 13)
 (.seq (.reg [⟨0, (some 14), .mkif 105 (.con (.int .i64 2)), none, []⟩,
 ⟨1, (some 6), .mv (.con (.int .i64 0)), none, []⟩,
 ⟨2, (some 7), .mv (.tmp 14), none, []⟩])
 (.ret))
 (.skip)))
 (.seq (.reg [⟨0, (some 8), .mv (.con (.bool false)), none, []⟩])
 (.seq (.seq (.reg [⟨0, (some 15), .mv (.tmp 0), none, []⟩,
 ⟨1, (some 16), .idxS 9 (.tmp 15) (.con (.int .i64 0)), none, []⟩])
 (.block 0
 (.seq (.reg [⟨0, (some 18), .bin .eql 5 true (.tmp 16) (.con (.int .u8 43)), none, []⟩,
 ⟨1, (some 17), .mv (.tmp 18), none, []⟩])
 (.cond (.tmp 17)
 (.reg [⟨0, (some 19), .mv (.tmp 0), none, []⟩,
 ⟨1, (some 20), .slS 9 (.tmp 19) (some (.con (.int .i64 1))) none, none, []⟩,
 ⟨2, (some 0), .mv (.tmp 20), none, []⟩])
 (.seq (.reg [⟨0, (some 22), .bin .eql 5 true (.tmp 16) (.con (.int .u8 45)), none, []⟩,
 ⟨1, (some 21), .mv (.tmp 22), none, []⟩])
 (.cond (.tmp 21)
 (.seq (.reg [⟨0, (some 23), .mv (.tmp 0), none, []⟩,
 ⟨1, (some 24), .slS 9 (.tmp 23) (some (.con (.int .i64 1))) none, none, []⟩,
 ⟨2, (some 0), .mv (.tmp 24), none, []⟩])
 (.reg [⟨0, (some 8), .mv (.con (.bool true)), none, []⟩]))
 (.skip)))))))
 (.seq (.reg [⟨0, (some 9), .mv (.con (.int .u64 0)), none, []⟩])
 (.seq (.reg [⟨0, (some 26), .mv (.tmp 0), none, []⟩,
 ⟨1, (some 27), .mv (.tmp 1), none, []⟩,
 ⟨2, (some 28), .mv (.tmp 2), none, []⟩,
 ⟨3, (some 29), .call 83 [(.tmp 26), (.tmp 27), (.tmp 28)], none, []⟩,
 ⟨4, (some 25), .mv (.tmp 29), none, []⟩,
 ⟨5, (some 30), .ext (.tmp 25) 0, none, []⟩,
 ⟨6, (some 31), .ext (.tmp 25) 1, none, []⟩,
 ⟨7, (some 9), .mv (.tmp 30), none, []⟩,
 ⟨8, (some 7), .mv (.tmp 31), none, []⟩])
 (.seq (.seq (.reg [⟨0, (some 32), .mv (.tmp 7), none, []⟩,
 ⟨1, (some 33), .bin .neq 71 true (.tmp 32) (.con .nilIface), none, []⟩,
 ⟨2, (some 34), .mv (.tmp 33), none, []⟩,
 ⟨3, (some 35), .mv (.tmp 7), (some (34, true)), []⟩,
 ⟨4, (some 36), .mkif 105 (.con (.int .i64 1)), (some (34, true)), []⟩,
 ⟨5, (some 37), .bin .neq 71 false (.tmp 35) (.tmp 36), (some (34, true)), []⟩,
 ⟨6, (some 38), .pick (.tmp 34) (.tmp 37) (.con (.bool false)), none, []⟩])
 (.cond (.tmp 38)
 (.seq (.reg [⟨0, (some 39), .mv (.tmp 7), none, []⟩,
 ⟨1, (some 6), .mv (.con (.int .i64 0)), none, []⟩,
 ⟨2, (some 7), .mv (.tmp 39), none, []⟩])
 (.ret))
 (.skip)))
 (.seq (.seq (.reg [⟨0, (some 40), .mv (.tmp 2), none, []⟩,
 ⟨1, (some 41), .bin .eql 3 true (.tmp 40) (.con (.int .i64 0)), none, []⟩])
 (.cond (.tmp 41)
 (.reg [⟨0, (some 2), .mv (.con (.int .i64 64)), none, []⟩])
 (.skip)))
 (.seq (.reg [⟨0, (some 42), .mv (.tmp 2), none, []⟩,
 ⟨1, (some 43), .bin .sub 3 true (.tmp 42) (.con (.int .i64 1)), none, []⟩,
 ⟨2, (some 44), .conv 3 125 (.tmp 43), none, []⟩,
 ⟨3, (some 45), .bin .shl 115 true (.con (.int .u64 1)) (.tmp 44), none, []⟩,
 ⟨4, (some 10), .mv (.tmp 45), none, []⟩])
 (.seq (.seq (.reg [⟨0, (some 46), .mv (.tmp 8), none, []⟩,
 ⟨1, (some 47), .un .not (.tmp 46), none, []⟩,
 ⟨2, (some 48), .mv (.tmp 47), none, []⟩,
 ⟨3, (some 49), .mv (.tmp 9), (some (48, true)), []⟩,
 ⟨4, (some 50), .mv (.tmp 10), (some (48, true)), []⟩,
 ⟨5, (some 51), .bin .geq 115 false (.tmp 49) (.tmp 50), (some (48, true)), []⟩,
 ⟨6, (some 52), .pick (.tmp 48) (.tmp 51) (.con (.bool false)), none, []⟩])
 (.cond (.tmp 52)
 (.seq (.reg [⟨0, (some 53), .mv (.tmp 10), none, []⟩,
 ⟨1, (some 54), .bin .sub 115 true (.tmp 53) (.con (.int .u64 1)), none, []⟩,
 ⟨2, (some 55), .conv 115 2 (.tmp 54), none, []⟩,
 ⟨3, (some 56), .mkif 105 (.con (.int .i64 1)), none, []⟩,
 ⟨4, (some 6), .mv (.tmp 55), none, []⟩,
 ⟨5, (some 7), .mv (.tmp 56), none, []⟩])
 (.ret))
 (.skip)))
 (.seq (.seq (.reg [⟨0, (some 57), .mv (.tmp 8), none, []⟩,
 ⟨1, (some 58), .mv (.tmp 57), none, []⟩,
 ⟨2, (some 59), .mv (.tmp 9), (some (58, true)), []⟩,
 ⟨3, (some 60), .mv (.tmp 10), (some (58, true)), []⟩,
 ⟨4, (some 61), .bin .gtr 115 false (.tmp 59) (.tmp 60), (some (58, true)), []⟩,
 ⟨5, (some 62), .pick (.tmp 58) (.tmp 61) (.con (.bool false)), none, []⟩])
 (.cond (.tmp 62)
 (.seq (.reg [⟨0, (some 63), .mv (.tmp 10), none, []⟩,
 ⟨1, (some 64), .conv 115 2 (.tmp 63), none, []⟩,
 ⟨2, (some 65), .un .neg (.tmp 64), none, []⟩,
 ⟨3, (some 66), .mkif 105 (.con (.int .i64 1)), none, []⟩,
 ⟨4, (some 6), .mv (.tmp 65), none, []⟩,
 ⟨5, (some 7), .mv (.tmp 66), none, []⟩])
 (.ret))
 (.skip)))
 (.seq (.reg [⟨0, (some 67), .mv (.tmp 9), none, []⟩,
 ⟨1, (some 68), .conv 115 2 (.tmp 67), none, []⟩,
 ⟨2, (some 11), .mv (.tmp 68), none, []⟩])
 (.seq (.seq (.reg [⟨0, (some 69), .mv (.tmp 8), none, []⟩])
 (.cond (.tmp 69)
 (.reg [⟨0, (some 70), .mv (.tmp 11), none, []⟩,
 ⟨1, (some 71), .un .neg (.tmp 70), none, []⟩,
 ⟨2, (some 11), .mv (.tmp 71), none, []⟩])
 (.skip)))
 (.seq (.reg [⟨0, (some 72), .mv (.tmp 11), none, []⟩,
 ⟨1, (some 6), .mv (.tmp 72), none, []⟩,
 ⟨2, (some 7), .mv (.con .nilIface), none, []⟩])
 (.ret)))))))))))))),
 [.tmp 6, .tmp 7]⟩
theorem p_internal_strconv_ParseInt : prepFun Go.Proofs.Tryd.prog [0, 3, 4] Go.Proofs.Tryd.f67 = some v_internal_strconv_ParseInt := by kernel_rfl

def v_strconv_baseError : VFun :=
⟨.seq (.reg [⟨0, (some 6), .mv (.con (.pointer none)), none, []⟩])
 (.seq (.reg [⟨0, (some 7), .mv (.tmp 0), none, []⟩,
 ⟨1, (some 8), .mv (.tmp 1), none, []⟩,
 ⟨2, (some 9), .call 84 [(.tmp 8)], none, []⟩,
 ⟨3, (some 10), .mv (.tmp 2), none, []⟩,
 ⟨4, (some 11), .call 35 [(.tmp 10)], none, []⟩,
 ⟨5, (some 12), .bin .add 9 true (.con (.string ⟨#[105, 110, 118, 97, 108, 105, 100, 32, 98, 97, 115, 101, 32]⟩)) (.tmp 11), none, []⟩,
 ⟨6, (some 13), .call 85 [(.tmp 12)], none, []⟩,
 ⟨7, (some 14), .build [(.string ⟨#[]⟩), (.string ⟨#[]⟩), .nilIface] [(0, 1, (.tmp 7)), (1, 1, (.tmp 9)), (2, 1, (.tmp 13))], none, []⟩,
 ⟨8, (some 15), .box (.tmp 14), none, []⟩,
 ⟨9, (some 6), .mv (.tmp 15), none, []⟩])
 (.ret)),
 [.tmp 6]⟩
theorem p_strconv_baseError : prepFun Go.Proofs.Tryd.prog [0, 3, 4] Go.Proofs.Tryd.f70 = some v_strconv_baseError := by kernel_rfl

def v_strconv_bitSizeError : VFun :=
⟨.seq (.reg [⟨0, (some 6), .mv (.con (.pointer none)), none, []⟩])
 (.seq (.reg [⟨0, (some 7), .mv (.tmp 0), none, []⟩,
 ⟨1, (some 8), .mv (.tmp 1), none, []⟩,
 ⟨2, (some 9), .call 84 [(.tmp 8)], none, []⟩,
 ⟨3, (some 10), .mv (.tmp 2), none, []⟩,
 ⟨4, (some 11), .call 35 [(.tmp 10)], none, []⟩,
 ⟨5, (some 12), .bin .add 9 true (.con (.string ⟨#[105, 110, 118, 97, 108, 105, 100, 32, 98, 105, 116, 32, 115, 105, 122, 101, 32]⟩)) (.tmp 11), none, []⟩,
 ⟨6, (some 13), .call 85 [(.tmp 12)], none, []⟩,
 ⟨7, (some 14), .build [(.string ⟨#[]⟩), (.string ⟨#[]⟩), .nilIface] [(0, 1, (.tmp 7)), (1, 1, (.tmp 9)), (2, 1, (.tmp 13))], none, []⟩,
 ⟨8, (some 15), .box (.tmp 14), none, []⟩,
 ⟨9, (some 6), .mv (.tmp 15), none, []⟩])
 (.ret)),
 [.tmp 6]⟩
theorem p_strconv_bitSizeError : prepFun Go.Proofs.Tryd.prog [0, 3, 4] Go.Proofs.Tryd.f71 = some v_strconv_bitSizeError := by kernel_rfl

def v_r18_in : VFun :=
⟨.seq (.reg [⟨0, (some 4), .mv (.con (.bool false)), none, []⟩])
 (.seq (.seq (.reg [⟨0, (some 5), .mv (.con (.int .i64 0)), none, []⟩])
 (.block 0
 (.loop
 (.seq (.seq (.reg [⟨0, (some 6), .mv (.tmp 5), none, []⟩,
 ⟨1, (some 7), .mv (.tmp 0), none, []⟩,
 ⟨2, (some 8), .len (.tmp 7), none, []⟩,
 ⟨3, (some 9), .bin .lss 3 false (.tmp 6) (.tmp 8), none, []⟩])
 (.cond (.tmp 9)
 (.skip)
 (.exit 0)))
 (.seq (.block 1
 (.seq (.reg [⟨0, (some 12), .mv (.tmp 0), none, []⟩,
 ⟨1, (some 13), .mv (.tmp 5), none, []⟩,
 ⟨2, (some 14), .idxA none 1 (.tmp 12) (.tmp 13), none, []⟩,
 ⟨3, (some 15), .load none (.tmp 14), none, []⟩,
 ⟨4, (some 16), .mv (.tmp 1), none, []⟩,
 ⟨5, (some 17), .bin .eql 3 false (.tmp 15) (.tmp 16), none, []⟩])
 (.cond (.tmp 17)
 (.seq (.reg [⟨0, (some 4), .mv (.con (.bool true)), none, []⟩])
 (.ret))
 (.skip))))
 (.reg [⟨0, (some 10), .mv (.tmp 5), none, []⟩,
 ⟨1, (some 11), .bin .add 3 true (.tmp 10) (.con (.int .i64 1)), none, []⟩,
 ⟨2, (some 5), .mv (.tmp 11), none, []⟩]))))))
 (.seq (.reg [⟨0, (some 4), .mv (.con (.bool false)), none, []⟩])
 (.ret))),
 [.tmp 4]⟩
theorem p_r18_in : prepFun Go.Proofs.Tryd.prog [0, 3, 4] Go.Proofs.Tryd.f72 = some v_r18_in := by kernel_rfl

def v_internal_strconv_small : VFun :=
⟨.seq (.reg [⟨0, (some 2), .mv (.con (.string ⟨#[]⟩)), none, []⟩])
 (.seq (.seq (.reg [⟨0, (some 3), .mv (.tmp 0), none, []⟩,
 ⟨1, (some 4), .bin .lss 3 true (.tmp 3) (.con (.int .i64 10)), none, []⟩])
 (.cond (.tmp 4)
 (.seq (.reg [⟨0, (some 5), .mv (.tmp 0), none, []⟩,
 ⟨1, (some 6), .mv (.tmp 0), none, []⟩,
 ⟨2, (some 7), .bin .add 3 true (.tmp 6) (.con (.int .i64 1)), none, []⟩,
 ⟨3, (some 8), .slS 9 (.con (.string ⟨#[48, 49, 50, 51, 52, 53, 54, 55, 56, 57, 97, 98, 99, 100, 101, 102, 103, 104, 105, 106, 107, 108, 109, 110, 111, 112, 113, 114, 115, 116, 117, 118, 119, 120, 121, 122]⟩)) (some (.tmp 5)) (some (.tmp 7)), none, []⟩,
 ⟨4, (some 2), .mv (.tmp 8), none, []⟩])
 (.ret))
 (.skip)))
 (.seq (.reg [⟨0, (some 9), .mv (.tmp 0), none, []⟩,
 ⟨1, (some 10), .bin .mul 3 true (.tmp 9) (.con (.int .i64 2)), none, []⟩,
 ⟨2, (some 11), .mv (.tmp 0), none, []⟩,
 ⟨3, (some 12), .bin .mul 3 true (.tmp 11) (.con (.int .i64 2)), none, []⟩,
 ⟨4, (some 13), .bin .add 3 true (.tmp 12) (.con (.int .i64 2)), none, []⟩,
 ⟨5, (some 14), .slS 9 (.con (.string ⟨#[48, 48, 48, 49, 48, 50, 48, 51, 48, 52, 48, 53, 48, 54, 48, 55, 48, 56, 48, 57, 49, 48, 49, 49, 49, 50, 49, 51, 49, 52, 49, 53, 49, 54, 49, 55, 49, 56, 49, 57, 50, 48, 50, 49, 50, 50, 50, 51, 50, 52, 50, 53, 50, 54, 50, 55, 50, 56, 50, 57, 51, 48, 51, 49, 51, 50, 51, 51, 51, 52, 51, 53, 51, 54, 51, 55, 51, 56, 51, 57, 52, 48, 52, 49, 52, 50, 52, 51, 52, 52, 52, 53, 52, 54, 52, 55, 52, 56, 52, 57, 53, 48, 53, 49, 53, 50, 53, 51, 53, 52, 53, 53, 53, 54, 53, 55, 53, 56, 53, 57, 54, 48, 54, 49, 54, 50, 54, 51, 54, 52, 54, 53, 54, 54, 54, 55, 54, 56, 54, 57, 55, 48, 55, 49, 55, 50, 55, 51, 55, 52, 55, 53, 55, 54, 55, 55, 55, 56, 55, 57, 56, 48, 56, 49, 56, 50, 56, 51, 56, 52, 56, 53, 56, 54, 56, 55, 56, 56, 56, 57, 57, 48, 57, 49, 57, 50, 57, 51, 57, 52, 57, 53, 57, 54, 57, 55, 57, 56, 57, 57]⟩)) (some (.tmp 10)) (some (.tmp 13)), none, []⟩,
 ⟨6, (some 2), .mv (.tmp 14), none, []⟩])
 (.ret))),
 [.tmp 2]⟩
theorem p_internal_strconv_small : prepFun Go.Proofs.Tryd.prog [0, 3, 4] Go.Proofs.Tryd.f75 = some v_internal_strconv_small := by kernel_rfl

def v_internal_strconv_numDigits : VFun :=
⟨.seq (.reg [⟨0, (some 2), .mv (.con (.int .i64 0)), none, []⟩])
 (.seq (.reg [⟨0, (some 4), .mv (.tmp 0), none, []⟩,
 ⟨1, (some 5), .call 89 [(.tmp 4)], none, []⟩,
 ⟨2, (some 6), .call 88 [(.tmp 5)], none, []⟩,
 ⟨3, (some 3), .mv (.tmp 6), none, []⟩])
 (.seq (.reg [⟨0, (some 7), .mv (.tmp 3), none, []⟩,
 ⟨1, (some 8), .mv (.tmp 0), none, []⟩,
 ⟨2, (some 9), .mv (.tmp 3), none, []⟩,
 ⟨3, (some 10), .idxA (some 20) 1 (.glo 1) (.tmp 9), none, []⟩,
 ⟨4, (some 11), .load none (.tmp 10), none, []⟩,
 ⟨5, (some 12), .bin .geq 115 false (.tmp 8) (.tmp 11), none, []⟩,
 ⟨6, (some 13), .call 90 [(.tmp 12)], none, []⟩,
 ⟨7, (some 14), .bin .add 3 false (.tmp 7) (.tmp 13), none, []⟩,
 ⟨8, (some 2), .mv (.tmp 14), none, []⟩])
 (.ret))),
 [.tmp 2]⟩
theorem p_internal_strconv_numDigits : prepFun Go.Proofs.Tryd.prog [0, 3, 4] Go.Proofs.Tryd.f76 = some v_internal_strconv_numDigits := by kernel_rfl

def v_internal_strconv_formatBase10 : VFun :=
⟨.seq (.reg [⟨0, (some 17), .mv (.tmp 0), none, []⟩,
 ⟨1, (some 18), .len (.tmp 17), none, []⟩,
 ⟨2, (some 4), .mv (.tmp 18), none, []⟩])
 (.seq (.block 0
 (.loop
 (.seq (.seq (.reg [⟨0, (some 19), .mv (.tmp 4), none, []⟩,
 ⟨1, (some 20), .bin .geq 3 true (.tmp 19) (.con (.int .i64 8)), none, []⟩])
 (.cond (.tmp 20)
 (.skip)
 (.exit 0)))
 (.block 1
 (.seq (.reg [⟨0, (some 21), .mv (.tmp 1), none, []⟩,
 ⟨1, (some 22), .bin .rem 115 true (.tmp 21) (.con (.int .u64 100000000)), none, []⟩,
 ⟨2, (some 23), .conv 115 135 (.tmp 22), none, []⟩,
 ⟨3, (some 5), .mv (.tmp 23), none, []⟩])
 (.seq (.reg [⟨0, (some 24), .mv (.tmp 1), none, []⟩,
 ⟨1, (some 25), .bin .quo 115 true (.tmp 24) (.con (.int .u64 100000000)), none, []⟩,
 ⟨2, (some 1), .mv (.tmp 25), none, []⟩])
 (.seq (.reg [⟨0, (some 26), .mv (.tmp 5), none, []⟩,
 ⟨1, (some 27), .bin .quo 135 true (.tmp 26) (.con (.int .u32 10000)), none, []⟩,
 ⟨2, (some 28), .mv (.tmp 5), none, []⟩,
 ⟨3, (some 29), .bin .rem 135 true (.tmp 28) (.con (.int .u32 10000)), none, []⟩,
 ⟨4, (some 6), .mv (.tmp 27), none, []⟩,
 ⟨5, (some 7), .mv (.tmp 29), none, []⟩])
 (.seq (.reg [⟨0, (some 30), .mv (.tmp 7), none, []⟩,
 ⟨1, (some 31), .bin .quo 135 true (.tmp 30) (.con (.int .u32 100)), none, []⟩,
 ⟨2, (some 32), .bin .mul 135 true (.tmp 31) (.con (.int .u32 2)), none, []⟩,
 ⟨3, (some 33), .mv (.tmp 7), none, []⟩,
 ⟨4, (some 34), .bin .rem 135 true (.tmp 33) (.con (.int .u32 100)), none, []⟩,
 ⟨5, (some 35), .bin .mul 135 true (.tmp 34) (.con (.int .u32 2)), none, []⟩,
 ⟨6, (some 8), .mv (.tmp 32), none, []⟩,
 ⟨7, (some 9), .mv (.tmp 35), none, []⟩])
 (.seq (.reg [⟨0, (some 36), .mv (.tmp 6), none, []⟩,
 ⟨1, (some 37), .bin .quo 135 true (.tmp 36) (.con (.int .u32 100)), none, []⟩,
 ⟨2, (some 38), .bin .mul 135 true (.tmp 37) (.con (.int .u32 2)), none, []⟩,
 ⟨3, (some 39), .mv (.tmp 6), none, []⟩,
 ⟨4, (some 40), .bin .rem 135 true (.tmp 39) (.con (.int .u32 100)), none, []⟩,
 ⟨5, (some 41), .bin .mul 135 true (.tmp 40) (.con (.int .u32 2)), none, []⟩,
 ⟨6, (some 10), .mv (.tmp 38), none, []⟩,
 ⟨7, (some 11), .mv (.tmp 41), none, []⟩])
 (.seq (.reg [⟨0, (some 42), .mv (.tmp 0), none, []⟩,
 ⟨1, (some 43), .mv (.tmp 4), none, []⟩,
 ⟨2, (some 44), .bin .sub 3 true (.tmp 43) (.con (.int .i64 1)), none, []⟩,
 ⟨3, (some 45), .mv (.tmp 0), none, []⟩,
 ⟨4, (some 46), .mv (.tmp 4), none, []⟩,
 ⟨5, (some 47), .bin .sub 3 true (.tmp 46) (.con (.int .i64 2)), none, []⟩,
 ⟨6, (some 48), .mv (.tmp 9), none, []⟩,
 ⟨7, (some 49), .bin .add 135 true (.tmp 48) (.con (.int .u32 1)), none, []⟩,
 ⟨8, (some 50), .idxS 9 (.con (.string ⟨#[48, 48, 48, 49, 48, 50, 48, 51, 48, 52, 48, 53, 48, 54, 48, 55, 48, 56, 48, 57, 49, 48, 49, 49, 49, 50, 49, 51, 49, 52, 49, 53, 49, 54, 49, 55, 49, 56, 49, 57, 50, 48, 50, 49, 50, 50, 50, 51, 50, 52, 50, 53, 50, 54, 50, 55, 50, 56, 50, 57, 51, 48, 51, 49, 51, 50, 51, 51, 51, 52, 51, 53, 51, 54, 51, 55, 51, 56, 51, 57, 52, 48, 52, 49, 52, 50, 52, 51, 52, 52, 52, 53, 52, 54, 52, 55, 52, 56, 52, 57, 53, 48, 53, 49, 53, 50, 53, 51, 53, 52, 53, 53, 53, 54, 53, 55, 53, 56, 53, 57, 54, 48, 54, 49, 54, 50, 54, 51, 54, 52, 54, 53, 54, 54, 54, 55, 54, 56, 54, 57, 55, 48, 55, 49, 55, 50, 55, 51, 55, 52, 55, 53, 55, 54, 55, 55, 55, 56, 55, 57, 56, 48, 56, 49, 56, 50, 56, 51, 56, 52, 56, 53, 56, 54, 56, 55, 56, 56, 56, 57, 57, 48, 57, 49, 57, 50, 57, 51, 57, 52, 57, 53, 57, 54, 57, 55, 57, 56, 57, 57]⟩)) (.tmp 49), none, []⟩,
 ⟨9, (some 51), .mv (.tmp 9), none, []⟩,
 ⟨10, (some 52), .idxS 9 (.con (.string ⟨#[48, 48, 48, 49, 48, 50, 48, 51, 48, 52, 48, 53, 48, 54, 48, 55, 48, 56, 48, 57, 49, 48, 49, 49, 49, 50, 49, 51, 49, 52, 49, 53, 49, 54, 49, 55, 49, 56, 49, 57, 50, 48, 50, 49, 50, 50, 50, 51, 50, 52, 50, 53, 50, 54, 50, 55, 50, 56, 50, 57, 51, 48, 51, 49, 51, 50, 51, 51, 51, 52, 51, 53, 51, 54, 51, 55, 51, 56, 51, 57, 52, 48, 52, 49, 52, 50, 52, 51, 52, 52, 52, 53, 52, 54, 52, 55, 52, 56, 52, 57, 53, 48, 53, 49, 53, 50, 53, 51, 53, 52, 53, 53, 53, 54, 53, 55, 53, 56, 53, 57, 54, 48, 54, 49, 54, 50, 54, 51, 54, 52, 54, 53, 54, 54, 54, 55, 54, 56, 54, 57, 55, 48, 55, 49, 55, 50, 55, 51, 55, 52, 55, 53, 55, 54, 55, 55, 55, 56, 55, 57, 56, 48, 56, 49, 56, 50, 56, 51, 56, 52, 56, 53, 56, 54, 56, 55, 56, 56, 56, 57, 57, 48, 57, 49, 57, 50, 57, 51, 57, 52, 57, 53, 57, 54, 57, 55, 57, 56, 57, 57]⟩)) (.tmp 51), none, []⟩,
 ⟨11, (some 53), .idxA none 1 (.tmp 42) (.tmp 44), none, []⟩,
 ⟨12, none, .store 1 (.tmp 53) (.tmp 50), none, []⟩,
 ⟨13, (some 54), .idxA none 1 (.tmp 45) (.tmp 47), none, []⟩,
 ⟨14, none, .store 1 (.tmp 54) (.tmp 52), none, []⟩])
 (.seq (.reg [⟨0, (some 55), .mv (.tmp 0), none, []⟩,
 ⟨1, (some 56), .mv (.tmp 4), none, []⟩,
 ⟨2, (some 57), .bin .sub 3 true (.tmp 56) (.con (.int .i64 3)), none, []⟩,
 ⟨3, (some 58), .mv (.tmp 0), none, []⟩,
 ⟨4, (some 59), .mv (.tmp 4), none, []⟩,
 ⟨5, (some 60), .bin .sub 3 true (.tmp 59) (.con (.int .i64 4)), none, []⟩,
 ⟨6, (some 61), .mv (.tmp 8), none, []⟩,
 ⟨7, (some 62), .bin .add 135 true (.tmp 61) (.con (.int .u32 1)), none, []⟩,
 ⟨8, (some 63), .idxS 9 (.con (.string ⟨#[48, 48, 48, 49, 48, 50, 48, 51, 48, 52, 48, 53, 48, 54, 48, 55, 48, 56, 48, 57, 49, 48, 49, 49, 49, 50, 49, 51, 49, 52, 49, 53, 49, 54, 49, 55, 49, 56, 49, 57, 50, 48, 50, 49, 50, 50, 50, 51, 50, 52, 50, 53, 50, 54, 50, 55, 50, 56, 50, 57, 51, 48, 51, 49, 51, 50, 51, 51, 51, 52, 51, 53, 51, 54, 51, 55, 51, 56, 51, 57, 52, 48, 52, 49, 52, 50, 52, 51, 52, 52, 52, 53, 52, 54, 52, 55, 52, 56, 52, 57, 53, 48, 53, 49, 53, 50, 53, 51, 53, 52, 53, 53, 53, 54, 53, 55, 53, 56, 53, 57, 54, 48, 54, 49, 54, 50, 54, 51, 54, 52, 54, 53, 54, 54, 54, 55, 54, 56, 54, 57, 55, 48, 55, 49, 55, 50, 55, 51, 55, 52, 55, 53, 55, 54, 55, 55, 55, 56, 55, 57, 56, 48, 56, 49, 56, 50, 56, 51, 56, 52, 56, 53, 56, 54, 56, 55, 56, 56, 56, 57, 57, 48, 57, 49, 57, 50, 57, 51, 57, 52, 57, 53, 57, 54, 57, 55, 57, 56, 57, 57]⟩)) (.tmp 62), none, []⟩,
 ⟨9, (some 64), .mv (.tmp 8), none, []⟩,
 ⟨10, (some 65), .idxS 9 (.con (.string ⟨#[48, 48, 48, 49, 48, 50, 48, 51, 48, 52, 48, 53, 48, 54, 48, 55, 48, 56, 48, 57, 49, 48, 49, 49, 49, 50, 49, 51, 49, 52, 49, 53, 49, 54, 49, 55, 49, 56, 49, 57, 50, 48, 50, 49, 50, 50, 50, 51, 50, 52, 50, 53, 50, 54, 50, 55, 50, 56, 50, 57, 51, 48, 51, 49, 51, 50, 51, 51, 51, 52, 51, 53, 51, 54, 51, 55, 51, 56, 51, 57, 52, 48, 52, 49, 52, 50, 52, 51, 52, 52, 52, 53, 52, 54, 52, 55, 52, 56, 52, 57, 53, 48, 53, 49, 53, 50, 53, 51, 53, 52, 53, 53, 53, 54, 53, 55, 53, 56, 53, 57, 54, 48, 54, 49, 54, 50, 54, 51, 54, 52, 54, 53, 54, 54, 54, 55, 54, 56, 54, 57, 55, 48, 55, 49, 55, 50, 55, 51, 55, 52, 55, 53, 55, 54, 55, 55, 55, 56, 55, 57, 56, 48, 56, 49, 56, 50, 56, 51, 56, 52, 56, 53, 56, 54, 56, 55, 56, 56, 56, 57, 57, 48, 57, 49, 57, 50, 57, 51, 57, 52, 57, 53, 57, 54, 57, 55, 57, 56, 57, 57]⟩)) (.tmp 64), none, []⟩,
 ⟨11, (some 66), .idxA none 1 (.tmp 55) (.tmp 57), none, []⟩,
 ⟨12, none, .store 1 (.tmp 66) (.tmp 63), none, []⟩,
 ⟨13, (some 67), .idxA none 1 (.tmp 58) (.tmp 60), none, []⟩,
 ⟨14, none, .store 1 (.tmp 67) (.tmp 65), none, []⟩])
 (.seq (.reg [⟨0, (some 68), .mv (.tmp 0), none, []⟩,
 ⟨1, (some 69), .mv (.tmp 4), none, []⟩,
 ⟨2, (some 70), .bin .sub 3 true (.tmp 69) (.con (.int .i64 5)), none, []⟩,
 ⟨3, (some 71), .mv (.tmp 0), none, []⟩,
 ⟨4, (some 72), .mv (.tmp 4), none, []⟩,
 ⟨5, (some 73), .bin .sub 3 true (.tmp 72) (.con (.int .i64 6)), none, []⟩,
 ⟨6, (some 74), .mv (.tmp 11), none, []⟩,
 ⟨7, (some 75), .bin .add 135 true (.tmp 74) (.con (.int .u32 1)), none, []⟩,
 ⟨8, (some 76), .idxS 9 (.con (.string ⟨#[48, 48, 48, 49, 48, 50, 48, 51, 48, 52, 48, 53, 48, 54, 48, 55, 48, 56, 48, 57, 49, 48, 49, 49, 49, 50, 49, 51, 49, 52, 49, 53, 49, 54, 49, 55, 49, 56, 49, 57, 50, 48, 50, 49, 50, 50, 50, 51, 50, 52, 50, 53, 50, 54, 50, 55, 50, 56, 50, 57, 51, 48, 51, 49, 51, 50, 51, 51, 51, 52, 51, 53, 51, 54, 51, 55, 51, 56, 51, 57, 52, 48, 52, 49, 52, 50, 52, 51, 52, 52, 52, 53, 52, 54, 52, 55, 52, 56, 52, 57, 53, 48, 53, 49, 53, 50, 53, 51, 53, 52, 53, 53, 53, 54, 53, 55, 53, 56, 53, 57, 54, 48, 54, 49, 54, 50, 54, 51, 54, 52, 54, 53, 54, 54, 54, 55, 54, 56, 54, 57, 55, 48, 55, 49, 55, 50, 55, 51, 55, 52, 55, 53, 55, 54, 55, 55, 55, 56, 55, 57, 56, 48, 56, 49, 56, 50, 56, 51, 56, 52, 56, 53, 56, 54, 56, 55, 56, 56, 56, 57, 57, 48, 57, 49, 57, 50, 57, 51, 57, 52, 57, 53, 57, 54, 57, 55, 57, 56, 57, 57]⟩)) (.tmp 75), none, []⟩,
 ⟨9, (some 77), .mv (.tmp 11), none, []⟩,
 ⟨10, (some 78), .idxS 9 (.con (.string ⟨#[48, 48, 48, 49, 48, 50, 48, 51, 48, 52, 48, 53, 48, 54, 48, 55, 48, 56, 48, 57, 49, 48, 49, 49, 49, 50, 49, 51, 49, 52, 49, 53, 49, 54, 49, 55, 49, 56, 49, 57, 50, 48, 50, 49, 50, 50, 50, 51, 50, 52, 50, 53, 50, 54, 50, 55, 50, 56, 50, 57, 51, 48, 51, 49, 51, 50, 51, 51, 51, 52, 51, 53, 51, 54, 51, 55, 51, 56, 51, 57, 52, 48, 52, 49, 52, 50, 52, 51, 52, 52, 52, 53, 52, 54, 52, 55, 52, 56, 52, 57, 53, 48, 53, 49, 53, 50, 53, 51, 53, 52, 53, 53, 53, 54, 53, 55, 53, 56, 53, 57, 54, 48, 54, 49, 54, 50, 54, 51, 54, 52, 54, 53, 54, 54, 54, 55, 54, 56, 54, 57, 55, 48, 55, 49, 55, 50, 55, 51, 55, 52, 55, 53, 55, 54, 55, 55, 55, 56, 55, 57, 56, 48, 56, 49, 56, 50, 56, 51, 56, 52, 56, 53, 56, 54, 56, 55, 56, 56, 56, 57, 57, 48, 57, 49, 57, 50, 57, 51, 57, 52, 57, 53, 57, 54, 57, 55, 57, 56, 57, 57]⟩)) (.tmp 77), none, []⟩,
 ⟨11, (some 79), .idxA none 1 (.tmp 68) (.tmp 70), none, []⟩,
 ⟨12, none, .store 1 (.tmp 79) (.tmp 76), none, []⟩,
 ⟨13, (some 80), .idxA none 1 (.tmp 71) (.tmp 73), none, []⟩,
 ⟨14, none, .store 1 (.tmp 80) (.tmp 78), none, []⟩])
 (.seq (.reg [⟨0, (some 81), .mv (.tmp 0), none, []⟩,
 ⟨1, (some 82), .mv (.tmp 4), none, []⟩,
 ⟨2, (some 83), .bin .sub 3 true (.tmp 82) (.con (.int .i64 7)), none, []⟩,
 ⟨3, (some 84), .mv (.tmp 0), none, []⟩,
 ⟨4, (some 85), .mv (.tmp 4), none, []⟩,
 ⟨5, (some 86), .bin .sub 3 true (.tmp 85) (.con (.int .i64 8)), none, []⟩,
 ⟨6, (some 87), .mv (.tmp 10), none, []⟩,
 ⟨7, (some 88), .bin .add 135 true (.tmp 87) (.con (.int .u32 1)), none, []⟩,
 ⟨8, (some 89), .idxS 9 (.con (.string ⟨#[48, 48, 48, 49, 48, 50, 48, 51, 48, 52, 48, 53, 48, 54, 48, 55, 48, 56, 48, 57, 49, 48, 49, 49, 49, 50, 49, 51, 49, 52, 49, 53, 49, 54, 49, 55, 49, 56, 49, 57, 50, 48, 50, 49, 50, 50, 50, 51, 50, 52, 50, 53, 50, 54, 50, 55, 50, 56, 50, 57, 51, 48, 51, 49, 51, 50, 51, 51, 51, 52, 51, 53, 51, 54, 51, 55, 51, 56, 51, 57, 52, 48, 52, 49, 52, 50, 52, 51, 52, 52, 52, 53, 52, 54, 52, 55, 52, 56, 52, 57, 53, 48, 53, 49, 53, 50, 53, 51, 53, 52, 53, 53, 53, 54, 53, 55, 53, 56, 53, 57, 54, 48, 54, 49, 54, 50, 54, 51, 54, 52, 54, 53, 54, 54, 54, 55, 54, 56, 54, 57, 55, 48, 55, 49, 55, 50, 55, 51, 55, 52, 55, 53, 55, 54, 55, 55, 55, 56, 55, 57, 56, 48, 56, 49, 56, 50, 56, 51, 56, 52, 56, 53, 56, 54, 56, 55, 56, 56, 56, 57, 57, 48, 57, 49, 57, 50, 57, 51, 57, 52, 57, 53, 57, 54, 57, 55, 57, 56, 57, 57]⟩)) (.tmp 88), none, []⟩,
 ⟨9, (some 90), .mv (.tmp 10), none, []⟩,
 ⟨10, (some 91), .idxS 9 (.con (.string ⟨#[48, 48, 48, 49, 48, 50, 48, 51, 48, 52, 48, 53, 48, 54, 48, 55, 48, 56, 48, 57, 49, 48, 49, 49, 49, 50, 49, 51, 49, 52, 49, 53, 49, 54, 49, 55, 49, 56, 49, 57, 50, 48, 50, 49, 50, 50, 50, 51, 50, 52, 50, 53, 50, 54, 50, 55, 50, 56, 50, 57, 51, 48, 51, 49, 51, 50, 51, 51, 51, 52, 51, 53, 51, 54, 51, 55, 51, 56, 51, 57, 52, 48, 52, 49, 52, 50, 52, 51, 52, 52, 52, 53, 52, 54, 52, 55, 52, 56, 52, 57, 53, 48, 53, 49, 53, 50, 53, 51, 53, 52, 53, 53, 53, 54, 53, 55, 53, 56, 53, 57, 54, 48, 54, 49, 54, 50, 54, 51, 54, 52, 54, 53, 54, 54, 54, 55, 54, 56, 54, 57, 55, 48, 55, 49, 55, 50, 55, 51, 55, 52, 55, 53, 55, 54, 55, 55, 55, 56, 55, 57, 56, 48, 56, 49, 56, 50, 56, 51, 56, 52, 56, 53, 56, 54, 56, 55, 56, 56, 56, 57, 57, 48, 57, 49, 57, 50, 57, 51, 57, 52, 57, 53, 57, 54, 57, 55, 57, 56, 57, 57]⟩)) (.tmp 90), none, []⟩,
 ⟨11, (some 92), .idxA none 1 (.tmp 81) (.tmp 83), none, []⟩,
 ⟨12, none, .store 1 (.tmp 92) (.tmp 89), none, []⟩,
 ⟨13, (some 93), .idxA none 1 (.tmp 84) (.tmp 86), none, []⟩,
 ⟨14, none, .store 1 (.tmp 93) (.tmp 91), none, []⟩])
 (.reg [⟨0, (some 94), .mv (.tmp 4), none, []⟩,
 ⟨1, (some 95), .bin .sub 3 true (.tmp 94) (.con (.int .i64 8)), none, []⟩,
 ⟨2, (some 4), .mv (.tmp 95), none, []⟩]))))))))))))))
 (.seq (.reg [⟨0, (some 96), .mv (.tmp 1), none, []⟩,
 ⟨1, (some 97), .conv 115 135 (.tmp 96), none, []⟩,
 ⟨2, (some 12), .mv (.tmp 97), none, []⟩])
 (.seq (.seq (.reg [⟨0, (some 98), .mv (.tmp 4), none, []⟩,
 ⟨1, (some 99), .bin .geq 3 true (.tmp 98) (.con (.int .i64 4)), none, []⟩])
 (.cond (.tmp 99)
 (.seq (.reg [⟨0, (some 100), .mv (.tmp 12), none, []⟩,
 ⟨1, (some 101), .bin .rem 135 true (.tmp 100) (.con (.int .u32 10000)), none, []⟩,
 ⟨2, (some 13), .mv (.tmp 101), none, []⟩])
 (.seq (.reg [⟨0, (some 102), .mv (.tmp 12), none, []⟩,
 ⟨1, (some 103), .bin .quo 135 true (.tmp 102) (.con (.int .u32 10000)), none, []⟩,
 ⟨2, (some 12), .mv (.tmp 103), none, []⟩])
 (.seq (.reg [⟨0, (some 104), .mv (.tmp 13), none, []⟩,
 ⟨1, (some 105), .bin .quo 135 true (.tmp 104) (.con (.int .u32 100)), none, []⟩,
 ⟨2, (some 106), .bin .mul 135 true (.tmp 105) (.con (.int .u32 2)), none, []⟩,
 ⟨3, (some 107), .mv (.tmp 13), none, []⟩,
 ⟨4, (some 108), .bin .rem 135 true (.tmp 107) (.con (.int .u32 100)), none, []⟩,
 ⟨5, (some 109), .bin .mul 135 true (.tmp 108) (.con (.int .u32 2)), none, []⟩,
 ⟨6, (some 14), .mv (.tmp 106), none, []⟩,
 ⟨7, (some 15), .mv (.tmp 109), none, []⟩])
 (.seq (.reg [⟨0, (some 110), .mv (.tmp 0), none, []⟩,
 ⟨1, (some 111), .mv (.tmp 4), none, []⟩,
 ⟨2, (some 112), .bin .sub 3 true (.tmp 111) (.con (.int .i64 1)), none, []⟩,
 ⟨3, (some 113), .mv (.tmp 0), none, []⟩,
 ⟨4, (some 114), .mv (.tmp 4), none, []⟩,
 ⟨5, (some 115), .bin .sub 3 true (.tmp 114) (.con (.int .i64 2)), none, []⟩,
 ⟨6, (some 116), .mv (.tmp 15), none, []⟩,
 ⟨7, (some 117), .bin .add 135 true (.tmp 116) (.con (.int .u32 1)), none, []⟩,
 ⟨8, (some 118), .idxS 9 (.con (.string ⟨#[48, 48, 48, 49, 48, 50, 48, 51, 48, 52, 48, 53, 48, 54, 48, 55, 48, 56, 48, 57, 49, 48, 49, 49, 49, 50, 49, 51, 49, 52, 49, 53, 49, 54, 49, 55, 49, 56, 49, 57, 50, 48, 50, 49, 50, 50, 50, 51, 50, 52, 50, 53, 50, 54, 50, 55, 50, 56, 50, 57, 51, 48, 51, 49, 51, 50, 51, 51, 51, 52, 51, 53, 51, 54, 51, 55, 51, 56, 51, 57, 52, 48, 52, 49, 52, 50, 52, 51, 52, 52, 52, 53, 52, 54, 52, 55, 52, 56, 52, 57, 53, 48, 53, 49, 53, 50, 53, 51, 53, 52, 53, 53, 53, 54, 53, 55, 53, 56, 53, 57, 54, 48, 54, 49, 54, 50, 54, 51, 54, 52, 54, 53, 54, 54, 54, 55, 54, 56, 54, 57, 55, 48, 55, 49, 55, 50, 55, 51, 55, 52, 55, 53, 55, 54, 55, 55, 55, 56, 55, 57, 56, 48, 56, 49, 56, 50, 56, 51, 56, 52, 56, 53, 56, 54, 56, 55, 56, 56, 56, 57, 57, 48, 57, 49, 57, 50, 57, 51, 57, 52, 57, 53, 57, 54, 57, 55, 57, 56, 57, 57]⟩)) (.tmp 117), none, []⟩,
 ⟨9, (some 119), .mv (.tmp 15), none, []⟩,
 ⟨10, (some 120), .idxS 9 (.con (.string ⟨#[48, 48, 48, 49, 48, 50, 48, 51, 48, 52, 48, 53, 48, 54, 48, 55, 48, 56, 48, 57, 49, 48, 49, 49, 49, 50, 49, 51, 49, 52, 49, 53, 49, 54, 49, 55, 49, 56, 49, 57, 50, 48, 50, 49, 50, 50, 50, 51, 50, 52, 50, 53, 50, 54, 50, 55, 50, 56, 50, 57, 51, 48, 51, 49, 51, 50, 51, 51, 51, 52, 51, 53, 51, 54, 51, 55, 51, 56, 51, 57, 52, 48, 52, 49, 52, 50, 52, 51, 52, 52, 52, 53, 52, 54, 52, 55, 52, 56, 52, 57, 53, 48, 53, 49, 53, 50, 53, 51, 53, 52, 53, 53, 53, 54, 53, 55, 53, 56, 53, 57, 54, 48, 54, 49, 54, 50, 54, 51, 54, 52, 54, 53, 54, 54, 54, 55, 54, 56, 54, 57, 55, 48, 55, 49, 55, 50, 55, 51, 55, 52, 55, 53, 55, 54, 55, 55, 55, 56, 55, 57, 56, 48, 56, 49, 56, 50, 56, 51, 56, 52, 56, 53, 56, 54, 56, 55, 56, 56, 56, 57, 57, 48, 57, 49, 57, 50, 57, 51, 57, 52, 57, 53, 57, 54, 57, 55, 57, 56, 57, 57]⟩)) (.tmp 119), none, []⟩,
 ⟨11, (some 121), .idxA none 1 (.tmp 110) (.tmp 112), none, []⟩,
 ⟨12, none, .store 1 (.tmp 121) (.tmp 118), none, []⟩,
 ⟨13, (some 122), .idxA none 1 (.tmp 113) (.tmp 115), none, []⟩,
 ⟨14, none, .store 1 (.tmp 122) (.tmp 120), none, []⟩])
 (.seq (.reg [⟨0, (some 123), .mv (.tmp 0), none, []⟩,
 ⟨1, (some 124), .mv (.tmp 4), none, []⟩,
 ⟨2, (some 125), .bin .sub 3 true (.tmp 124) (.con (.int .i64 3)), none, []⟩,
 ⟨3, (some 126), .mv (.tmp 0), none, []⟩,
 ⟨4, (some 127), .mv (.tmp 4), none, []⟩,
 ⟨5, (some 128), .bin .sub 3 true (.tmp 127) (.con (.int .i64 4)), none, []⟩,
 ⟨6, (some 129), .mv (.tmp 14), none, []⟩,
 ⟨7, (some 130), .bin .add 135 true (.tmp 129) (.con (.int .u32 1)), none, []⟩,
 ⟨8, (some 131), .idxS 9 (.con (.string ⟨#[48, 48, 48, 49, 48, 50, 48, 51, 48, 52, 48, 53, 48, 54, 48, 55, 48, 56, 48, 57, 49, 48, 49, 49, 49, 50, 49, 51, 49, 52, 49, 53, 49, 54, 49, 55, 49, 56, 49, 57, 50, 48, 50, 49, 50, 50, 50, 51, 50, 52, 50, 53, 50, 54, 50, 55, 50, 56, 50, 57, 51, 48, 51, 49, 51, 50, 51, 51, 51, 52, 51, 53, 51, 54, 51, 55, 51, 56, 51, 57, 52, 48, 52, 49, 52, 50, 52, 51, 52, 52, 52, 53, 52, 54, 52, 55, 52, 56, 52, 57, 53, 48, 53, 49, 53, 50, 53, 51, 53, 52, 53, 53, 53, 54, 53, 55, 53, 56, 53, 57, 54, 48, 54, 49, 54, 50, 54, 51, 54, 52, 54, 53, 54, 54, 54, 55, 54, 56, 54, 57, 55, 48, 55, 49, 55, 50, 55, 51, 55, 52, 55, 53, 55, 54, 55, 55, 55, 56, 55, 57, 56, 48, 56, 49, 56, 50, 56, 51, 56, 52, 56, 53, 56, 54, 56, 55, 56, 56, 56, 57, 57, 48, 57, 49, 57, 50, 57, 51, 57, 52, 57, 53, 57, 54, 57, 55, 57, 56, 57, 57]⟩)) (.tmp 130), none, []⟩,
 ⟨9, (some 132), .mv (.tmp 14), none, []⟩,
 ⟨10, (some 133), .idxS 9 (.con (.string ⟨#[48, 48, 48, 49, 48, 50, 48, 51, 48, 52, 48, 53, 48, 54, 48, 55, 48, 56, 48, 57, 49, 48, 49, 49, 49, 50, 49, 51, 49, 52, 49, 53, 49, 54, 49, 55, 49, 56, 49, 57, 50, 48, 50, 49, 50, 50, 50, 51, 50, 52, 50, 53, 50, 54, 50, 55, 50, 56, 50, 57, 51, 48, 51, 49, 51, 50, 51, 51, 51, 52, 51, 53, 51, 54, 51, 55, 51, 56, 51, 57, 52, 48, 52, 49, 52, 50, 52, 51, 52, 52, 52, 53, 52, 54, 52, 55, 52, 56, 52, 57, 53, 48, 53, 49, 53, 50, 53, 51, 53, 52, 53, 53, 53, 54, 53, 55, 53, 56, 53, 57, 54, 48, 54, 49, 54, 50, 54, 51, 54, 52, 54, 53, 54, 54, 54, 55, 54, 56, 54, 57, 55, 48, 55, 49, 55, 50, 55, 51, 55, 52, 55, 53, 55, 54, 55, 55, 55, 56, 55, 57, 56, 48, 56, 49, 56, 50, 56, 51, 56, 52, 56, 53, 56, 54, 56, 55, 56, 56, 56, 57, 57, 48, 57, 49, 57, 50, 57, 51, 57, 52, 57, 53, 57, 54, 57, 55, 57, 56, 57, 57]⟩)) (.tmp 132), none, []⟩,
 ⟨11, (some 134), .idxA none 1 (.tmp 123) (.tmp 125), none, []⟩,
 ⟨12, none, .store 1 (.tmp 134) (.tmp 131), none, []⟩,
 ⟨13, (some 135), .idxA none 1 (.tmp 126) (.tmp 128), none, []⟩,
 ⟨14, none, .store 1 (.tmp 135) (.tmp 133), none, []⟩])
 (.reg [⟨0, (some 136), .mv (.tmp 4), none, []⟩,
 ⟨1, (some 137), .bin .sub 3 true (.tmp 136) (.con (.int .i64 4)), none, []⟩,
 ⟨2, (some 4), .mv (.tmp 137), none, []⟩]))))))
 (.skip)))
 (.seq (.seq (.reg [⟨0, (some 138), .mv (.tmp 4), none, []⟩,
 ⟨1, (some 139), .bin .geq 3 true (.tmp 138) (.con (.int .i64 2)), none, []⟩])
 (.cond (.tmp 139)
 (.seq (.reg [⟨0, (some 140), .mv (.tmp 12), none, []⟩,
 ⟨1, (some 141), .bin .rem 135 true (.tmp 140) (.con (.int .u32 100)), none, []⟩,
 ⟨2, (some 142), .bin .mul 135 true (.tmp 141) (.con (.int .u32 2)), none, []⟩,
 ⟨3, (some 16), .mv (.tmp 142), none, []⟩])
 (.seq (.reg [⟨0, (some 143), .mv (.tmp 12), none, []⟩,
 ⟨1, (some 144), .bin .quo 135 true (.tmp 143) (.con (.int .u32 100)), none, []⟩,
 ⟨2, (some 12), .mv (.tmp 144), none, []⟩])
 (.seq (.reg [⟨0, (some 145), .mv (.tmp 0), none, []⟩,
 ⟨1, (some 146), .mv (.tmp 4), none, []⟩,
 ⟨2, (some 147), .bin .sub 3 true (.tmp 146) (.con (.int .i64 1)), none, []⟩,
 ⟨3, (some 148), .mv (.tmp 0), none, []⟩,
 ⟨4, (some 149), .mv (.tmp 4), none, []⟩,
 ⟨5, (some 150), .bin .sub 3 true (.tmp 149) (.con (.int .i64 2)), none, []⟩,
 ⟨6, (some 151), .mv (.tmp 16), none, []⟩,
 ⟨7, (some 152), .bin .add 135 true (.tmp 151) (.con (.int .u32 1)), none, []⟩,
 ⟨8, (some 153), .idxS 9 (.con (.string ⟨#[48, 48, 48, 49, 48, 50, 48, 51, 48, 52, 48, 53, 48, 54, 48, 55, 48, 56, 48, 57, 49, 48, 49, 49, 49, 50, 49, 51, 49, 52, 49, 53, 49, 54, 49, 55, 49, 56, 49, 57, 50, 48, 50, 49, 50, 50, 50, 51, 50, 52, 50, 53, 50, 54, 50, 55, 50, 56, 50, 57, 51, 48, 51, 49, 51, 50, 51, 51, 51, 52, 51, 53, 51, 54, 51, 55, 51, 56, 51, 57, 52, 48, 52, 49, 52, 50, 52, 51, 52, 52, 52, 53, 52, 54, 52, 55, 52, 56, 52, 57, 53, 48, 53, 49, 53, 50, 53, 51, 53, 52, 53, 53, 53, 54, 53, 55, 53, 56, 53, 57, 54, 48, 54, 49, 54, 50, 54, 51, 54, 52, 54, 53, 54, 54, 54, 55, 54, 56, 54, 57, 55, 48, 55, 49, 55, 50, 55, 51, 55, 52, 55, 53, 55, 54, 55, 55, 55, 56, 55, 57, 56, 48, 56, 49, 56, 50, 56, 51, 56, 52, 56, 53, 56, 54, 56, 55, 56, 56, 56, 57, 57, 48, 57, 49, 57, 50, 57, 51, 57, 52, 57, 53, 57, 54, 57, 55, 57, 56, 57, 57]⟩)) (.tmp 152), none, []⟩,
 ⟨9, (some 154), .mv (.tmp 16), none, []⟩,
 ⟨10, (some 155), .idxS 9 (.con (.string ⟨#[48, 48, 48, 49, 48, 50, 48, 51, 48, 52, 48, 53, 48, 54, 48, 55, 48, 56, 48, 57, 49, 48, 49, 49, 49, 50, 49, 51, 49, 52, 49, 53, 49, 54, 49, 55, 49, 56, 49, 57, 50, 48, 50, 49, 50, 50, 50, 51, 50, 52, 50, 53, 50, 54, 50, 55, 50, 56, 50, 57, 51, 48, 51, 49, 51, 50, 51, 51, 51, 52, 51, 53, 51, 54, 51, 55, 51, 56, 51, 57, 52, 48, 52, 49, 52, 50, 52, 51, 52, 52, 52, 53, 52, 54, 52, 55, 52, 56, 52, 57, 53, 48, 53, 49, 53, 50, 53, 51, 53, 52, 53, 53, 53, 54, 53, 55, 53, 56, 53, 57, 54, 48, 54, 49, 54, 50, 54, 51, 54, 52, 54, 53, 54, 54, 54, 55, 54, 56, 54, 57, 55, 48, 55, 49, 55, 50, 55, 51, 55, 52, 55, 53, 55, 54, 55, 55, 55, 56, 55, 57, 56, 48, 56, 49, 56, 50, 56, 51, 56, 52, 56, 53, 56, 54, 56, 55, 56, 56, 56, 57, 57, 48, 57, 49, 57, 50, 57, 51, 57, 52, 57, 53, 57, 54, 57, 55, 57, 56, 57, 57]⟩)) (.tmp 154), none, []⟩,
 ⟨11, (some 156), .idxA none 1 (.tmp 145) (.tmp 147), none, []⟩,
 ⟨12, none, .store 1 (.tmp 156) (.tmp 153), none, []⟩,
 ⟨13, (some 157), .idxA none 1 (.tmp 148) (.tmp 150), none, []⟩,
 ⟨14, none, .store 1 (.tmp 157) (.tmp 155), none, []⟩])
 (.reg [⟨0, (some 158), .mv (.tmp 4), none, []⟩,
 ⟨1, (some 159), .bin .sub 3 true (.tmp 158) (.con (.int .i64 2)), none, []⟩,
 ⟨2, (some 4), .mv (.tmp 159), none, []⟩]))))
 (.skip)))
 (.seq (.reg [⟨0, (some 160), .mv (.tmp 4), none, []⟩,
 ⟨1, (some 161), .bin .gtr 3 true (.tmp 160) (.con (.int .i64 0)), none, []⟩])
 (.cond (.tmp 161)
 (.reg [⟨0, (some 162), .mv (.tmp 0), none, []⟩,
 ⟨1, (some 163), .mv (.tmp 12), none, []⟩,
 ⟨2, (some 164), .bin .add 135 true (.con (.int .u32 48)) (.tmp 163), none, []⟩,
 ⟨3, (some 165), .conv 135 5 (.tmp 164), none, []⟩,
 ⟨4, (some 166), .idxA none 1 (.tmp 162) (.con (.int .i64 0)), none, []⟩,
 ⟨5, none, .store 1 (.tmp 166) (.tmp 165), none, []⟩])
 (.skip))))))),
 []⟩
theorem p_internal_strconv_formatBase10 : prepFun Go.Proofs.Tryd.prog [0, 3, 4] Go.Proofs.Tryd.f77 = some v_internal_strconv_formatBase10 := by kernel_rfl

def v_internal_strconv_formatBits : VFun :=
⟨.seq (.reg [⟨0, (some 10), .mv (.con (.slice none 0 0)), none, []⟩,
 ⟨1, (some 11), .mv (.con (.string ⟨#[]⟩)), none, []⟩])
 (.seq (.seq (.reg [⟨0, (some 19), .mv (.tmp 2), none, []⟩,
 ⟨1, (some 20), .bin .lss 3 true (.tmp 19) (.con (.int .i64 2)), none, []⟩,
 ⟨2, (some 21), .mv (.tmp 20), none, []⟩,
 ⟨3, (some 22), .mv (.tmp 2), (some (21, false)), []⟩,
 ⟨4, (some 23), .bin .eql 3 true (.tmp 22) (.con (.int .i64 10)), (some (21, false)), []⟩,
 ⟨5, (some 24), .pick (.tmp 21) (.con (.bool true)) (.tmp 23), none, []⟩,
 ⟨6, (some 25), .mv (.tmp 24), none, []⟩,
 ⟨7, (some 26), .mv (.tmp 2), (some (25, false)), []⟩,
 ⟨8, (some 27), .bin .gtr 3 true (.tmp 26) (.con (.int .i64 36)), (some (25, false)), []⟩,
 ⟨9, (some 28), .pick (.tmp 25) (.con (.bool true)) (.tmp 27), none, []⟩])
 (.cond (.tmp 28)
 (.reg [⟨0, (some 29), .mkif 9 (.con (.string ⟨#[115, 116, 114, 99, 111, 110, 118, 58, 32, 105, 108, 108, 101, 103, 97, 108, 32, 65, 112, 112, 101, 110, 100, 73, 110, 116, 47, 70, 111, 114, 109, 97, 116, 73, 110, 116, 32, 98, 97, 115, 101]⟩)), none, []⟩,
 ⟨1, none, .panic (.tmp 29), none, []⟩])
 (.skip)))
 (.seq (.reg [⟨0, (some 12), .alloc [(.int .u8 0), (.int .u8 0), (.int .u8 0), (.int .u8 0), (.int .u8 0), (.int .u8 0), (.int .u8 0), (.int .u8 0), (.int .u8 0), (.int .u8 0), (.int .u8 0), (.int .u8 0), (.int .u8 0), (.int .u8 0), (.int .u8 0), (.int .u8 0), (.int .u8 0), (.int .u8 0), (.int .u8 0), (.int .u8 0), (.int .u8 0), (.int .u8 0), (.int .u8 0), (.int .u8 0), (.int .u8 0), (.int .u8 0), (.int .u8 0), (.int .u8 0), (.int .u8 0), (.int .u8 0), (.int .u8 0), (.int .u8 0), (.int .u8 0), (.int .u8 0), (.int .u8 0), (.int .u8 0), (.int .u8 0), (.int .u8 0), (.int .u8 0), (.int .u8 0), (.int .u8 0), (.int .u8 0), (.int .u8 0), (.int .u8 0), (.int .u8 0), (.int .u8 0), (.int .u8 0), (.int .u8 0), (.int .u8 0), (.int .u8 0), (.int .u8 0), (.int .u8 0), (.int .u8 0), (.int .u8 0), (.int .u8 0), (.int .u8 0), (.int .u8 0), (.int .u8 0), (.int .u8 0), (.int .u8 0), (.int .u8 0), (.int .u8 0), (.int .u8 0), (.int .u8 0), (.int .u8 0)], none, []⟩])
 (.seq (.reg [⟨0, (some 13), .mv (.con (.int .i64 65)), none, []⟩])
 (.seq (.seq (.reg [⟨0, (some 30), .mv (.tmp 3), none, []⟩])
 (.cond (.tmp 30)
 (.reg [⟨0, (some 31), .mv (.tmp 1), none, []⟩,
 ⟨1, (some 32), .un .neg (.tmp 31), none, []⟩,
 ⟨2, (some 1), .mv (.tmp 32), none, []⟩])
 (.skip)))
 (.seq (.seq (.reg [⟨0, (some 33), .mv (.tmp 2), none, []⟩,
 ⟨1, (some 34), .call 91 [(.tmp 33)], none, []⟩])
 (.cond (.tmp 34)
 (.seq (.reg [⟨0, (some 35), .mv (.tmp 2), none, []⟩,
 ⟨1, (some 36), .conv 3 125 (.tmp 35), none, []⟩,
 ⟨2, (some 37), .call 92 [(.tmp 36)], none, []⟩,
 ⟨3, (some 38), .conv 3 125 (.tmp 37), none, []⟩,
 ⟨4, (some 14), .mv (.tmp 38), none, []⟩])
 (.seq (.reg [⟨0, (some 39), .mv (.tmp 2), none, []⟩,
 ⟨1, (some 40), .conv 3 115 (.tmp 39), none, []⟩,
 ⟨2, (some 15), .mv (.tmp 40), none, []⟩])
 (.seq (.reg [⟨0, (some 41), .mv (.tmp 2), none, []⟩,
 ⟨1, (some 42), .conv 3 125 (.tmp 41), none, []⟩,
 ⟨2, (some 43), .bin .sub 125 true (.tmp 42) (.con (.int .u64 1)), none, []⟩,
 ⟨3, (some 16), .mv (.tmp 43), none, []⟩])
 (.seq (.block 0
 (.loop
 (.seq (.seq (.reg [⟨0, (some 44), .mv (.tmp 1), none, []⟩,
 ⟨1, (some 45), .mv (.tmp 15), none, []⟩,
 ⟨2, (some 46), .bin .geq 115 false (.tmp 44) (.tmp 45), none, []⟩])
 (.cond (.tmp 46)
 (.skip)
 (.exit 0)))
 (.block 1
 (.seq (.reg [⟨0, (some 47), .mv (.tmp 13), none, []⟩,
 ⟨1, (some 48), .bin .sub 3 true (.tmp 47) (.con (.int .i64 1)), none, []⟩,
 ⟨2, (some 13), .mv (.tmp 48), none, []⟩])
 (.seq (.reg [⟨0, (some 49), .mv (.tmp 13), none, []⟩,
 ⟨1, (some 50), .mv (.tmp 1), none, []⟩,
 ⟨2, (some 51), .mv (.tmp 16), none, []⟩,
 ⟨3, (some 52), .bin .and 125 false (.tmp 50) (.tmp 51), none, []⟩,
 ⟨4, (some 53), .idxS 9 (.con (.string ⟨#[48, 49, 50, 51, 52, 53, 54, 55, 56, 57, 97, 98, 99, 100, 101, 102, 103, 104, 105, 106, 107, 108, 109, 110, 111, 112, 113, 114, 115, 116, 117, 118, 119, 120, 121, 122]⟩)) (.tmp 52), none, []⟩,
 ⟨5, (some 54), .idxA (some 65) 1 (.tmp 12) (.tmp 49), none, []⟩,
 ⟨6, none, .store 1 (.tmp 54) (.tmp 53), none, []⟩])
 (.reg [⟨0, (some 55), .mv (.tmp 1), none, []⟩,
 ⟨1, (some 56), .mv (.tmp 14), none, []⟩,
 ⟨2, (some 57), .bin .shr 115 false (.tmp 55) (.tmp 56), none, []⟩,
 ⟨3, (some 1), .mv (.tmp 57), none, []⟩])))))))
 (.seq (.reg [⟨0, (some 58), .mv (.tmp 13), none, []⟩,
 ⟨1, (some 59), .bin .sub 3 true (.tmp 58) (.con (.int .i64 1)), none, []⟩,
 ⟨2, (some 13), .mv (.tmp 59), none, []⟩])
 (.reg [⟨0, (some 60), .mv (.tmp 13), none, []⟩,
 ⟨1, (some 61), .mv (.tmp 1), none, []⟩,
 ⟨2, (some 62), .idxS 9 (.con (.string ⟨#[48, 49, 50, 51, 52, 53, 54, 55, 56, 57, 97, 98, 99, 100, 101, 102, 103, 104, 105, 106, 107, 108, 109, 110, 111, 112, 113, 114, 115, 116, 117, 118, 119, 120, 121, 122]⟩)) (.tmp 61), none, []⟩,
 ⟨3, (some 63), .idxA (some 65) 1 (.tmp 12) (.tmp 60), none, []⟩,
 ⟨4, none, .store 1 (.tmp 63) (.tmp 62), none, []⟩]))))))
 (.seq (.reg [⟨0, (some 64), .mv (.tmp 2), none, []⟩,
 ⟨1, (some 65), .conv 3 115 (.tmp 64), none, []⟩,
 ⟨2, (some 17), .mv (.tmp 65), none, []⟩])
 (.seq (.block 2
 (.loop
 (.seq (.seq (.reg [⟨0, (some 66), .mv (.tmp 1), none, []⟩,
 ⟨1, (some 67), .mv (.tmp 17), none, []⟩,
 ⟨2, (some 68), .bin .geq 115 false (.tmp 66) (.tmp 67), none, []⟩])
 (.cond (.tmp 68)
 (.skip)
 (.exit 2)))
 (.block 3
 (.seq (.reg [⟨0, (some 69), .mv (.tmp 13), none, []⟩,
 ⟨1, (some 70), .bin .sub 3 true (.tmp 69) (.con (.int .i64 1)), none, []⟩,
 ⟨2, (some 13), .mv (.tmp 70), none, []⟩])
 (.seq (.reg [⟨0, (some 71), .mv (.tmp 1), none, []⟩,
 ⟨1, (some 72), .mv (.tmp 17), none, []⟩,
 ⟨2, (some 73), .bin .quo 115 false (.tmp 71) (.tmp 72), none, []⟩,
 ⟨3, (some 18), .mv (.tmp 73), none, []⟩])
 (.seq (.reg [⟨0, (some 74), .mv (.tmp 13), none, []⟩,
 ⟨1, (some 75), .mv (.tmp 1), none, []⟩,
 ⟨2, (some 76), .mv (.tmp 18), none, []⟩,
 ⟨3, (some 77), .mv (.tmp 17), none, []⟩,
 ⟨4, (some 78), .bin .mul 115 false (.tmp 76) (.tmp 77), none, []⟩,
 ⟨5, (some 79), .bin .sub 115 false (.tmp 75) (.tmp 78), none, []⟩,
 ⟨6, (some 80), .idxS 9 (.con (.string ⟨#[48, 49, 50, 51, 52, 53, 54, 55, 56, 57, 97, 98, 99, 100, 101, 102, 103, 104, 105, 106, 107, 108, 109, 110, 111, 112, 113, 114, 115, 116, 117, 118, 119, 120, 121, 122]⟩)) (.tmp 79), none, []⟩,
 ⟨7, (some 81), .idxA (some 65) 1 (.tmp 12) (.tmp 74), none, []⟩,
 ⟨8, none, .store 1 (.tmp 81) (.tmp 80), none, []⟩])
 (.reg [⟨0, (some 82), .mv (.tmp 18), none, []⟩,
 ⟨1, (some 1), .mv (.tmp 82), none, []⟩]))))))))
 (.seq (.reg [⟨0, (some 83), .mv (.tmp 13), none, []⟩,
 ⟨1, (some 84), .bin .sub 3 true (.tmp 83) (.con (.int .i64 1)), none, []⟩,
 ⟨2, (some 13), .mv (.tmp 84), none, []⟩])
 (.reg [⟨0, (some 85), .mv (.tmp 13), none, []⟩,
 ⟨1, (some 86), .mv (.tmp 1), none, []⟩,
 ⟨2, (some 87), .idxS 9 (.con (.string ⟨#[48, 49, 50, 51, 52, 53, 54, 55, 56, 57, 97, 98, 99, 100, 101, 102, 103, 104, 105, 106, 107, 108, 109, 110, 111, 112, 113, 114, 115, 116, 117, 118, 119, 120, 121, 122]⟩)) (.tmp 86), none, []⟩,
 ⟨3, (some 88), .idxA (some 65) 1 (.tmp 12) (.tmp 85), none, []⟩,
 ⟨4, none, .store 1 (.tmp 88) (.tmp 87), none, []⟩]))))))
 (.seq (.seq (.reg [⟨0, (some 89), .mv (.tmp 3), none, []⟩])
 (.cond (.tmp 89)
 (.seq (.reg [⟨0, (some 90), .mv (.tmp 13), none, []⟩,
 ⟨1, (some 91), .bin .sub 3 true (.tmp 90) (.con (.int .i64 1)), none, []⟩,
 ⟨2, (some 13), .mv (.tmp 91), none, []⟩])
 (.reg [⟨0, (some 92), .mv (.tmp 13), none, []⟩,
 ⟨1, (some 93), .idxA (some 65) 1 (.tmp 12) (.tmp 92), none, []⟩,
 ⟨2, none, .store 1 (.tmp 93) (.con (.int .u8 45)), none, []⟩]))
 (.skip)))
 (.seq (.seq (.reg [⟨0, (some 94), .mv (.tmp 4), none, []⟩])
 (.cond (.tmp 94)
 (.seq (.reg [⟨0, (some 95), .mv (.tmp 0), none, []⟩,
 ⟨1, (some 96), .mv (.tmp 13), none, []⟩,
 ⟨2, (some 97), .slice (some 65) 1 (.tmp 12) (some (.tmp 96)) none none, none, []⟩,
 ⟨3, (some 98), .append 1 1 (.tmp 95) (.tmp 97), none, []⟩,
 ⟨4, (some 10), .mv (.tmp 98), none, []⟩])
 (.ret))
 (.skip)))
 (.seq (.reg [⟨0, (some 99), .mv (.tmp 13), none, []⟩,
 ⟨1, (some 100), .slice (some 65) 1 (.tmp 12) (some (.tmp 99)) none none, none, []⟩,
 ⟨2, (some 101), .b2s (.tmp 100), none, []⟩,
 ⟨3, (some 11), .mv (.tmp 101), none, []⟩])
 (.ret))))))))),
 [.tmp 10, .tmp 11]⟩
theorem p_internal_strconv_formatBits : prepFun Go.Proofs.Tryd.prog [0, 3, 4] Go.Proofs.Tryd.f78 = some v_internal_strconv_formatBits := by kernel_rfl

def v_unicode_utf8_DecodeRuneInString : VFun :=
⟨.seq (.reg [⟨0, (some 2), .mv (.con (.int .i32 0)), none, []⟩,
 ⟨1, (some 3), .mv (.con (.int .i64 0)), none, []⟩])
 (.seq (.seq (.reg [⟨0, (some 4), .mv (.tmp 0), none, []⟩,
 ⟨1, (some 5), .bin .neq 9 true (.tmp 4) (.con (.string ⟨#[]⟩)), none, []⟩,
 ⟨2, (some 6), .mv (.tmp 5), none, []⟩,
 ⟨3, (some 7), .mv (.tmp 0), (some (6, true)), []⟩,
 ⟨4, (some 8), .idxS 9 (.tmp 7) (.con (.int .i64 0)), (some (6, true)), []⟩,
 ⟨5, (some 9), .bin .lss 5 true (.tmp 8) (.con (.int .u8 128)), (some (6, true)), []⟩,
 ⟨6, (some 10), .pick (.tmp 6) (.tmp 9) (.con (.bool false)), none, []⟩])
 (.cond (.tmp 10)
 (.seq (.reg [⟨0, (some 11), .mv (.tmp 0), none, []⟩,
 ⟨1, (some 12), .idxS 9 (.tmp 11) (.con (.int .i64 0)), none, []⟩,
 ⟨2, (some 13), .conv 5 21 (.tmp 12), none, []⟩,
 ⟨3, (some 2), .mv (.tmp 13), none, []⟩,
 ⟨4, (some 3), .mv (.con (.int .i64 1)), none, []⟩])
 (.ret))
 (.reg [⟨0, (some 15), .mv (.tmp 0), none, []⟩,
 ⟨1, (some 16), .call 93 [(.tmp 15)], none, []⟩,
 ⟨2, (some 14), .mv (.tmp 16), none, []⟩,
 ⟨3, (some 17), .ext (.tmp 14) 0, none, []⟩,
 ⟨4, (some 18), .ext (.tmp 14) 1, none, []⟩,
 ⟨5, (some 2), .mv (.tmp 17), none, []⟩,
 ⟨6, (some 3), .mv (.tmp 18), none, []⟩])))
 (.ret)),
 [.tmp 2, .tmp 3]⟩
theorem p_unicode_utf8_DecodeRuneInString : prepFun Go.Proofs.Tryd.prog [0, 3, 4] Go.Proofs.Tryd.f80 = some v_unicode_utf8_DecodeRuneInString := by kernel_rfl

def v_internal_stringslite_Index : VFun :=
⟨.seq (.reg [⟨0, (some 4), .mv (.con (.int .i64 0)), none, []⟩])
 (.seq (.reg [⟨0, (some 14), .mv (.tmp 1), none, []⟩,
 ⟨1, (some 15), .bi .len [9] 3 [(.tmp 14)], none, []⟩,
 ⟨2, (some 5), .mv (.tmp 15), none, []⟩])
 (.seq (.block 0
 (.seq (.reg [⟨0, (some 17), .mv (.tmp 5), none, []⟩,
 ⟨1, (some 18), .bin .eql 3 true (.tmp 17) (.con (.int .i64 0)), none, []⟩,
 ⟨2, (some 19), .mv (.tmp 18), none, []⟩,
 ⟨3, (some 20), .mv (.tmp 1), (some (19, false)), []⟩,
 ⟨4, (some 21), .mv (.tmp 0), (some (19, false)), []⟩,
 ⟨5, (some 22), .bin .eql 9 false (.tmp 20) (.tmp 21), (some (19, false)), []⟩,
 ⟨6, (some 23), .pick (.tmp 19) (.con (.bool true)) (.tmp 22), none, []⟩,
 ⟨7, (some 16), .mv (.tmp 23), none, []⟩])
 (.cond (.tmp 16)
 (.seq (.reg [⟨0, (some 4), .mv (.con (.int .i64 0)), none, []⟩])
 (.ret))
 (.seq (.reg [⟨0, (some 25), .mv (.tmp 5), none, []⟩,
 ⟨1, (some 26), .bin .eql 3 true (.tmp 25) (.con (.int .i64 1)), none, []⟩,
 ⟨2, (some 24), .mv (.tmp 26), none, []⟩])
 (.cond (.tmp 24)
 (.seq (.reg [⟨0, (some 27), .mv (.tmp 0), none, []⟩,
 ⟨1, (some 28), .mv (.tmp 1), none, []⟩,
 ⟨2, (some 29), .idxS 9 (.tmp 28) (.con (.int .i64 0)), none, []⟩,
 ⟨3, (some 30), .call 94 [(.tmp 27), (.tmp 29)], none, []⟩,
 ⟨4, (some 4), .mv (.tmp 30), none, []⟩])
 (.ret))
 (.seq (.reg [⟨0, (some 32), .mv (.tmp 5), none, []⟩,
 ⟨1, (some 33), .mv (.tmp 0), none, []⟩,
 ⟨2, (some 34), .bi .len [9] 3 [(.tmp 33)], none, []⟩,
 ⟨3, (some 35), .bin .geq 3 false (.tmp 32) (.tmp 34), none, []⟩,
 ⟨4, (some 31), .mv (.tmp 35), none, []⟩])
 (.cond (.tmp 31)
 (.seq (.reg [⟨0, (some 4), .mv (.con (.int .i64 (-1))), none, []⟩])
 (.ret))
 (.seq (.reg [⟨0, (some 37), .mv (.tmp 5), none, []⟩,
 ⟨1, (some 38), .load none (.glo 2), none, []⟩,
 ⟨2, (some 39), .bin .leq 3 false (.tmp 37) (.tmp 38), none, []⟩,
 ⟨3, (some 40), .mv (.tmp 39), none, []⟩,
 ⟨4, (some 41), .mv (.tmp 0), (some (40, true)), []⟩,
 ⟨5, (some 42), .bi .len [9] 3 [(.tmp 41)], (some (40, true)), []⟩,
 ⟨6, (some 43), .bin .leq 3 true (.tmp 42) (.con (.int .i64 64)), (some (40, true)), []⟩,
 ⟨7, (some 44), .pick (.tmp 40) (.tmp 43) (.con (.bool false)), none, []⟩,
 ⟨8, (some 36), .mv (.tmp 44), none, []⟩])
 (.cond (.tmp 36)
 (.seq (.reg [⟨0, (some 45), .mv (.tmp 0), none, []⟩,
 ⟨1, (some 46), .mv (.tmp 1), none, []⟩,
 ⟨2, (some 47), .call 95 [(.tmp 45), (.tmp 46)], none, []⟩,
 ⟨3, (some 4), .mv (.tmp 47), none, []⟩])
 (.ret))
 (.skip))))))))))
 (.seq (.reg [⟨0, (some 48), .mv (.tmp 1), none, []⟩,
 ⟨1, (some 49), .idxS 9 (.tmp 48) (.con (.int .i64 0)), none, []⟩,
 ⟨2, (some 6), .mv (.tmp 49), none, []⟩])
 (.seq (.reg [⟨0, (some 50), .mv (.tmp 1), none, []⟩,
 ⟨1, (some 51), .idxS 9 (.tmp 50) (.con (.int .i64 1)), none, []⟩,
 ⟨2, (some 7), .mv (.tmp 51), none, []⟩])
 (.seq (.reg [⟨0, (some 8), .mv (.con (.int .i64 0)), none, []⟩])
 (.seq (.reg [⟨0, (some 52), .mv (.tmp 0), none, []⟩,
 ⟨1, (some 53), .bi .len [9] 3 [(.tmp 52)], none, []⟩,
 ⟨2, (some 54), .mv (.tmp 5), none, []⟩,
 ⟨3, (some 55), .bin .sub 3 false (.tmp 53) (.tmp 54), none, []⟩,
 ⟨4, (some 56), .bin .add 3 true (.tmp 55) (.con (.int .i64 1)), none, []⟩,
 ⟨5, (some 9), .mv (.tmp 56), none, []⟩])
 (.seq (.reg [⟨0, (some 10), .mv (.con (.int .i64 0)), none, []⟩])
 (.seq (.block 1
 (.loop
 (.seq (.seq (.reg [⟨0, (some 57), .mv (.tmp 8), none, []⟩,
 ⟨1, (some 58), .mv (.tmp 9), none, []⟩,
 ⟨2, (some 59), .bin .lss 3 false (.tmp 57) (.tmp 58), none, []⟩])
 (.cond (.tmp 59)
 (.skip)
 (.exit 1)))
 (.block 2
 (.seq (.seq (.reg [⟨0, (some 60), .mv (.tmp 0), none, []⟩,
 ⟨1, (some 61), .mv (.tmp 8), none, []⟩,
 ⟨2, (some 62), .idxS 9 (.tmp 60) (.tmp 61), none, []⟩,
 ⟨3, (some 63), .mv (.tmp 6), none, []⟩,
 ⟨4, (some 64), .bin .neq 5 false (.tmp 62) (.tmp 63), none, []⟩])
 (.cond (.tmp 64)
 (.seq (.reg [⟨0, (some 65), .mv (.tmp 0), none, []⟩,
 ⟨1, (some 66), .mv (.tmp 8), none, []⟩,
 ⟨2, (some 67), .bin .add 3 true (.tmp 66) (.con (.int .i64 1)), none, []⟩,
 ⟨3, (some 68), .mv (.tmp 9), none, []⟩,
 ⟨4, (some 69), .slS 9 (.tmp 65) (some (.tmp 67)) (some (.tmp 68)), none, []⟩,
 ⟨5, (some 70), .mv (.tmp 6), none, []⟩,
 ⟨6, (some 71), .call 94 [(.tmp 69), (.tmp 70)], none, []⟩,
 ⟨7, (some 11), .mv (.tmp 71), none, []⟩])
 (.seq (.seq (.reg [⟨0, (some 72), .mv (.tmp 11), none, []⟩,
 ⟨1, (some 73), .bin .lss 3 true (.tmp 72) (.con (.int .i64 0)), none, []⟩])
 (.cond (.tmp 73)
 (.seq (.reg [⟨0, (some 4), .mv (.con (.int .i64 (-1))), none, []⟩])
 (.ret))
 (.skip)))
 (.reg [⟨0, (some 74), .mv (.tmp 8), none, []⟩,
 ⟨1, (some 75), .mv (.tmp 11), none, []⟩,
 ⟨2, (some 76), .bin .add 3 true (.tmp 75) (.con (.int .i64 1)), none, []⟩,
 ⟨3, (some 77), .bin .add 3 false (.tmp 74) (.tmp 76), none, []⟩,
 ⟨4, (some 8), .mv (.tmp 77), none, []⟩])))
 (.skip)))
 (.seq (.seq (.reg [⟨0, (some 78), .mv (.tmp 0), none, []⟩,
 ⟨1, (some 79), .mv (.tmp 8), none, []⟩,
 ⟨2, (some 80), .bin .add 3 true (.tmp 79) (.con (.int .i64 1)), none, []⟩,
 ⟨3, (some 81), .idxS 9 (.tmp 78) (.tmp 80), none, []⟩,
 ⟨4, (some 82), .mv (.tmp 7), none, []⟩,
 ⟨5, (some 83), .bin .eql 5 false (.tmp 81) (.tmp 82), none, []⟩,
 ⟨6, (some 84), .mv (.tmp 83), none, []⟩,
 ⟨7, (some 85), .mv (.tmp 0), (some (84, true)), []⟩,
 ⟨8, (some 86), .mv (.tmp 8), (some (84, true)), []⟩,
 ⟨9, (some 87), .mv (.tmp 8), (some (84, true)), []⟩,
 ⟨10, (some 88), .mv (.tmp 5), (some (84, true)), []⟩,
 ⟨11, (some 89), .bin .add 3 false (.tmp 87) (.tmp 88), (some (84, true)), []⟩,
 ⟨12, (some 90), .slS 9 (.tmp 85) (some (.tmp 86)) (some (.tmp 89)), (some (84, true)), []⟩,
 ⟨13, (some 91), .mv (.tmp 1), (some (84, true)), []⟩,
 ⟨14, (some 92), .bin .eql 9 false (.tmp 90) (.tmp 91), (some (84, true)), []⟩,
 ⟨15, (some 93), .pick (.tmp 84) (.tmp 92) (.con (.bool false)), none, []⟩])
 (.cond (.tmp 93)
 (.seq (.reg [⟨0, (some 94), .mv (.tmp 8), none, []⟩,
 ⟨1, (some 4), .mv (.tmp 94), none, []⟩])
 (.ret))
 (.skip)))
 (.seq (.reg [⟨0, (some 95), .mv (.tmp 8), none, []⟩,
 ⟨1, (some 96), .bin .add 3 true (.tmp 95) (.con (.int .i64 1)), none, []⟩,
 ⟨2, (some 8), .mv (.tmp 96), none, []⟩])
 (.seq (.reg [⟨0, (some 97), .mv (.tmp 10), none, []⟩,
 ⟨1, (some 98), .bin .add 3 true (.tmp 97) (.con (.int .i64 1)), none, []⟩,
 ⟨2, (some 10), .mv (.tmp 98), none, []⟩])
 (.seq (.reg [⟨0, (some 99), .mv (.tmp 5), none, []⟩,
 ⟨1, (some 100), .load none (.glo 2), none, []⟩,
 ⟨2, (some 101), .bin .leq 3 false (.tmp 99) (.tmp 100), none, []⟩,
 ⟨3, (some 102), .mv (.tmp 101), none, []⟩,
 ⟨4, (some 103), .mv (.tmp 10), (some (102, true)), []⟩,
 ⟨5, (some 104), .mv (.tmp 8), (some (102, true)), []⟩,
 ⟨6, (some 105), .call 96 [(.tmp 104)], (some (102, true)), []⟩,
 ⟨7, (some 106), .bin .gtr 3 false (.tmp 103) (.tmp 105), (some (102, true)), []⟩,
 ⟨8, (some 107), .pick (.tmp 102) (.tmp 106) (.con (.bool false)), none, []⟩])
 (.cond (.tmp 107)
 (.seq (.reg [⟨0, (some 108), .mv (.tmp 0), none, []⟩,
 ⟨1, (some 109), .mv (.tmp 8), none, []⟩,
 ⟨2, (some 110), .slS 9 (.tmp 108) (some (.tmp 109)) none, none, []⟩,
 ⟨3, (some 111), .mv (.tmp 1), none, []⟩,
 ⟨4, (some 112), .call 95 [(.tmp 110), (.tmp 111)], none, []⟩,
 ⟨5, (some 12), .mv (.tmp 112), none, []⟩])
 (.seq (.seq (.reg [⟨0, (some 113), .mv (.tmp 12), none, []⟩,
 ⟨1, (some 114), .bin .geq 3 true (.tmp 113) (.con (.int .i64 0)), none, []⟩])
 (.cond (.tmp 114)
 (.seq (.reg [⟨0, (some 115), .mv (.tmp 12), none, []⟩,
 ⟨1, (some 116), .mv (.tmp 8), none, []⟩,
 ⟨2, (some 117), .bin .add 3 false (.tmp 115) (.tmp 116), none, []⟩,
 ⟨3, (some 4), .mv (.tmp 117), none, []⟩])
 (.ret))
 (.skip)))
 (.seq (.reg [⟨0, (some 4), .mv (.con (.int .i64 (-1))), none, []⟩])
 (.ret))))
 (.seq (.reg [⟨0, (some 118), .mv (.tmp 5), none, []⟩,
 ⟨1, (some 119), .load none (.glo 2), none, []⟩,
 ⟨2, (some 120), .bin .gtr 3 false (.tmp 118) (.tmp 119), none, []⟩,
 ⟨3, (some 121), .mv (.tmp 120), none, []⟩,
 ⟨4, (some 122), .mv (.tmp 10), (some (121, true)), []⟩,
 ⟨5, (some 123), .mv (.tmp 8), (some (121, true)), []⟩,
 ⟨6, (some 124), .bin .shr 3 true (.tmp 123) (.con (.int .u64 4)), (some (121, true)), []⟩,
 ⟨7, (some 125), .bin .add 3 true (.con (.int .i64 4)) (.tmp 124), (some (121, true)), []⟩,
 ⟨8, (some 126), .bin .geq 3 false (.tmp 122) (.tmp 125), (some (121, true)), []⟩,
 ⟨9, (some 127), .pick (.tmp 121) (.tmp 126) (.con (.bool false)), none, []⟩,
 ⟨10, (some 128), .mv (.tmp 127), none, []⟩,
 ⟨11, (some 129), .mv (.tmp 8), (some (128, true)), []⟩,
 ⟨12, (some 130), .mv (.tmp 9), (some (128, true)), []⟩,
 ⟨13, (some 131), .bin .lss 3 false (.tmp 129) (.tmp 130), (some (128, true)), []⟩,
 ⟨14, (some 132), .pick (.tmp 128) (.tmp 131) (.con (.bool false)), none, []⟩])
 (.cond (.tmp 132)
 (.seq (.reg [⟨0, (some 133), .mv (.tmp 0), none, []⟩,
 ⟨1, (some 134), .mv (.tmp 8), none, []⟩,
 ⟨2, (some 135), .slS 9 (.tmp 133) (some (.tmp 134)) none, none, []⟩,
 ⟨3, (some 136), .mv (.tmp 1), none, []⟩,
 ⟨4, (some 137), .call 97 [(.tmp 135), (.tmp 136)], none, []⟩,
 ⟨5, (some 13), .mv (.tmp 137), none, []⟩])
 (.seq (.seq (.reg [⟨0, (some 138), .mv (.tmp 13), none, []⟩,
 ⟨1, (some 139), .bin .lss 3 true (.tmp 138) (.con (.int .i64 0)), none, []⟩])
 (.cond (.tmp 139)
 (.seq (.reg [⟨0, (some 4), .mv (.con (.int .i64 (-1))), none, []⟩])
 (.ret))
 (.skip)))
 (.seq (.reg [⟨0, (some 140), .mv (.tmp 8), none, []⟩,
 ⟨1, (some 141), .mv (.tmp 13), none, []⟩,
 ⟨2, (some 142), .bin .add 3 false (.tmp 140) (.tmp 141), none, []⟩,
 ⟨3, (some 4), .mv (.tmp 142), none, []⟩])
 (.ret))))
 (.skip)))))))))))))
 (.seq (.reg [⟨0, (some 4), .mv (.con (.int .i64 (-1))), none, []⟩])
 (.ret)))))))))),
 [.tmp 4]⟩
theorem p_internal_stringslite_Index : prepFun Go.Proofs.Tryd.prog [0, 3, 4] Go.Proofs.Tryd.f82 = some v_internal_stringslite_Index := by kernel_rfl

end Go.VX.Seat
end
section
set_option maxRecDepth 20000
/-! MADE BY PROGRAM (lits.py): functions as they are prepared. -/
namespace Go.VX.Seat
def v_internal_strconv_ParseUint : VFun :=
⟨.seq (.reg [⟨0, (some 6), .mv (.con (.int .u64 0)), none, []⟩,
 ⟨1, (some 7), .mv (.con .nilIface), none, []⟩])
 (.seq (.seq (.reg [⟨0, (some 18), .mv (.tmp 0), none, []⟩,
 ⟨1, (some 19), .bin .eql 9 true (.tmp 18) (.con (.string ⟨#[]⟩)), none, []⟩])
 (.cond (.tmp 19)
 (.seq (.reg [⟨0, (some 20), .mkif 105 (.con (.int .i64 2)), none, []⟩,
 ⟨1, (some 6), .mv (.con (.int .u64 0)), none, []⟩,
 ⟨2, (some 7), .mv (.tmp 20), none, []⟩])
 (.ret))
 (.skip)))
 (.seq (.reg [⟨0, (some 21), .mv (.tmp 1), none, []⟩,
 ⟨1, (some 22), .bin .eql 3 true (.tmp 21) (.con (.int .i64 0)), none, []⟩,
 ⟨2, (some 8), .mv (.tmp 22), none, []⟩])
 (.seq (.reg [⟨0, (some 23), .mv (.tmp 0), none, []⟩,
 ⟨1, (some 9), .mv (.tmp 23), none, []⟩])
 (.seq (.block 0
 (.seq (.reg [⟨0, (some 26), .mv (.tmp 1), none, []⟩,
 ⟨1, (some 27), .bin .leq 3 true (.con (.int .i64 2)) (.tmp 26), none, []⟩,
 ⟨2, (some 28), .mv (.tmp 27), none, []⟩,
 ⟨3, (some 29), .mv (.tmp 1), (some (28, true)), []⟩,
 ⟨4, (some 30), .bin .leq 3 true (.tmp 29) (.con (.int .i64 36)), (some (28, true)), []⟩,
 ⟨5, (some 31), .pick (.tmp 28) (.tmp 30) (.con (.bool false)), none, []⟩,
 ⟨6, (some 25), .mv (.tmp 31), none, []⟩])
 (.cond (.tmp 25)
 (.skip)
 (.seq (.reg [⟨0, (some 33), .mv (.tmp 1), none, []⟩,
 ⟨1, (some 34), .bin .eql 3 true (.tmp 33) (.con (.int .i64 0)), none, []⟩,
 ⟨2, (some 32), .mv (.tmp 34), none, []⟩])
 (.cond (.tmp 32)
 (.seq (.reg [⟨0, (some 1), .mv (.con (.int .i64 10)), none, []⟩])
 (.seq (.reg [⟨0, (some 35), .mv (.tmp 0), none, []⟩,
 ⟨1, (some 36), .idxS 9 (.tmp 35) (.con (.int .i64 0)), none, []⟩,
 ⟨2, (some 37), .bin .eql 5 true (.tmp 36) (.con (.int .u8 48)), none, []⟩])
 (.cond (.tmp 37)
 (.block 1
 (.seq (.reg [⟨0, (some 41), .mv (.tmp 0), none, []⟩,
 ⟨1, (some 42), .bi .len [9] 3 [(.tmp 41)], none, []⟩,
 ⟨2, (some 43), .bin .geq 3 true (.tmp 42) (.con (.int .i64 3)), none, []⟩,
 ⟨3, (some 44), .mv (.tmp 43), none, []⟩,
 ⟨4, (some 45), .mv (.tmp 0), (some (44, true)), []⟩,
 ⟨5, (some 46), .idxS 9 (.tmp 45) (.con (.int .i64 1)), (some (44, true)), []⟩,
 ⟨6, (some 47), .call 98 [(.tmp 46)], (some (44, true)), []⟩,
 ⟨7, (some 48), .bin .eql 5 true (.tmp 47) (.con (.int .u8 98)), (some (44, true)), []⟩,
 ⟨8, (some 49), .pick (.tmp 44) (.tmp 48) (.con (.bool false)), none, []⟩,
 ⟨9, (some 40), .mv (.tmp 49), none, []⟩])
 (.cond (.tmp 40)
 (.seq (.reg [⟨0, (some 1), .mv (.con (.int .i64 2)), none, []⟩])
 (.reg [⟨0, (some 50), .mv (.tmp 0), none, []⟩,
 ⟨1, (some 51), .slS 9 (.tmp 50) (some (.con (.int .i64 2))) none, none, []⟩,
 ⟨2, (some 0), .mv (.tmp 51), none, []⟩]))
 (.seq (.reg [⟨0, (some 53), .mv (.tmp 0), none, []⟩,
 ⟨1, (some 54), .bi .len [9] 3 [(.tmp 53)], none, []⟩,
 ⟨2, (some 55), .bin .geq 3 true (.tmp 54) (.con (.int .i64 3)), none, []⟩,
 ⟨3, (some 56), .mv (.tmp 55), none, []⟩,
 ⟨4, (some 57), .mv (.tmp 0), (some (56, true)), []⟩,
 ⟨5, (some 58), .idxS 9 (.tmp 57) (.con (.int .i64 1)), (some (56, true)), []⟩,
 ⟨6, (some 59), .call 98 [(.tmp 58)], (some (56, true)), []⟩,
 ⟨7, (some 60), .bin .eql 5 true (.tmp 59) (.con (.int .u8 111)), (some (56, true)), []⟩,
 ⟨8, (some 61), .pick (.tmp 56) (.tmp 60) (.con (.bool false)), none, []⟩,
 ⟨9, (some 52), .mv (.tmp 61), none, []⟩])
 (.cond (.tmp 52)
 (.seq (.reg [⟨0, (some 1), .mv (.con (.int .i64 8)), none, []⟩])
 (.reg [⟨0, (some 62), .mv (.tmp 0), none, []⟩,
 ⟨1, (some 63), .slS 9 (.tmp 62) (some (.con (.int .i64 2))) none, none, []⟩,
 ⟨2, (some 0), .mv (.tmp 63), none, []⟩]))
 (.seq (.reg [⟨0, (some 65), .mv (.tmp 0), none, []⟩,
 ⟨1, (some 66), .bi .len [9] 3 [(.tmp 65)], none, []⟩,
 ⟨2, (some 67), .bin .geq 3 true (.tmp 66) (.con (.int .i64 3)), none, []⟩,
 ⟨3, (some 68), .mv (.tmp 67), none, []⟩,
 ⟨4, (some 69), .mv (.tmp 0), (some (68, true)), []⟩,
 ⟨5, (some 70), .idxS 9 (.tmp 69) (.con (.int .i64 1)), (some (68, true)), []⟩,
 ⟨6, (some 71), .call 98 [(.tmp 70)], (some (68, true)), []⟩,
 ⟨7, (some 72), .bin .eql 5 true (.tmp 71) (.con (.int .u8 120)), (some (68, true)), []⟩,
 ⟨8, (some 73), .pick (.tmp 68) (.tmp 72) (.con (.bool false)), none, []⟩,
 ⟨9, (some 64), .mv (.tmp 73), none, []⟩])
 (.cond (.tmp 64)
 (.seq (.reg [⟨0, (some 1), .mv (.con (.int .i64 16)), none, []⟩])
 (.reg [⟨0, (some 74), .mv (.tmp 0), none, []⟩,
 ⟨1, (some 75), .slS 9 (.tmp 74) (some (.con (.int .i64 2))) none, none, []⟩,
 ⟨2, (some 0), .mv (.tmp 75), none, []⟩]))
 (.seq (.reg [⟨0, (some 1), .mv (.con (.int .i64 8)), none, []⟩])
 (.reg [⟨0, (some 38), .mv (.tmp 0), none, []⟩,
 ⟨1, (some 39), .slS 9 (.tmp 38) (some (.con (.int .i64 1))) none, none, []⟩,
 ⟨2, (some 0), .mv (.tmp 39), none, []⟩])))))))))
 (.skip))))
 (.seq (.reg [⟨0, (some 24), .mkif 105 (.con (.int .i64 3)), none, []⟩,
 ⟨1, (some 6), .mv (.con (.int .u64 0)), none, []⟩,
 ⟨2, (some 7), .mv (.tmp 24), none, []⟩])
 (.ret)))))))
 (.seq (.seq (.reg [⟨0, (some 76), .mv (.tmp 2), none, []⟩,
 ⟨1, (some 77), .bin .eql 3 true (.tmp 76) (.con (.int .i64 0)), none, []⟩])
 (.cond (.tmp 77)
 (.reg [⟨0, (some 2), .mv (.con (.int .i64 64)), none, []⟩])
 (.seq (.reg [⟨0, (some 78), .mv (.tmp 2), none, []⟩,
 ⟨1, (some 79), .bin .lss 3 true (.tmp 78) (.con (.int .i64 0)), none, []⟩,
 ⟨2, (some 80), .mv (.tmp 79), none, []⟩,
 ⟨3, (some 81), .mv (.tmp 2), (some (80, false)), []⟩,
 ⟨4, (some 82), .bin .gtr 3 true (.tmp 81) (.con (.int .i64 64)), (some (80, false)), []⟩,
 ⟨5, (some 83), .pick (.tmp 80) (.con (.bool true)) (.tmp 82), none, []⟩])
 (.cond (.tmp 83)
 (.seq (.reg [⟨0, (some 84), .mkif 105 (.con (.int .i64 4)), none, []⟩,
 ⟨1, (some 6), .mv (.con (.int .u64 0)), none, []⟩,
 ⟨2, (some 7), .mv (.tmp 84), none, []⟩])
 (.ret))
 (.skip)))))
 (.seq (.reg [⟨0, (some 10), .mv (.con (.int .u64 0)), none, []⟩])
 (.seq (.seq (.reg [⟨0, (some 85), .mv (.tmp 1), none, []⟩])
 (.block 2
 (.seq (.reg [⟨0, (some 91), .bin .eql 3 true (.tmp 85) (.con (.int .i64 10)), none, []⟩,
 ⟨1, (some 90), .mv (.tmp 91), none, []⟩])
 (.cond (.tmp 90)
 (.reg [⟨0, (some 10), .mv (.con (.int .u64 1844674407370955162)), none, []⟩])
 (.seq (.reg [⟨0, (some 93), .bin .eql 3 true (.tmp 85) (.con (.int .i64 16)), none, []⟩,
 ⟨1, (some 92), .mv (.tmp 93), none, []⟩])
 (.cond (.tmp 92)
 (.reg [⟨0, (some 10), .mv (.con (.int .u64 1152921504606846976)), none, []⟩])
 (.reg [⟨0, (some 86), .mv (.tmp 1), none, []⟩,
 ⟨1, (some 87), .conv 3 115 (.tmp 86), none, []⟩,
 ⟨2, (some 88), .bin .quo 115 true (.con (.int .u64 18446744073709551615)) (.tmp 87), none, []⟩,
 ⟨3, (some 89), .bin .add 115 true (.tmp 88) (.con (.int .u64 1)), none, []⟩,
 ⟨4, (some 10), .mv (.tmp 89), none, []⟩])))))))
 (.seq (.reg [⟨0, (some 94), .mv (.tmp 2), none, []⟩,
 ⟨1, (some 95), .conv 3 125 (.tmp 94), none, []⟩,
 ⟨2, (some 96), .bin .shl 115 true (.con (.int .u64 1)) (.tmp 95), none, []⟩,
 ⟨3, (some 97), .bin .sub 115 true (.tmp 96) (.con (.int .u64 1)), none, []⟩,
 ⟨4, (some 11), .mv (.tmp 97), none, []⟩])
 (.seq (.reg [⟨0, (some 12), .mv (.con (.bool false)), none, []⟩])
 (.seq (.reg [⟨0, (some 13), .mv (.con (.int .u64 0)), none, []⟩])
 (.seq (.seq (.reg [⟨0, (some 98), .mv (.tmp 0), none, []⟩,
 ⟨1, (some 99), .s2b (.tmp 98), none, []⟩,
 ⟨2, (some 100), .len (.tmp 99), none, []⟩,
 ⟨3, (some 101), .mv (.con (.int .i64 0)), none, []⟩])
 (.block 3
 (.loop
 (.seq (.reg [⟨0, (some 102), .bin .lss 3 false (.tmp 101) (.tmp 100), none, []⟩])
 (.seq (.cond (.tmp 102)
 (.skip)
 (.exit 3))
 (.seq (.block 4
 (.seq (.reg [⟨0, (some 103), .idxA none 1 (.tmp 99) (.tmp 101), none, []⟩,
 ⟨1, (some 104), .load none (.tmp 103), none, []⟩,
 ⟨2, (some 15), .mv (.tmp 104), none, []⟩])
 (.seq (.reg [⟨0, (some 16), .mv (.con (.int .u8 0)), none, []⟩])
 (.seq (.block 5
 (.seq (.reg [⟨0, (some 107), .mv (.tmp 15), none, []⟩,
 ⟨1, (some 108), .bin .eql 5 true (.tmp 107) (.con (.int .u8 95)), none, []⟩,
 ⟨2, (some 109), .mv (.tmp 108), none, []⟩,
 ⟨3, (some 110), .mv (.tmp 8), (some (109, true)), []⟩,
 ⟨4, (some 111), .pick (.tmp 109) (.tmp 110) (.con (.bool false)), none, []⟩,
 ⟨5, (some 106), .mv (.tmp 111), none, []⟩])
 (.cond (.tmp 106)
 (.seq (.reg [⟨0, (some 12), .mv (.con (.bool true)), none, []⟩])
 (.exit 4))
 (.seq (.reg [⟨0, (some 113), .mv (.tmp 15), none, []⟩,
 ⟨1, (some 114), .bin .leq 5 true (.con (.int .u8 48)) (.tmp 113), none, []⟩,
 ⟨2, (some 115), .mv (.tmp 114), none, []⟩,
 ⟨3, (some 116), .mv (.tmp 15), (some (115, true)), []⟩,
 ⟨4, (some 117), .bin .leq 5 true (.tmp 116) (.con (.int .u8 57)), (some (115, true)), []⟩,
 ⟨5, (some 118), .pick (.tmp 115) (.tmp 117) (.con (.bool false)), none, []⟩,
 ⟨6, (some 112), .mv (.tmp 118), none, []⟩])
 (.cond (.tmp 112)
 (.reg [⟨0, (some 119), .mv (.tmp 15), none, []⟩,
 ⟨1, (some 120), .bin .sub 5 true (.tmp 119) (.con (.int .u8 48)), none, []⟩,
 ⟨2, (some 16), .mv (.tmp 120), none, []⟩])
 (.seq (.reg [⟨0, (some 122), .mv (.tmp 15), none, []⟩,
 ⟨1, (some 123), .call 98 [(.tmp 122)], none, []⟩,
 ⟨2, (some 124), .bin .leq 5 true (.con (.int .u8 97)) (.tmp 123), none, []⟩,
 ⟨3, (some 125), .mv (.tmp 124), none, []⟩,
 ⟨4, (some 126), .mv (.tmp 15), (some (125, true)), []⟩,
 ⟨5, (some 127), .call 98 [(.tmp 126)], (some (125, true)), []⟩,
 ⟨6, (some 128), .bin .leq 5 true (.tmp 127) (.con (.int .u8 122)), (some (125, true)), []⟩,
 ⟨7, (some 129), .pick (.tmp 125) (.tmp 128) (.con (.bool false)), none, []⟩,
 ⟨8, (some 121), .mv (.tmp 129), none, []⟩])
 (.cond (.tmp 121)
 (.reg [⟨0, (some 130), .mv (.tmp 15), none, []⟩,
 ⟨1, (some 131), .call 98 [(.tmp 130)], none, []⟩,
 ⟨2, (some 132), .bin .sub 5 true (.tmp 131) (.con (.int .u8 97)), none, []⟩,
 ⟨3, (some 133), .bin .add 5 true (.tmp 132) (.con (.int .u8 10)), none, []⟩,
 ⟨4, (some 16), .mv (.tmp 133), none, []⟩])
 (.seq (.reg [⟨0, (some 105), .mkif 105 (.con (.int .i64 2)), none, []⟩,
 ⟨1, (some 6), .mv (.con (.int .u64 0)), none, []⟩,
 ⟨2, (some 7), .mv (.tmp 105), none, []⟩])
 (.ret)))))))))
 (.seq (.seq (.reg [⟨0, (some 134), .mv (.tmp 16), none, []⟩,
 ⟨1, (some 135), .mv (.tmp 1), none, []⟩,
 ⟨2, (some 136), .conv 3 5 (.tmp 135), none, []⟩,
 ⟨3, (some 137), .bin .geq 5 false (.tmp 134) (.tmp 136), none, []⟩])
 (.cond (.tmp 137)
 (.seq (.reg [⟨0, (some 138), .mkif 105 (.con (.int .i64 2)), none, []⟩,
 ⟨1, (some 6), .mv (.con (.int .u64 0)), none, []⟩,
 ⟨2, (some 7), .mv (.tmp 138), none, []⟩])
 (.ret))
 (.skip)))
 (.seq (.seq (.reg [⟨0, (some 139), .mv (.tmp 13), none, []⟩,
 ⟨1, (some 140), .mv (.tmp 10), none, []⟩,
 ⟨2, (some 141), .bin .geq 115 false (.tmp 139) (.tmp 140), none, []⟩])
 (.cond (.tmp 141)
 (.seq (.reg [⟨0, (some 142), .mv (.tmp 11), none, []⟩,
 ⟨1, (some 143), .mkif 105 (.con (.int .i64 1)), none, []⟩,
 ⟨2, (some 6), .mv (.tmp 142), none, []⟩,
 ⟨3, (some 7), .mv (.tmp 143), none, []⟩])
 (.ret))
 (.skip)))
 (.seq (.reg [⟨0, (some 144), .mv (.tmp 13), none, []⟩,
 ⟨1, (some 145), .mv (.tmp 1), none, []⟩,
 ⟨2, (some 146), .conv 3 115 (.tmp 145), none, []⟩,
 ⟨3, (some 147), .bin .mul 115 false (.tmp 144) (.tmp 146), none, []⟩,
 ⟨4, (some 13), .mv (.tmp 147), none, []⟩])
 (.seq (.reg [⟨0, (some 148), .mv (.tmp 13), none, []⟩,
 ⟨1, (some 149), .mv (.tmp 16), none, []⟩,
 ⟨2, (some 150), .conv 5 115 (.tmp 149), none, []⟩,
 ⟨3, (some 151), .bin .add 115 false (.tmp 148) (.tmp 150), none, []⟩,
 ⟨4, (some 17), .mv (.tmp 151), none, []⟩])
 (.seq (.seq (.reg [⟨0, (some 152), .mv (.tmp 17), none, []⟩,
 ⟨1, (some 153), .mv (.tmp 13), none, []⟩,
 ⟨2, (some 154), .bin .lss 115 false (.tmp 152) (.tmp 153), none, []⟩,
 ⟨3, (some 155), .mv (.tmp 154), none, []⟩,
 ⟨4, (some 156), .mv (.tmp 17), (some (155, false)), []⟩,
 ⟨5, (some 157), .mv (.tmp 11), (some (155, false)), []⟩,
 ⟨6, (some 158), .bin .gtr 115 false (.tmp 156) (.tmp 157), (some (155, false)), []⟩,
 ⟨7, (some 159), .pick (.tmp 155) (.con (.bool true)) (.tmp 158), none, []⟩])
 (.cond (.tmp 159)
 (.seq (.reg [⟨0, (some 160), .mv (.tmp 11), none, []⟩,
 ⟨1, (some 161), .mkif 105 (.con (.int .i64 1)), none, []⟩,
 ⟨2, (some 6), .mv (.tmp 160), none, []⟩,
 ⟨3, (some 7), .mv (.tmp 161), none, []⟩])
 (.ret))
 (.skip)))
 (.reg [⟨0, (some 162), .mv (.tmp 17), none, []⟩,
 ⟨1, (some 13), .mv (.tmp 162), none, []⟩]))))))))))
 (.reg [⟨0, (some 163), .bin .add 3 true (.tmp 101) (.con (.int .i64 1)), none, []⟩,
 ⟨1, (some 101), .mv (.tmp 163), none, []⟩])))))))
 (.seq (.seq (.reg [⟨0, (some 164), .mv (.tmp 12), none, []⟩,
 ⟨1, (some 165), .mv (.tmp 164), none, []⟩,
 ⟨2, (some 166), .mv (.tmp 9), (some (165, true)), []⟩,
 ⟨3, (some 167), .call 99 [(.tmp 166)], (some (165, true)), []⟩,
 ⟨4, (some 168), .un .not (.tmp 167), (some (165, true)), []⟩,
 ⟨5, (some 169), .pick (.tmp 165) (.tmp 168) (.con (.bool false)), none, []⟩])
 (.cond (.tmp 169)
 (.seq (.reg [⟨0, (some 170), .mkif 105 (.con (.int .i64 2)), none, []⟩,
 ⟨1, (some 6), .mv (.con (.int .u64 0)), none, []⟩,
 ⟨2, (some 7), .mv (.tmp 170), none, []⟩])
 (.ret))
 (.skip)))
 (.seq (.reg [⟨0, (some 171), .mv (.tmp 13), none, []⟩,
 ⟨1, (some 6), .mv (.tmp 171), none, []⟩,
 ⟨2, (some 7), .mv (.con .nilIface), none, []⟩])
 (.ret)))))))))))))),
 [.tmp 6, .tmp 7]⟩
theorem p_internal_strconv_ParseUint : prepFun Go.Proofs.Tryd.prog [0, 3, 4] Go.Proofs.Tryd.f83 = some v_internal_strconv_ParseUint := by kernel_rfl

def v_errors_New : VFun :=
⟨.seq (.reg [⟨0, (some 2), .mv (.con .nilIface), none, []⟩])
 (.seq (.reg [⟨0, (some 3), .mv (.tmp 0), none, []⟩,
 ⟨1, (some 4), .build [(.string ⟨#[]⟩)] [(0, 1, (.tmp 3))], none, []⟩,
 ⟨2, (some 5), .box (.tmp 4), none, []⟩,
 ⟨3, (some 6), .mkif 141 (.tmp 5), none, []⟩,
 ⟨4, (some 2), .mv (.tmp 6), none, []⟩])
 (.ret)),
 [.tmp 2]⟩
theorem p_errors_New : prepFun Go.Proofs.Tryd.prog [0, 3, 4] Go.Proofs.Tryd.f85 = some v_errors_New := by kernel_rfl

def v_internal_strconv_log10Pow2 : VFun :=
⟨.seq (.reg [⟨0, (some 2), .mv (.con (.int .i64 0)), none, []⟩])
 (.seq (.reg [⟨0, (some 3), .mv (.tmp 0), none, []⟩,
 ⟨1, (some 4), .bin .mul 3 true (.tmp 3) (.con (.int .i64 78913)), none, []⟩,
 ⟨2, (some 5), .bin .shr 3 true (.tmp 4) (.con (.int .u64 18)), none, []⟩,
 ⟨3, (some 2), .mv (.tmp 5), none, []⟩])
 (.ret)),
 [.tmp 2]⟩
theorem p_internal_strconv_log10Pow2 : prepFun Go.Proofs.Tryd.prog [0, 3, 4] Go.Proofs.Tryd.f88 = some v_internal_strconv_log10Pow2 := by kernel_rfl

def v_math_bits_Len64 : VFun :=
⟨.seq (.reg [⟨0, (some 2), .mv (.con (.int .i64 0)), none, []⟩])
 (.seq (.seq (.reg [⟨0, (some 3), .mv (.tmp 0), none, []⟩,
 ⟨1, (some 4), .bin .geq 115 true (.tmp 3) (.con (.int .u64 4294967296)), none, []⟩])
 (.cond (.tmp 4)
 (.seq (.reg [⟨0, (some 5), .mv (.tmp 0), none, []⟩,
 ⟨1, (some 6), .bin .shr 115 true (.tmp 5) (.con (.int .u64 32)), none, []⟩,
 ⟨2, (some 0), .mv (.tmp 6), none, []⟩])
 (.reg [⟨0, (some 2), .mv (.con (.int .i64 32)), none, []⟩]))
 (.skip)))
 (.seq (.seq (.reg [⟨0, (some 7), .mv (.tmp 0), none, []⟩,
 ⟨1, (some 8), .bin .geq 115 true (.tmp 7) (.con (.int .u64 65536)), none, []⟩])
 (.cond (.tmp 8)
 (.seq (.reg [⟨0, (some 9), .mv (.tmp 0), none, []⟩,
 ⟨1, (some 10), .bin .shr 115 true (.tmp 9) (.con (.int .u64 16)), none, []⟩,
 ⟨2, (some 0), .mv (.tmp 10), none, []⟩])
 (.reg [⟨0, (some 11), .mv (.tmp 2), none, []⟩,
 ⟨1, (some 12), .bin .add 3 true (.tmp 11) (.con (.int .i64 16)), none, []⟩,
 ⟨2, (some 2), .mv (.tmp 12), none, []⟩]))
 (.skip)))
 (.seq (.seq (.reg [⟨0, (some 13), .mv (.tmp 0), none, []⟩,
 ⟨1, (some 14), .bin .geq 115 true (.tmp 13) (.con (.int .u64 256)), none, []⟩])
 (.cond (.tmp 14)
 (.seq (.reg [⟨0, (some 15), .mv (.tmp 0), none, []⟩,
 ⟨1, (some 16), .bin .shr 115 true (.tmp 15) (.con (.int .u64 8)), none, []⟩,
 ⟨2, (some 0), .mv (.tmp 16), none, []⟩])
 (.reg [⟨0, (some 17), .mv (.tmp 2), none, []⟩,
 ⟨1, (some 18), .bin .add 3 true (.tmp 17) (.con (.int .i64 8)), none, []⟩,
 ⟨2, (some 2), .mv (.tmp 18), none, []⟩]))
 (.skip)))
 (.seq (.reg [⟨0, (some 19), .mv (.tmp 2), none, []⟩,
 ⟨1, (some 20), .mv (.tmp 0), none, []⟩,
 ⟨2, (some 21), .conv 115 5 (.tmp 20), none, []⟩,
 ⟨3, (some 22), .idxS 9 (.con (.string ⟨#[0, 1, 2, 2, 3, 3, 3, 3, 4, 4, 4, 4, 4, 4, 4, 4, 5, 5, 5, 5, 5, 5, 5, 5, 5, 5, 5, 5, 5, 5, 5, 5, 6, 6, 6, 6, 6, 6, 6, 6, 6, 6, 6, 6, 6, 6, 6, 6, 6, 6, 6, 6, 6, 6, 6, 6, 6, 6, 6, 6, 6, 6, 6, 6, 7, 7, 7, 7, 7, 7, 7, 7, 7, 7, 7, 7, 7, 7, 7, 7, 7, 7, 7, 7, 7, 7, 7, 7, 7, 7, 7, 7, 7, 7, 7, 7, 7, 7, 7, 7, 7, 7, 7, 7, 7, 7, 7, 7, 7, 7, 7, 7, 7, 7, 7, 7, 7, 7, 7, 7, 7, 7, 7, 7, 7, 7, 7, 7, 8, 8, 8, 8, 8, 8, 8, 8, 8, 8, 8, 8, 8, 8, 8, 8, 8, 8, 8, 8, 8, 8, 8, 8, 8, 8, 8, 8, 8, 8, 8, 8, 8, 8, 8, 8, 8, 8, 8, 8, 8, 8, 8, 8, 8, 8, 8, 8, 8, 8, 8, 8, 8, 8, 8, 8, 8, 8, 8, 8, 8, 8, 8, 8, 8, 8, 8, 8, 8, 8, 8, 8, 8, 8, 8, 8, 8, 8, 8, 8, 8, 8, 8, 8, 8, 8, 8, 8, 8, 8, 8, 8, 8, 8, 8, 8, 8, 8, 8, 8, 8, 8, 8, 8, 8, 8, 8, 8, 8, 8, 8, 8, 8, 8, 8, 8, 8, 8, 8, 8, 8, 8, 8, 8, 8, 8, 8, 8]⟩)) (.tmp 21), none, []⟩,
 ⟨4, (some 23), .conv 5 3 (.tmp 22), none, []⟩,
 ⟨5, (some 24), .bin .add 3 false (.tmp 19) (.tmp 23), none, []⟩,
 ⟨6, (some 2), .mv (.tmp 24), none, []⟩])
 (.ret))))),
 [.tmp 2]⟩
theorem p_math_bits_Len64 : prepFun Go.Proofs.Tryd.prog [0, 3, 4] Go.Proofs.Tryd.f89 = some v_math_bits_Len64 := by kernel_rfl

def v_internal_strconv_bool2_int : VFun :=
⟨.seq (.reg [⟨0, (some 2), .mv (.con (.int .i64 0)), none, []⟩])
 (.seq (.seq (.reg [⟨0, (some 3), .mv (.tmp 0), none, []⟩])
 (.cond (.tmp 3)
 (.seq (.reg [⟨0, (some 2), .mv (.con (.int .i64 1)), none, []⟩])
 (.ret))
 (.skip)))
 (.seq (.reg [⟨0, (some 2), .mv (.con (.int .i64 0)), none, []⟩])
 (.ret))),
 [.tmp 2]⟩
theorem p_internal_strconv_bool2_int : prepFun Go.Proofs.Tryd.prog [0, 3, 4] Go.Proofs.Tryd.f90 = some v_internal_strconv_bool2_int := by kernel_rfl

def v_internal_strconv_isPowerOfTwo : VFun :=
⟨.seq (.reg [⟨0, (some 2), .mv (.con (.bool false)), none, []⟩])
 (.seq (.reg [⟨0, (some 3), .mv (.tmp 0), none, []⟩,
 ⟨1, (some 4), .mv (.tmp 0), none, []⟩,
 ⟨2, (some 5), .bin .sub 3 true (.tmp 4) (.con (.int .i64 1)), none, []⟩,
 ⟨3, (some 6), .bin .and 3 false (.tmp 3) (.tmp 5), none, []⟩,
 ⟨4, (some 7), .bin .eql 3 true (.tmp 6) (.con (.int .i64 0)), none, []⟩,
 ⟨5, (some 2), .mv (.tmp 7), none, []⟩])
 (.ret)),
 [.tmp 2]⟩
theorem p_internal_strconv_isPowerOfTwo : prepFun Go.Proofs.Tryd.prog [0, 3, 4] Go.Proofs.Tryd.f91 = some v_internal_strconv_isPowerOfTwo := by kernel_rfl

def v_math_bits_TrailingZeros : VFun :=
⟨.seq (.reg [⟨0, (some 2), .mv (.con (.int .i64 0)), none, []⟩])
 (.seq (.cond (.con (.bool false))
 (.seq (.reg [⟨0, (some 3), .mv (.tmp 0), none, []⟩,
 ⟨1, (some 4), .conv 125 135 (.tmp 3), none, []⟩,
 ⟨2, (some 5), .call 100 [(.tmp 4)], none, []⟩,
 ⟨3, (some 2), .mv (.tmp 5), none, []⟩])
 (.ret))
 (.skip))
 (.seq (.reg [⟨0, (some 6), .mv (.tmp 0), none, []⟩,
 ⟨1, (some 7), .call 101 [(.tmp 6)], none, []⟩,
 ⟨2, (some 2), .mv (.tmp 7), none, []⟩])
 (.ret))),
 [.tmp 2]⟩
theorem p_math_bits_TrailingZeros : prepFun Go.Proofs.Tryd.prog [0, 3, 4] Go.Proofs.Tryd.f92 = some v_math_bits_TrailingZeros := by kernel_rfl

def v_internal_stringslite_IndexByte : VFun :=
⟨.seq (.reg [⟨0, (some 4), .mv (.con (.int .i64 0)), none, []⟩])
 (.seq (.reg [⟨0, (some 5), .mv (.tmp 0), none, []⟩,
 ⟨1, (some 6), .mv (.tmp 1), none, []⟩,
 ⟨2, (some 7), .call 102 [(.tmp 5), (.tmp 6)], none, []⟩,
 ⟨3, (some 4), .mv (.tmp 7), none, []⟩])
 (.ret)),
 [.tmp 4]⟩
theorem p_internal_stringslite_IndexByte : prepFun Go.Proofs.Tryd.prog [0, 3, 4] Go.Proofs.Tryd.f94 = some v_internal_stringslite_IndexByte := by kernel_rfl

def v_internal_bytealg_Cutover : VFun :=
⟨.seq (.reg [⟨0, (some 2), .mv (.con (.int .i64 0)), none, []⟩])
 (.seq (.reg [⟨0, (some 3), .mv (.tmp 0), none, []⟩,
 ⟨1, (some 4), .bin .add 3 true (.tmp 3) (.con (.int .i64 16)), none, []⟩,
 ⟨2, (some 5), .bin .quo 3 true (.tmp 4) (.con (.int .i64 8)), none, []⟩,
 ⟨3, (some 2), .mv (.tmp 5), none, []⟩])
 (.ret)),
 [.tmp 2]⟩
theorem p_internal_bytealg_Cutover : prepFun Go.Proofs.Tryd.prog [0, 3, 4] Go.Proofs.Tryd.f96 = some v_internal_bytealg_Cutover := by kernel_rfl

def v_internal_bytealg_IndexRabinKarp_string : VFun :=
⟨.seq (.reg [⟨0, (some 4), .mv (.con (.int .i64 0)), none, []⟩])
 (.seq (.reg [⟨0, (some 12), .mv (.tmp 1), none, []⟩,
 ⟨1, (some 13), .call 103 [(.tmp 12)], none, []⟩,
 ⟨2, (some 11), .mv (.tmp 13), none, []⟩,
 ⟨3, (some 14), .ext (.tmp 11) 0, none, []⟩,
 ⟨4, (some 15), .ext (.tmp 11) 1, none, []⟩,
 ⟨5, (some 5), .mv (.tmp 14), none, []⟩,
 ⟨6, (some 6), .mv (.tmp 15), none, []⟩])
 (.seq (.reg [⟨0, (some 16), .mv (.tmp 1), none, []⟩,
 ⟨1, (some 17), .bi .len [9] 3 [(.tmp 16)], none, []⟩,
 ⟨2, (some 7), .mv (.tmp 17), none, []⟩])
 (.seq (.reg [⟨0, (some 8), .mv (.con (.int .u32 0)), none, []⟩])
 (.seq (.seq (.reg [⟨0, (some 9), .mv (.con (.int .i64 0)), none, []⟩])
 (.block 0
 (.loop
 (.seq (.seq (.reg [⟨0, (some 18), .mv (.tmp 9), none, []⟩,
 ⟨1, (some 19), .mv (.tmp 7), none, []⟩,
 ⟨2, (some 20), .bin .lss 3 false (.tmp 18) (.tmp 19), none, []⟩])
 (.cond (.tmp 20)
 (.skip)
 (.exit 0)))
 (.seq (.block 1
 (.reg [⟨0, (some 23), .mv (.tmp 8), none, []⟩,
 ⟨1, (some 24), .bin .mul 135 true (.tmp 23) (.con (.int .u32 16777619)), none, []⟩,
 ⟨2, (some 25), .mv (.tmp 0), none, []⟩,
 ⟨3, (some 26), .mv (.tmp 9), none, []⟩,
 ⟨4, (some 27), .idxS 9 (.tmp 25) (.tmp 26), none, []⟩,
 ⟨5, (some 28), .conv 5 135 (.tmp 27), none, []⟩,
 ⟨6, (some 29), .bin .add 135 false (.tmp 24) (.tmp 28), none, []⟩,
 ⟨7, (some 8), .mv (.tmp 29), none, []⟩]))
 (.reg [⟨0, (some 21), .mv (.tmp 9), none, []⟩,
 ⟨1, (some 22), .bin .add 3 true (.tmp 21) (.con (.int .i64 1)), none, []⟩,
 ⟨2, (some 9), .mv (.tmp 22), none, []⟩]))))))
 (.seq (.seq (.reg [⟨0, (some 30), .mv (.tmp 8), none, []⟩,
 ⟨1, (some 31), .mv (.tmp 5), none, []⟩,
 ⟨2, (some 32), .bin .eql 135 false (.tmp 30) (.tmp 31), none, []⟩,
 ⟨3, (some 33), .mv (.tmp 32), none, []⟩,
 ⟨4, (some 34), .mv (.tmp 0), (some (33, true)), []⟩,
 ⟨5, (some 35), .mv (.tmp 7), (some (33, true)), []⟩,
 ⟨6, (some 36), .slS 9 (.tmp 34) none (some (.tmp 35)), (some (33, true)), []⟩,
 ⟨7, (some 37), .mv (.tmp 1), (some (33, true)), []⟩,
 ⟨8, (some 38), .bin .eql 9 false (.tmp 36) (.tmp 37), (some (33, true)), []⟩,
 ⟨9, (some 39), .pick (.tmp 33) (.tmp 38) (.con (.bool false)), none, []⟩])
 (.cond (.tmp 39)
 (.seq (.reg [⟨0, (some 4), .mv (.con (.int .i64 0)), none, []⟩])
 (.ret))
 (.skip)))
 (.seq (.seq (.reg [⟨0, (some 40), .mv (.tmp 7), none, []⟩,
 ⟨1, (some 10), .mv (.tmp 40), none, []⟩])
 (.block 2
 (.loop
 (.seq (.seq (.reg [⟨0, (some 41), .mv (.tmp 10), none, []⟩,
 ⟨1, (some 42), .mv (.tmp 0), none, []⟩,
 ⟨2, (some 43), .bi .len [9] 3 [(.tmp 42)], none, []⟩,
 ⟨3, (some 44), .bin .lss 3 false (.tmp 41) (.tmp 43), none, []⟩])
 (.cond (.tmp 44)
 (.skip)
 (.exit 2)))
 (.block 3
 (.seq (.reg [⟨0, (some 45), .mv (.tmp 8), none, []⟩,
 ⟨1, (some 46), .bin .mul 135 true (.tmp 45) (.con (.int .u32 16777619)), none, []⟩,
 ⟨2, (some 8), .mv (.tmp 46), none, []⟩])
 (.seq (.reg [⟨0, (some 47), .mv (.tmp 8), none, []⟩,
 ⟨1, (some 48), .mv (.tmp 0), none, []⟩,
 ⟨2, (some 49), .mv (.tmp 10), none, []⟩,
 ⟨3, (some 50), .idxS 9 (.tmp 48) (.tmp 49), none, []⟩,
 ⟨4, (some 51), .conv 5 135 (.tmp 50), none, []⟩,
 ⟨5, (some 52), .bin .add 135 false (.tmp 47) (.tmp 51), none, []⟩,
 ⟨6, (some 8), .mv (.tmp 52), none, []⟩])
 (.seq (.reg [⟨0, (some 53), .mv (.tmp 8), none, []⟩,
 ⟨1, (some 54), .mv (.tmp 6), none, []⟩,
 ⟨2, (some 55), .mv (.tmp 0), none, []⟩,
 ⟨3, (some 56), .mv (.tmp 10), none, []⟩,
 ⟨4, (some 57), .mv (.tmp 7), none, []⟩,
 ⟨5, (some 58), .bin .sub 3 false (.tmp 56) (.tmp 57), none, []⟩,
 ⟨6, (some 59), .idxS 9 (.tmp 55) (.tmp 58), none, []⟩,
 ⟨7, (some 60), .conv 5 135 (.tmp 59), none, []⟩,
 ⟨8, (some 61), .bin .mul 135 false (.tmp 54) (.tmp 60), none, []⟩,
 ⟨9, (some 62), .bin .sub 135 false (.tmp 53) (.tmp 61), none, []⟩,
 ⟨10, (some 8), .mv (.tmp 62), none, []⟩])
 (.seq (.reg [⟨0, (some 63), .mv (.tmp 10), none, []⟩,
 ⟨1, (some 64), .bin .add 3 true (.tmp 63) (.con (.int .i64 1)), none, []⟩,
 ⟨2, (some 10), .mv (.tmp 64), none, []⟩])
 (.seq (.reg [⟨0, (some 65), .mv (.tmp 8), none, []⟩,
 ⟨1, (some 66), .mv (.tmp 5), none, []⟩,
 ⟨2, (some 67), .bin .eql 135 false (.tmp 65) (.tmp 66), none, []⟩,
 ⟨3, (some 68), .mv (.tmp 67), none, []⟩,
 ⟨4, (some 69), .mv (.tmp 0), (some (68, true)), []⟩,
 ⟨5, (some 70), .mv (.tmp 10), (some (68, true)), []⟩,
 ⟨6, (some 71), .mv (.tmp 7), (some (68, true)), []⟩,
 ⟨7, (some 72), .bin .sub 3 false (.tmp 70) (.tmp 71), (some (68, true)), []⟩,
 ⟨8, (some 73), .mv (.tmp 10), (some (68, true)), []⟩,
 ⟨9, (some 74), .slS 9 (.tmp 69) (some (.tmp 72)) (some (.tmp 73)), (some (68, true)), []⟩,
 ⟨10, (some 75), .mv (.tmp 1), (some (68, true)), []⟩,
 ⟨11, (some 76), .bin .eql 9 false (.tmp 74) (.tmp 75), (some (68, true)), []⟩,
 ⟨12, (some 77), .pick (.tmp 68) (.tmp 76) (.con (.bool false)), none, []⟩])
 (.cond (.tmp 77)
 (.seq (.reg [⟨0, (some 78), .mv (.tmp 10), none, []⟩,
 ⟨1, (some 79), .mv (.tmp 7), none, []⟩,
 ⟨2, (some 80), .bin .sub 3 false (.tmp 78) (.tmp 79), none, []⟩,
 ⟨3, (some 4), .mv (.tmp 80), none, []⟩])
 (.ret))
 (.skip))))))))))))
 (.seq (.reg [⟨0, (some 4), .mv (.con (.int .i64 (-1))), none, []⟩])
 (.ret)))))))),
 [.tmp 4]⟩
theorem p_internal_bytealg_IndexRabinKarp_string : prepFun Go.Proofs.Tryd.prog [0, 3, 4] Go.Proofs.Tryd.f97 = some v_internal_bytealg_IndexRabinKarp_string := by kernel_rfl

def v_internal_strconv_lower : VFun :=
⟨.seq (.reg [⟨0, (some 2), .mv (.con (.int .u8 0)), none, []⟩])
 (.seq (.reg [⟨0, (some 3), .mv (.tmp 0), none, []⟩,
 ⟨1, (some 4), .bin .or 5 true (.tmp 3) (.con (.int .u8 32)), none, []⟩,
 ⟨2, (some 2), .mv (.tmp 4), none, []⟩])
 (.ret)),
 [.tmp 2]⟩
theorem p_internal_strconv_lower : prepFun Go.Proofs.Tryd.prog [0, 3, 4] Go.Proofs.Tryd.f98 = some v_internal_strconv_lower := by kernel_rfl

def v_internal_strconv_underscoreOK : VFun :=
⟨.seq (.reg [⟨0, (some 2), .mv (.con (.bool false)), none, []⟩])
 (.seq (.reg [⟨0, (some 3), .mv (.con (.int .i32 94)), none, []⟩])
 (.seq (.reg [⟨0, (some 4), .mv (.con (.int .i64 0)), none, []⟩])
 (.seq (.seq (.reg [⟨0, (some 6), .mv (.tmp 0), none, []⟩,
 ⟨1, (some 7), .bi .len [9] 3 [(.tmp 6)], none, []⟩,
 ⟨2, (some 8), .bin .geq 3 true (.tmp 7) (.con (.int .i64 1)), none, []⟩,
 ⟨3, (some 9), .mv (.tmp 8), none, []⟩,
 ⟨4, (some 10), .mv (.tmp 0), (some (9, true)), []⟩,
 ⟨5, (some 11), .idxS 9 (.tmp 10) (.con (.int .i64 0)), (some (9, true)), []⟩,
 ⟨6, (some 12), .bin .eql 5 true (.tmp 11) (.con (.int .u8 45)), (some (9, true)), []⟩,
 ⟨7, (some 13), .mv (.tmp 12), (some (9, true)), []⟩,
 ⟨8, (some 14), .mv (.tmp 0), (some (13, false)), []⟩,
 ⟨9, (some 15), .idxS 9 (.tmp 14) (.con (.int .i64 0)), (some (13, false)), []⟩,
 ⟨10, (some 16), .bin .eql 5 true (.tmp 15) (.con (.int .u8 43)), (some (13, false)), []⟩,
 ⟨11, (some 17), .pick (.tmp 13) (.con (.bool true)) (.tmp 16), (some (9, true)), []⟩,
 ⟨12, (some 18), .pick (.tmp 9) (.tmp 17) (.con (.bool false)), none, []⟩])
 (.cond (.tmp 18)
 (.reg [⟨0, (some 19), .mv (.tmp 0), none, []⟩,
 ⟨1, (some 20), .slS 9 (.tmp 19) (some (.con (.int .i64 1))) none, none, []⟩,
 ⟨2, (some 0), .mv (.tmp 20), none, []⟩])
 (.skip)))
 (.seq (.reg [⟨0, (some 5), .mv (.con (.bool false)), none, []⟩])
 (.seq (.seq (.reg [⟨0, (some 21), .mv (.tmp 0), none, []⟩,
 ⟨1, (some 22), .bi .len [9] 3 [(.tmp 21)], none, []⟩,
 ⟨2, (some 23), .bin .geq 3 true (.tmp 22) (.con (.int .i64 2)), none, []⟩,
 ⟨3, (some 24), .mv (.tmp 23), none, []⟩,
 ⟨4, (some 25), .mv (.tmp 0), (some (24, true)), []⟩,
 ⟨5, (some 26), .idxS 9 (.tmp 25) (.con (.int .i64 0)), (some (24, true)), []⟩,
 ⟨6, (some 27), .bin .eql 5 true (.tmp 26) (.con (.int .u8 48)), (some (24, true)), []⟩,
 ⟨7, (some 28), .pick (.tmp 24) (.tmp 27) (.con (.bool false)), none, []⟩,
 ⟨8, (some 29), .mv (.tmp 28), none, []⟩,
 ⟨9, (some 30), .mv (.tmp 0), (some (29, true)), []⟩,
 ⟨10, (some 31), .idxS 9 (.tmp 30) (.con (.int .i64 1)), (some (29, true)), []⟩,
 ⟨11, (some 32), .call 98 [(.tmp 31)], (some (29, true)), []⟩,
 ⟨12, (some 33), .bin .eql 5 true (.tmp 32) (.con (.int .u8 98)), (some (29, true)), []⟩,
 ⟨13, (some 34), .mv (.tmp 33), (some (29, true)), []⟩,
 ⟨14, (some 35), .mv (.tmp 0), (some (34, false)), []⟩,
 ⟨15, (some 36), .idxS 9 (.tmp 35) (.con (.int .i64 1)), (some (34, false)), []⟩,
 ⟨16, (some 37), .call 98 [(.tmp 36)], (some (34, false)), []⟩,
 ⟨17, (some 38), .bin .eql 5 true (.tmp 37) (.con (.int .u8 111)), (some (34, false)), []⟩,
 ⟨18, (some 39), .pick (.tmp 34) (.con (.bool true)) (.tmp 38), (some (29, true)), []⟩,
 ⟨19, (some 40), .mv (.tmp 39), (some (29, true)), []⟩,
 ⟨20, (some 41), .mv (.tmp 0), (some (40, false)), []⟩,
 ⟨21, (some 42), .idxS 9 (.tmp 41) (.con (.int .i64 1)), (some (40, false)), []⟩,
 ⟨22, (some 43), .call 98 [(.tmp 42)], (some (40, false)), []⟩,
 ⟨23, (some 44), .bin .eql 5 true (.tmp 43) (.con (.int .u8 120)), (some (40, false)), []⟩,
 ⟨24, (some 45), .pick (.tmp 40) (.con (.bool true)) (.tmp 44), (some (29, true)), []⟩,
 ⟨25, (some 46), .pick (.tmp 29) (.tmp 45) (.con (.bool false)), none, []⟩])
 (.cond (.tmp 46)
 (.seq (.reg [⟨0, (some 4), .mv (.con (.int .i64 2)), none, []⟩])
 (.seq (.reg [⟨0, (some 3), .mv (.con (.int .i32 48)), none, []⟩])
 (.reg [⟨0, (some 47), .mv (.tmp 0), none, []⟩,
 ⟨1, (some 48), .idxS 9 (.tmp 47) (.con (.int .i64 1)), none, []⟩,
 ⟨2, (some 49), .call 98 [(.tmp 48)], none, []⟩,
 ⟨3, (some 50), .bin .eql 5 true (.tmp 49) (.con (.int .u8 120)), none, []⟩,
 ⟨4, (some 5), .mv (.tmp 50), none, []⟩])))
 (.skip)))
 (.seq (.block 0
 (.loop
 (.seq (.seq (.reg [⟨0, (some 51), .mv (.tmp 4), none, []⟩,
 ⟨1, (some 52), .mv (.tmp 0), none, []⟩,
 ⟨2, (some 53), .bi .len [9] 3 [(.tmp 52)], none, []⟩,
 ⟨3, (some 54), .bin .lss 3 false (.tmp 51) (.tmp 53), none, []⟩])
 (.cond (.tmp 54)
 (.skip)
 (.exit 0)))
 (.seq (.block 1
 (.seq (.seq (.reg [⟨0, (some 57), .mv (.tmp 0), none, []⟩,
 ⟨1, (some 58), .mv (.tmp 4), none, []⟩,
 ⟨2, (some 59), .idxS 9 (.tmp 57) (.tmp 58), none, []⟩,
 ⟨3, (some 60), .bin .leq 5 true (.con (.int .u8 48)) (.tmp 59), none, []⟩,
 ⟨4, (some 61), .mv (.tmp 60), none, []⟩,
 ⟨5, (some 62), .mv (.tmp 0), (some (61, true)), []⟩,
 ⟨6, (some 63), .mv (.tmp 4), (some (61, true)), []⟩,
 ⟨7, (some 64), .idxS 9 (.tmp 62) (.tmp 63), (some (61, true)), []⟩,
 ⟨8, (some 65), .bin .leq 5 true (.tmp 64) (.con (.int .u8 57)), (some (61, true)), []⟩,
 ⟨9, (some 66), .pick (.tmp 61) (.tmp 65) (.con (.bool false)), none, []⟩,
 ⟨10, (some 67), .mv (.tmp 66), none, []⟩,
 ⟨11, (some 68), .mv (.tmp 5), (some (67, false)), []⟩,
 ⟨12, (some 69), .mv (.tmp 68), (some (67, false)), []⟩,
 ⟨13, (some 70), .mv (.tmp 0), (some (69, true)), []⟩,
 ⟨14, (some 71), .mv (.tmp 4), (some (69, true)), []⟩,
 ⟨15, (some 72), .idxS 9 (.tmp 70) (.tmp 71), (some (69, true)), []⟩,
 ⟨16, (some 73), .call 98 [(.tmp 72)], (some (69, true)), []⟩,
 ⟨17, (some 74), .bin .leq 5 true (.con (.int .u8 97)) (.tmp 73), (some (69, true)), []⟩,
 ⟨18, (some 75), .pick (.tmp 69) (.tmp 74) (.con (.bool false)), (some (67, false)), []⟩,
 ⟨19, (some 76), .mv (.tmp 75), (some (67, false)), []⟩,
 ⟨20, (some 77), .mv (.tmp 0), (some (76, true)), []⟩,
 ⟨21, (some 78), .mv (.tmp 4), (some (76, true)), []⟩,
 ⟨22, (some 79), .idxS 9 (.tmp 77) (.tmp 78), (some (76, true)), []⟩,
 ⟨23, (some 80), .call 98 [(.tmp 79)], (some (76, true)), []⟩,
 ⟨24, (some 81), .bin .leq 5 true (.tmp 80) (.con (.int .u8 102)), (some (76, true)), []⟩,
 ⟨25, (some 82), .pick (.tmp 76) (.tmp 81) (.con (.bool false)), (some (67, false)), []⟩,
 ⟨26, (some 83), .pick (.tmp 67) (.con (.bool true)) (.tmp 82), none, []⟩])
 (.cond (.tmp 83)
 (.seq (.reg [⟨0, (some 3), .mv (.con (.int .i32 48)), none, []⟩])
 (.exit 1))
 (.skip)))
 (.seq (.seq (.reg [⟨0, (some 84), .mv (.tmp 0), none, []⟩,
 ⟨1, (some 85), .mv (.tmp 4), none, []⟩,
 ⟨2, (some 86), .idxS 9 (.tmp 84) (.tmp 85), none, []⟩,
 ⟨3, (some 87), .bin .eql 5 true (.tmp 86) (.con (.int .u8 95)), none, []⟩])
 (.cond (.tmp 87)
 (.seq (.seq (.reg [⟨0, (some 88), .mv (.tmp 3), none, []⟩,
 ⟨1, (some 89), .bin .neq 21 true (.tmp 88) (.con (.int .i32 48)), none, []⟩])
 (.cond (.tmp 89)
 (.seq (.reg [⟨0, (some 2), .mv (.con (.bool false)), none, []⟩])
 (.ret))
 (.skip)))
 (.seq (.reg [⟨0, (some 3), .mv (.con (.int .i32 95)), none, []⟩])
 (.exit 1)))
 (.skip)))
 (.seq (.seq (.reg [⟨0, (some 90), .mv (.tmp 3), none, []⟩,
 ⟨1, (some 91), .bin .eql 21 true (.tmp 90) (.con (.int .i32 95)), none, []⟩])
 (.cond (.tmp 91)
 (.seq (.reg [⟨0, (some 2), .mv (.con (.bool false)), none, []⟩])
 (.ret))
 (.skip)))
 (.reg [⟨0, (some 3), .mv (.con (.int .i32 33)), none, []⟩])))))
 (.reg [⟨0, (some 55), .mv (.tmp 4), none, []⟩,
 ⟨1, (some 56), .bin .add 3 true (.tmp 55) (.con (.int .i64 1)), none, []⟩,
 ⟨2, (some 4), .mv (.tmp 56), none, []⟩])))))
 (.seq (.reg [⟨0, (some 92), .mv (.tmp 3), none, []⟩,
 ⟨1, (some 93), .bin .neq 21 true (.tmp 92) (.con (.int .i32 95)), none, []⟩,
 ⟨2, (some 2), .mv (.tmp 93), none, []⟩])
 (.ret)))))))),
 [.tmp 2]⟩
theorem p_internal_strconv_underscoreOK : prepFun Go.Proofs.Tryd.prog [0, 3, 4] Go.Proofs.Tryd.f99 = some v_internal_strconv_underscoreOK := by kernel_rfl

def v_internal_bytealg_hashStr_string : VFun :=
⟨.seq (.reg [⟨0, (some 2), .mv (.con (.int .u32 0)), none, []⟩,
 ⟨1, (some 3), .mv (.con (.int .u32 0)), none, []⟩])
 (.seq (.reg [⟨0, (some 4), .mv (.con (.int .u32 0)), none, []⟩])
 (.seq (.seq (.reg [⟨0, (some 5), .mv (.con (.int .i64 0)), none, []⟩])
 (.block 0
 (.loop
 (.seq (.seq (.reg [⟨0, (some 9), .mv (.tmp 5), none, []⟩,
 ⟨1, (some 10), .mv (.tmp 0), none, []⟩,
 ⟨2, (some 11), .bi .len [9] 3 [(.tmp 10)], none, []⟩,
 ⟨3, (some 12), .bin .lss 3 false (.tmp 9) (.tmp 11), none, []⟩])
 (.cond (.tmp 12)
 (.skip)
 (.exit 0)))
 (.seq (.block 1
 (.reg [⟨0, (some 15), .mv (.tmp 4), none, []⟩,
 ⟨1, (some 16), .bin .mul 135 true (.tmp 15) (.con (.int .u32 16777619)), none, []⟩,
 ⟨2, (some 17), .mv (.tmp 0), none, []⟩,
 ⟨3, (some 18), .mv (.tmp 5), none, []⟩,
 ⟨4, (some 19), .idxS 9 (.tmp 17) (.tmp 18), none, []⟩,
 ⟨5, (some 20), .conv 5 135 (.tmp 19), none, []⟩,
 ⟨6, (some 21), .bin .add 135 false (.tmp 16) (.tmp 20), none, []⟩,
 ⟨7, (some 4), .mv (.tmp 21), none, []⟩]))
 (.reg [⟨0, (some 13), .mv (.tmp 5), none, []⟩,
 ⟨1, (some 14), .bin .add 3 true (.tmp 13) (.con (.int .i64 1)), none, []⟩,
 ⟨2, (some 5), .mv (.tmp 14), none, []⟩]))))))
 (.seq (.reg [⟨0, (some 6), .mv (.con (.int .u32 1)), none, []⟩,
 ⟨1, (some 7), .mv (.con (.int .u32 16777619)), none, []⟩])
 (.seq (.seq (.reg [⟨0, (some 22), .mv (.tmp 0), none, []⟩,
 ⟨1, (some 23), .bi .len [9] 3 [(.tmp 22)], none, []⟩,
 ⟨2, (some 8), .mv (.tmp 23), none, []⟩])
 (.block 2
 (.loop
 (.seq (.seq (.reg [⟨0, (some 24), .mv (.tmp 8), none, []⟩,
 ⟨1, (some 25), .bin .gtr 3 true (.tmp 24) (.con (.int .i64 0)), none, []⟩])
 (.cond (.tmp 25)
 (.skip)
 (.exit 2)))
 (.seq (.block 3
 (.seq (.seq (.reg [⟨0, (some 28), .mv (.tmp 8), none, []⟩,
 ⟨1, (some 29), .bin .and 3 true (.tmp 28) (.con (.int .i64 1)), none, []⟩,
 ⟨2, (some 30), .bin .neq 3 true (.tmp 29) (.con (.int .i64 0)), none, []⟩])
 (.cond (.tmp 30)
 (.reg [⟨0, (some 31), .mv (.tmp 6), none, []⟩,
 ⟨1, (some 32), .mv (.tmp 7), none, []⟩,
 ⟨2, (some 33), .bin .mul 135 false (.tmp 31) (.tmp 32), none, []⟩,
 ⟨3, (some 6), .mv (.tmp 33), none, []⟩])
 (.skip)))
 (.reg [⟨0, (some 34), .mv (.tmp 7), none, []⟩,
 ⟨1, (some 35), .mv (.tmp 7), none, []⟩,
 ⟨2, (some 36), .bin .mul 135 false (.tmp 34) (.tmp 35), none, []⟩,
 ⟨3, (some 7), .mv (.tmp 36), none, []⟩])))
 (.reg [⟨0, (some 26), .mv (.tmp 8), none, []⟩,
 ⟨1, (some 27), .bin .shr 3 true (.tmp 26) (.con (.int .u64 1)), none, []⟩,
 ⟨2, (some 8), .mv (.tmp 27), none, []⟩]))))))
 (.seq (.reg [⟨0, (some 37), .mv (.tmp 4), none, []⟩,
 ⟨1, (some 38), .mv (.tmp 6), none, []⟩,
 ⟨2, (some 2), .mv (.tmp 37), none, []⟩,
 ⟨3, (some 3), .mv (.tmp 38), none, []⟩])
 (.ret)))))),
 [.tmp 2, .tmp 3]⟩
theorem p_internal_bytealg_hashStr_string : prepFun Go.Proofs.Tryd.prog [0, 3, 4] Go.Proofs.Tryd.f103 = some v_internal_bytealg_hashStr_string := by kernel_rfl

end Go.VX.Seat
end
section
/-! MADE BY PROGRAM (lits.py): the functions of the seat. -/
set_option maxRecDepth 20000
namespace Go.VX.Seat
def fns : List (Nat × VFun) := [(3, v_l19_MachineTogether), (6, v_l19_MachineMore), (7, v_l19_MachineAlone), (8, v_l19_MachineTells), (9, v_l19_cut), (10, v_machine_Together), (11, v_machine_Home), (12, v_r19_Check), (13, v_r19_Wrong), (14, v_l19_alive), (15, v_r19_Together), (16, v_r19_Home), (17, v_machine_Text), (19, v_machine_Parse), (21, v_machine_Class), (22, v_r19_Class), (23, v_machine_Latency), (24, v_machine_Bank), (25, v_machine_Reads), (26, v_r19_Reads), (27, v_machine_Check), (28, v_r19_Latency), (29, v_machine_use), (30, v__machine_Use_Fits), (31, v__machine_Use_Home), (32, v_l19_example), (33, v_r19_counts), (34, v_machine_write), (35, v_strconv_Itoa), (36, v_strings_Split), (37, v_machine_Parse_c1), (38, v_strconv_Atoi), (41, v_code_Class), (42, v_machine_in), (43, v_code_Reads), (44, v_slices_Contains_int), (45, v_r18_Reads), (46, v_machine_NewUse), (47, v__machine_Use_With), (48, v_slices_Max_int), (49, v_machine_up), (50, v_strings_Join), (51, v_internal_strconv_Itoa), (52, v_strings_genSplit), (53, v_internal_strconv_Atoi), (54, v_strconv_toError), (55, v_code_of), (56, v_code_Read), (57, v_slices_Index_int), (58, v_r18_uses), (59, v_r18_put), (61, v_strings_Builder_WriteString), (63, v_internal_strconv_FormatInt), (64, v_strings_explode), (65, v_strings_Count), (66, v_strings_Index), (67, v_internal_strconv_ParseInt), (70, v_strconv_baseError), (71, v_strconv_bitSizeError), (72, v_r18_in), (75, v_internal_strconv_small), (76, v_internal_strconv_numDigits), (77, v_internal_strconv_formatBase10), (78, v_internal_strconv_formatBits), (80, v_unicode_utf8_DecodeRuneInString), (82, v_internal_stringslite_Index), (83, v_internal_strconv_ParseUint), (85, v_errors_New), (88, v_internal_strconv_log10Pow2), (89, v_math_bits_Len64), (90, v_internal_strconv_bool2_int), (91, v_internal_strconv_isPowerOfTwo), (92, v_math_bits_TrailingZeros), (94, v_internal_stringslite_IndexByte), (96, v_internal_bytealg_Cutover), (97, v_internal_bytealg_IndexRabinKarp_string), (98, v_internal_strconv_lower), (99, v_internal_strconv_underscoreOK), (103, v_internal_bytealg_hashStr_string)]
def fnOf (f : FuncId) : Option VFun := match f with
  | 3 => some v_l19_MachineTogether
  | 6 => some v_l19_MachineMore
  | 7 => some v_l19_MachineAlone
  | 8 => some v_l19_MachineTells
  | 9 => some v_l19_cut
  | 10 => some v_machine_Together
  | 11 => some v_machine_Home
  | 12 => some v_r19_Check
  | 13 => some v_r19_Wrong
  | 14 => some v_l19_alive
  | 15 => some v_r19_Together
  | 16 => some v_r19_Home
  | 17 => some v_machine_Text
  | 19 => some v_machine_Parse
  | 21 => some v_machine_Class
  | 22 => some v_r19_Class
  | 23 => some v_machine_Latency
  | 24 => some v_machine_Bank
  | 25 => some v_machine_Reads
  | 26 => some v_r19_Reads
  | 27 => some v_machine_Check
  | 28 => some v_r19_Latency
  | 29 => some v_machine_use
  | 30 => some v__machine_Use_Fits
  | 31 => some v__machine_Use_Home
  | 32 => some v_l19_example
  | 33 => some v_r19_counts
  | 34 => some v_machine_write
  | 35 => some v_strconv_Itoa
  | 36 => some v_strings_Split
  | 37 => some v_machine_Parse_c1
  | 38 => some v_strconv_Atoi
  | 41 => some v_code_Class
  | 42 => some v_machine_in
  | 43 => some v_code_Reads
  | 44 => some v_slices_Contains_int
  | 45 => some v_r18_Reads
  | 46 => some v_machine_NewUse
  | 47 => some v__machine_Use_With
  | 48 => some v_slices_Max_int
  | 49 => some v_machine_up
  | 50 => some v_strings_Join
  | 51 => some v_internal_strconv_Itoa
  | 52 => some v_strings_genSplit
  | 53 => some v_internal_strconv_Atoi
  | 54 => some v_strconv_toError
  | 55 => some v_code_of
  | 56 => some v_code_Read
  | 57 => some v_slices_Index_int
  | 58 => some v_r18_uses
  | 59 => some v_r18_put
  | 61 => some v_strings_Builder_WriteString
  | 63 => some v_internal_strconv_FormatInt
  | 64 => some v_strings_explode
  | 65 => some v_strings_Count
  | 66 => some v_strings_Index
  | 67 => some v_internal_strconv_ParseInt
  | 70 => some v_strconv_baseError
  | 71 => some v_strconv_bitSizeError
  | 72 => some v_r18_in
  | 75 => some v_internal_strconv_small
  | 76 => some v_internal_strconv_numDigits
  | 77 => some v_internal_strconv_formatBase10
  | 78 => some v_internal_strconv_formatBits
  | 80 => some v_unicode_utf8_DecodeRuneInString
  | 82 => some v_internal_stringslite_Index
  | 83 => some v_internal_strconv_ParseUint
  | 85 => some v_errors_New
  | 88 => some v_internal_strconv_log10Pow2
  | 89 => some v_math_bits_Len64
  | 90 => some v_internal_strconv_bool2_int
  | 91 => some v_internal_strconv_isPowerOfTwo
  | 92 => some v_math_bits_TrailingZeros
  | 94 => some v_internal_stringslite_IndexByte
  | 96 => some v_internal_bytealg_Cutover
  | 97 => some v_internal_bytealg_IndexRabinKarp_string
  | 98 => some v_internal_strconv_lower
  | 99 => some v_internal_strconv_underscoreOK
  | 103 => some v_internal_bytealg_hashStr_string
  | _ => none
theorem o_l19_MachineTogether : FunOk Go.Proofs.Tryd.prog [0, 3, 4] 3 v_l19_MachineTogether := ⟨⟨Go.Proofs.Tryd.f3, _, by kernel_rfl, rfl, by kernel_rfl, p_l19_MachineTogether⟩⟩
theorem o_l19_MachineMore : FunOk Go.Proofs.Tryd.prog [0, 3, 4] 6 v_l19_MachineMore := ⟨⟨Go.Proofs.Tryd.f6, _, by kernel_rfl, rfl, by kernel_rfl, p_l19_MachineMore⟩⟩
theorem o_l19_MachineAlone : FunOk Go.Proofs.Tryd.prog [0, 3, 4] 7 v_l19_MachineAlone := ⟨⟨Go.Proofs.Tryd.f7, _, by kernel_rfl, rfl, by kernel_rfl, p_l19_MachineAlone⟩⟩
theorem o_l19_MachineTells : FunOk Go.Proofs.Tryd.prog [0, 3, 4] 8 v_l19_MachineTells := ⟨⟨Go.Proofs.Tryd.f8, _, by kernel_rfl, rfl, by kernel_rfl, p_l19_MachineTells⟩⟩
theorem o_l19_cut : FunOk Go.Proofs.Tryd.prog [0, 3, 4] 9 v_l19_cut := ⟨⟨Go.Proofs.Tryd.f9, _, by kernel_rfl, rfl, by kernel_rfl, p_l19_cut⟩⟩
theorem o_machine_Together : FunOk Go.Proofs.Tryd.prog [0, 3, 4] 10 v_machine_Together := ⟨⟨Go.Proofs.Tryd.f10, _, by kernel_rfl, rfl, by kernel_rfl, p_machine_Together⟩⟩
theorem o_machine_Home : FunOk Go.Proofs.Tryd.prog [0, 3, 4] 11 v_machine_Home := ⟨⟨Go.Proofs.Tryd.f11, _, by kernel_rfl, rfl, by kernel_rfl, p_machine_Home⟩⟩
theorem o_r19_Check : FunOk Go.Proofs.Tryd.prog [0, 3, 4] 12 v_r19_Check := ⟨⟨Go.Proofs.Tryd.f12, _, by kernel_rfl, rfl, by kernel_rfl, p_r19_Check⟩⟩
theorem o_r19_Wrong : FunOk Go.Proofs.Tryd.prog [0, 3, 4] 13 v_r19_Wrong := ⟨⟨Go.Proofs.Tryd.f13, _, by kernel_rfl, rfl, by kernel_rfl, p_r19_Wrong⟩⟩
theorem o_l19_alive : FunOk Go.Proofs.Tryd.prog [0, 3, 4] 14 v_l19_alive := ⟨⟨Go.Proofs.Tryd.f14, _, by kernel_rfl, rfl, by kernel_rfl, p_l19_alive⟩⟩
theorem o_r19_Together : FunOk Go.Proofs.Tryd.prog [0, 3, 4] 15 v_r19_Together := ⟨⟨Go.Proofs.Tryd.f15, _, by kernel_rfl, rfl, by kernel_rfl, p_r19_Together⟩⟩
theorem o_r19_Home : FunOk Go.Proofs.Tryd.prog [0, 3, 4] 16 v_r19_Home := ⟨⟨Go.Proofs.Tryd.f16, _, by kernel_rfl, rfl, by kernel_rfl, p_r19_Home⟩⟩
theorem o_machine_Text : FunOk Go.Proofs.Tryd.prog [0, 3, 4] 17 v_machine_Text := ⟨⟨Go.Proofs.Tryd.f17, _, by kernel_rfl, rfl, by kernel_rfl, p_machine_Text⟩⟩
theorem o_machine_Parse : FunOk Go.Proofs.Tryd.prog [0, 3, 4] 19 v_machine_Parse := ⟨⟨Go.Proofs.Tryd.f19, _, by kernel_rfl, rfl, by kernel_rfl, p_machine_Parse⟩⟩
theorem o_machine_Class : FunOk Go.Proofs.Tryd.prog [0, 3, 4] 21 v_machine_Class := ⟨⟨Go.Proofs.Tryd.f21, _, by kernel_rfl, rfl, by kernel_rfl, p_machine_Class⟩⟩
theorem o_r19_Class : FunOk Go.Proofs.Tryd.prog [0, 3, 4] 22 v_r19_Class := ⟨⟨Go.Proofs.Tryd.f22, _, by kernel_rfl, rfl, by kernel_rfl, p_r19_Class⟩⟩
theorem o_machine_Latency : FunOk Go.Proofs.Tryd.prog [0, 3, 4] 23 v_machine_Latency := ⟨⟨Go.Proofs.Tryd.f23, _, by kernel_rfl, rfl, by kernel_rfl, p_machine_Latency⟩⟩
theorem o_machine_Bank : FunOk Go.Proofs.Tryd.prog [0, 3, 4] 24 v_machine_Bank := ⟨⟨Go.Proofs.Tryd.f24, _, by kernel_rfl, rfl, by kernel_rfl, p_machine_Bank⟩⟩
theorem o_machine_Reads : FunOk Go.Proofs.Tryd.prog [0, 3, 4] 25 v_machine_Reads := ⟨⟨Go.Proofs.Tryd.f25, _, by kernel_rfl, rfl, by kernel_rfl, p_machine_Reads⟩⟩
theorem o_r19_Reads : FunOk Go.Proofs.Tryd.prog [0, 3, 4] 26 v_r19_Reads := ⟨⟨Go.Proofs.Tryd.f26, _, by kernel_rfl, rfl, by kernel_rfl, p_r19_Reads⟩⟩
theorem o_machine_Check : FunOk Go.Proofs.Tryd.prog [0, 3, 4] 27 v_machine_Check := ⟨⟨Go.Proofs.Tryd.f27, _, by kernel_rfl, rfl, by kernel_rfl, p_machine_Check⟩⟩
theorem o_r19_Latency : FunOk Go.Proofs.Tryd.prog [0, 3, 4] 28 v_r19_Latency := ⟨⟨Go.Proofs.Tryd.f28, _, by kernel_rfl, rfl, by kernel_rfl, p_r19_Latency⟩⟩
theorem o_machine_use : FunOk Go.Proofs.Tryd.prog [0, 3, 4] 29 v_machine_use := ⟨⟨Go.Proofs.Tryd.f29, _, by kernel_rfl, rfl, by kernel_rfl, p_machine_use⟩⟩
theorem o__machine_Use_Fits : FunOk Go.Proofs.Tryd.prog [0, 3, 4] 30 v__machine_Use_Fits := ⟨⟨Go.Proofs.Tryd.f30, _, by kernel_rfl, rfl, by kernel_rfl, p__machine_Use_Fits⟩⟩
theorem o__machine_Use_Home : FunOk Go.Proofs.Tryd.prog [0, 3, 4] 31 v__machine_Use_Home := ⟨⟨Go.Proofs.Tryd.f31, _, by kernel_rfl, rfl, by kernel_rfl, p__machine_Use_Home⟩⟩
theorem o_l19_example : FunOk Go.Proofs.Tryd.prog [0, 3, 4] 32 v_l19_example := ⟨⟨Go.Proofs.Tryd.f32, _, by kernel_rfl, rfl, by kernel_rfl, p_l19_example⟩⟩
theorem o_r19_counts : FunOk Go.Proofs.Tryd.prog [0, 3, 4] 33 v_r19_counts := ⟨⟨Go.Proofs.Tryd.f33, _, by kernel_rfl, rfl, by kernel_rfl, p_r19_counts⟩⟩
theorem o_machine_write : FunOk Go.Proofs.Tryd.prog [0, 3, 4] 34 v_machine_write := ⟨⟨Go.Proofs.Tryd.f34, _, by kernel_rfl, rfl, by kernel_rfl, p_machine_write⟩⟩
theorem o_strconv_Itoa : FunOk Go.Proofs.Tryd.prog [0, 3, 4] 35 v_strconv_Itoa := ⟨⟨Go.Proofs.Tryd.f35, _, by kernel_rfl, rfl, by kernel_rfl, p_strconv_Itoa⟩⟩
theorem o_strings_Split : FunOk Go.Proofs.Tryd.prog [0, 3, 4] 36 v_strings_Split := ⟨⟨Go.Proofs.Tryd.f36, _, by kernel_rfl, rfl, by kernel_rfl, p_strings_Split⟩⟩
theorem o_machine_Parse_c1 : FunOk Go.Proofs.Tryd.prog [0, 3, 4] 37 v_machine_Parse_c1 := ⟨⟨Go.Proofs.Tryd.f37, _, by kernel_rfl, rfl, by kernel_rfl, p_machine_Parse_c1⟩⟩
theorem o_strconv_Atoi : FunOk Go.Proofs.Tryd.prog [0, 3, 4] 38 v_strconv_Atoi := ⟨⟨Go.Proofs.Tryd.f38, _, by kernel_rfl, rfl, by kernel_rfl, p_strconv_Atoi⟩⟩
theorem o_code_Class : FunOk Go.Proofs.Tryd.prog [0, 3, 4] 41 v_code_Class := ⟨⟨Go.Proofs.Tryd.f41, _, by kernel_rfl, rfl, by kernel_rfl, p_code_Class⟩⟩
theorem o_machine_in : FunOk Go.Proofs.Tryd.prog [0, 3, 4] 42 v_machine_in := ⟨⟨Go.Proofs.Tryd.f42, _, by kernel_rfl, rfl, by kernel_rfl, p_machine_in⟩⟩
theorem o_code_Reads : FunOk Go.Proofs.Tryd.prog [0, 3, 4] 43 v_code_Reads := ⟨⟨Go.Proofs.Tryd.f43, _, by kernel_rfl, rfl, by kernel_rfl, p_code_Reads⟩⟩
theorem o_slices_Contains_int : FunOk Go.Proofs.Tryd.prog [0, 3, 4] 44 v_slices_Contains_int := ⟨⟨Go.Proofs.Tryd.f44, _, by kernel_rfl, rfl, by kernel_rfl, p_slices_Contains_int⟩⟩
theorem o_r18_Reads : FunOk Go.Proofs.Tryd.prog [0, 3, 4] 45 v_r18_Reads := ⟨⟨Go.Proofs.Tryd.f45, _, by kernel_rfl, rfl, by kernel_rfl, p_r18_Reads⟩⟩
theorem o_machine_NewUse : FunOk Go.Proofs.Tryd.prog [0, 3, 4] 46 v_machine_NewUse := ⟨⟨Go.Proofs.Tryd.f46, _, by kernel_rfl, rfl, by kernel_rfl, p_machine_NewUse⟩⟩
theorem o__machine_Use_With : FunOk Go.Proofs.Tryd.prog [0, 3, 4] 47 v__machine_Use_With := ⟨⟨Go.Proofs.Tryd.f47, _, by kernel_rfl, rfl, by kernel_rfl, p__machine_Use_With⟩⟩
theorem o_slices_Max_int : FunOk Go.Proofs.Tryd.prog [0, 3, 4] 48 v_slices_Max_int := ⟨⟨Go.Proofs.Tryd.f48, _, by kernel_rfl, rfl, by kernel_rfl, p_slices_Max_int⟩⟩
theorem o_machine_up : FunOk Go.Proofs.Tryd.prog [0, 3, 4] 49 v_machine_up := ⟨⟨Go.Proofs.Tryd.f49, _, by kernel_rfl, rfl, by kernel_rfl, p_machine_up⟩⟩
theorem o_strings_Join : FunOk Go.Proofs.Tryd.prog [0, 3, 4] 50 v_strings_Join := ⟨⟨Go.Proofs.Tryd.f50, _, by kernel_rfl, rfl, by kernel_rfl, p_strings_Join⟩⟩
theorem o_internal_strconv_Itoa : FunOk Go.Proofs.Tryd.prog [0, 3, 4] 51 v_internal_strconv_Itoa := ⟨⟨Go.Proofs.Tryd.f51, _, by kernel_rfl, rfl, by kernel_rfl, p_internal_strconv_Itoa⟩⟩
theorem o_strings_genSplit : FunOk Go.Proofs.Tryd.prog [0, 3, 4] 52 v_strings_genSplit := ⟨⟨Go.Proofs.Tryd.f52, _, by kernel_rfl, rfl, by kernel_rfl, p_strings_genSplit⟩⟩
theorem o_internal_strconv_Atoi : FunOk Go.Proofs.Tryd.prog [0, 3, 4] 53 v_internal_strconv_Atoi := ⟨⟨Go.Proofs.Tryd.f53, _, by kernel_rfl, rfl, by kernel_rfl, p_internal_strconv_Atoi⟩⟩
theorem o_strconv_toError : FunOk Go.Proofs.Tryd.prog [0, 3, 4] 54 v_strconv_toError := ⟨⟨Go.Proofs.Tryd.f54, _, by kernel_rfl, rfl, by kernel_rfl, p_strconv_toError⟩⟩
theorem o_code_of : FunOk Go.Proofs.Tryd.prog [0, 3, 4] 55 v_code_of := ⟨⟨Go.Proofs.Tryd.f55, _, by kernel_rfl, rfl, by kernel_rfl, p_code_of⟩⟩
theorem o_code_Read : FunOk Go.Proofs.Tryd.prog [0, 3, 4] 56 v_code_Read := ⟨⟨Go.Proofs.Tryd.f56, _, by kernel_rfl, rfl, by kernel_rfl, p_code_Read⟩⟩
theorem o_slices_Index_int : FunOk Go.Proofs.Tryd.prog [0, 3, 4] 57 v_slices_Index_int := ⟨⟨Go.Proofs.Tryd.f57, _, by kernel_rfl, rfl, by kernel_rfl, p_slices_Index_int⟩⟩
theorem o_r18_uses : FunOk Go.Proofs.Tryd.prog [0, 3, 4] 58 v_r18_uses := ⟨⟨Go.Proofs.Tryd.f58, _, by kernel_rfl, rfl, by kernel_rfl, p_r18_uses⟩⟩
theorem o_r18_put : FunOk Go.Proofs.Tryd.prog [0, 3, 4] 59 v_r18_put := ⟨⟨Go.Proofs.Tryd.f59, _, by kernel_rfl, rfl, by kernel_rfl, p_r18_put⟩⟩
theorem o_strings_Builder_WriteString : FunOk Go.Proofs.Tryd.prog [0, 3, 4] 61 v_strings_Builder_WriteString := ⟨⟨Go.Proofs.Tryd.f61, _, by kernel_rfl, rfl, by kernel_rfl, p_strings_Builder_WriteString⟩⟩
theorem o_internal_strconv_FormatInt : FunOk Go.Proofs.Tryd.prog [0, 3, 4] 63 v_internal_strconv_FormatInt := ⟨⟨Go.Proofs.Tryd.f63, _, by kernel_rfl, rfl, by kernel_rfl, p_internal_strconv_FormatInt⟩⟩
theorem o_strings_explode : FunOk Go.Proofs.Tryd.prog [0, 3, 4] 64 v_strings_explode := ⟨⟨Go.Proofs.Tryd.f64, _, by kernel_rfl, rfl, by kernel_rfl, p_strings_explode⟩⟩
theorem o_strings_Count : FunOk Go.Proofs.Tryd.prog [0, 3, 4] 65 v_strings_Count := ⟨⟨Go.Proofs.Tryd.f65, _, by kernel_rfl, rfl, by kernel_rfl, p_strings_Count⟩⟩
theorem o_strings_Index : FunOk Go.Proofs.Tryd.prog [0, 3, 4] 66 v_strings_Index := ⟨⟨Go.Proofs.Tryd.f66, _, by kernel_rfl, rfl, by kernel_rfl, p_strings_Index⟩⟩
theorem o_internal_strconv_ParseInt : FunOk Go.Proofs.Tryd.prog [0, 3, 4] 67 v_internal_strconv_ParseInt := ⟨⟨Go.Proofs.Tryd.f67, _, by kernel_rfl, rfl, by kernel_rfl, p_internal_strconv_ParseInt⟩⟩
theorem o_strconv_baseError : FunOk Go.Proofs.Tryd.prog [0, 3, 4] 70 v_strconv_baseError := ⟨⟨Go.Proofs.Tryd.f70, _, by kernel_rfl, rfl, by kernel_rfl, p_strconv_baseError⟩⟩
theorem o_strconv_bitSizeError : FunOk Go.Proofs.Tryd.prog [0, 3, 4] 71 v_strconv_bitSizeError := ⟨⟨Go.Proofs.Tryd.f71, _, by kernel_rfl, rfl, by kernel_rfl, p_strconv_bitSizeError⟩⟩
theorem o_r18_in : FunOk Go.Proofs.Tryd.prog [0, 3, 4] 72 v_r18_in := ⟨⟨Go.Proofs.Tryd.f72, _, by kernel_rfl, rfl, by kernel_rfl, p_r18_in⟩⟩
theorem o_internal_strconv_small : FunOk Go.Proofs.Tryd.prog [0, 3, 4] 75 v_internal_strconv_small := ⟨⟨Go.Proofs.Tryd.f75, _, by kernel_rfl, rfl, by kernel_rfl, p_internal_strconv_small⟩⟩
theorem o_internal_strconv_numDigits : FunOk Go.Proofs.Tryd.prog [0, 3, 4] 76 v_internal_strconv_numDigits := ⟨⟨Go.Proofs.Tryd.f76, _, by kernel_rfl, rfl, by kernel_rfl, p_internal_strconv_numDigits⟩⟩
theorem o_internal_strconv_formatBase10 : FunOk Go.Proofs.Tryd.prog [0, 3, 4] 77 v_internal_strconv_formatBase10 := ⟨⟨Go.Proofs.Tryd.f77, _, by kernel_rfl, rfl, by kernel_rfl, p_internal_strconv_formatBase10⟩⟩
theorem o_internal_strconv_formatBits : FunOk Go.Proofs.Tryd.prog [0, 3, 4] 78 v_internal_strconv_formatBits := ⟨⟨Go.Proofs.Tryd.f78, _, by kernel_rfl, rfl, by kernel_rfl, p_internal_strconv_formatBits⟩⟩
theorem o_unicode_utf8_DecodeRuneInString : FunOk Go.Proofs.Tryd.prog [0, 3, 4] 80 v_unicode_utf8_DecodeRuneInString := ⟨⟨Go.Proofs.Tryd.f80, _, by kernel_rfl, rfl, by kernel_rfl, p_unicode_utf8_DecodeRuneInString⟩⟩
theorem o_internal_stringslite_Index : FunOk Go.Proofs.Tryd.prog [0, 3, 4] 82 v_internal_stringslite_Index := ⟨⟨Go.Proofs.Tryd.f82, _, by kernel_rfl, rfl, by kernel_rfl, p_internal_stringslite_Index⟩⟩
theorem o_internal_strconv_ParseUint : FunOk Go.Proofs.Tryd.prog [0, 3, 4] 83 v_internal_strconv_ParseUint := ⟨⟨Go.Proofs.Tryd.f83, _, by kernel_rfl, rfl, by kernel_rfl, p_internal_strconv_ParseUint⟩⟩
theorem o_errors_New : FunOk Go.Proofs.Tryd.prog [0, 3, 4] 85 v_errors_New := ⟨⟨Go.Proofs.Tryd.f85, _, by kernel_rfl, rfl, by kernel_rfl, p_errors_New⟩⟩
theorem o_internal_strconv_log10Pow2 : FunOk Go.Proofs.Tryd.prog [0, 3, 4] 88 v_internal_strconv_log10Pow2 := ⟨⟨Go.Proofs.Tryd.f88, _, by kernel_rfl, rfl, by kernel_rfl, p_internal_strconv_log10Pow2⟩⟩
theorem o_math_bits_Len64 : FunOk Go.Proofs.Tryd.prog [0, 3, 4] 89 v_math_bits_Len64 := ⟨⟨Go.Proofs.Tryd.f89, _, by kernel_rfl, rfl, by kernel_rfl, p_math_bits_Len64⟩⟩
theorem o_internal_strconv_bool2_int : FunOk Go.Proofs.Tryd.prog [0, 3, 4] 90 v_internal_strconv_bool2_int := ⟨⟨Go.Proofs.Tryd.f90, _, by kernel_rfl, rfl, by kernel_rfl, p_internal_strconv_bool2_int⟩⟩
theorem o_internal_strconv_isPowerOfTwo : FunOk Go.Proofs.Tryd.prog [0, 3, 4] 91 v_internal_strconv_isPowerOfTwo := ⟨⟨Go.Proofs.Tryd.f91, _, by kernel_rfl, rfl, by kernel_rfl, p_internal_strconv_isPowerOfTwo⟩⟩
theorem o_math_bits_TrailingZeros : FunOk Go.Proofs.Tryd.prog [0, 3, 4] 92 v_math_bits_TrailingZeros := ⟨⟨Go.Proofs.Tryd.f92, _, by kernel_rfl, rfl, by kernel_rfl, p_math_bits_TrailingZeros⟩⟩
theorem o_internal_stringslite_IndexByte : FunOk Go.Proofs.Tryd.prog [0, 3, 4] 94 v_internal_stringslite_IndexByte := ⟨⟨Go.Proofs.Tryd.f94, _, by kernel_rfl, rfl, by kernel_rfl, p_internal_stringslite_IndexByte⟩⟩
theorem o_internal_bytealg_Cutover : FunOk Go.Proofs.Tryd.prog [0, 3, 4] 96 v_internal_bytealg_Cutover := ⟨⟨Go.Proofs.Tryd.f96, _, by kernel_rfl, rfl, by kernel_rfl, p_internal_bytealg_Cutover⟩⟩
theorem o_internal_bytealg_IndexRabinKarp_string : FunOk Go.Proofs.Tryd.prog [0, 3, 4] 97 v_internal_bytealg_IndexRabinKarp_string := ⟨⟨Go.Proofs.Tryd.f97, _, by kernel_rfl, rfl, by kernel_rfl, p_internal_bytealg_IndexRabinKarp_string⟩⟩
theorem o_internal_strconv_lower : FunOk Go.Proofs.Tryd.prog [0, 3, 4] 98 v_internal_strconv_lower := ⟨⟨Go.Proofs.Tryd.f98, _, by kernel_rfl, rfl, by kernel_rfl, p_internal_strconv_lower⟩⟩
theorem o_internal_strconv_underscoreOK : FunOk Go.Proofs.Tryd.prog [0, 3, 4] 99 v_internal_strconv_underscoreOK := ⟨⟨Go.Proofs.Tryd.f99, _, by kernel_rfl, rfl, by kernel_rfl, p_internal_strconv_underscoreOK⟩⟩
theorem o_internal_bytealg_hashStr_string : FunOk Go.Proofs.Tryd.prog [0, 3, 4] 103 v_internal_bytealg_hashStr_string := ⟨⟨Go.Proofs.Tryd.f103, _, by kernel_rfl, rfl, by kernel_rfl, p_internal_bytealg_hashStr_string⟩⟩
theorem fn_ok (f : FuncId) (fn : VFun) (h : fnOf f = some fn) : FunOk Go.Proofs.Tryd.prog [0, 3, 4] f fn := by
  unfold fnOf at h
  split at h
  · cases h; exact o_l19_MachineTogether
  · cases h; exact o_l19_MachineMore
  · cases h; exact o_l19_MachineAlone
  · cases h; exact o_l19_MachineTells
  · cases h; exact o_l19_cut
  · cases h; exact o_machine_Together
  · cases h; exact o_machine_Home
  · cases h; exact o_r19_Check
  · cases h; exact o_r19_Wrong
  · cases h; exact o_l19_alive
  · cases h; exact o_r19_Together
  · cases h; exact o_r19_Home
  · cases h; exact o_machine_Text
  · cases h; exact o_machine_Parse
  · cases h; exact o_machine_Class
  · cases h; exact o_r19_Class
  · cases h; exact o_machine_Latency
  · cases h; exact o_machine_Bank
  · cases h; exact o_machine_Reads
  · cases h; exact o_r19_Reads
  · cases h; exact o_machine_Check
  · cases h; exact o_r19_Latency
  · cases h; exact o_machine_use
  · cases h; exact o__machine_Use_Fits
  · cases h; exact o__machine_Use_Home
  · cases h; exact o_l19_example
  · cases h; exact o_r19_counts
  · cases h; exact o_machine_write
  · cases h; exact o_strconv_Itoa
  · cases h; exact o_strings_Split
  · cases h; exact o_machine_Parse_c1
  · cases h; exact o_strconv_Atoi
  · cases h; exact o_code_Class
  · cases h; exact o_machine_in
  · cases h; exact o_code_Reads
  · cases h; exact o_slices_Contains_int
  · cases h; exact o_r18_Reads
  · cases h; exact o_machine_NewUse
  · cases h; exact o__machine_Use_With
  · cases h; exact o_slices_Max_int
  · cases h; exact o_machine_up
  · cases h; exact o_strings_Join
  · cases h; exact o_internal_strconv_Itoa
  · cases h; exact o_strings_genSplit
  · cases h; exact o_internal_strconv_Atoi
  · cases h; exact o_strconv_toError
  · cases h; exact o_code_of
  · cases h; exact o_code_Read
  · cases h; exact o_slices_Index_int
  · cases h; exact o_r18_uses
  · cases h; exact o_r18_put
  · cases h; exact o_strings_Builder_WriteString
  · cases h; exact o_internal_strconv_FormatInt
  · cases h; exact o_strings_explode
  · cases h; exact o_strings_Count
  · cases h; exact o_strings_Index
  · cases h; exact o_internal_strconv_ParseInt
  · cases h; exact o_strconv_baseError
  · cases h; exact o_strconv_bitSizeError
  · cases h; exact o_r18_in
  · cases h; exact o_internal_strconv_small
  · cases h; exact o_internal_strconv_numDigits
  · cases h; exact o_internal_strconv_formatBase10
  · cases h; exact o_internal_strconv_formatBits
  · cases h; exact o_unicode_utf8_DecodeRuneInString
  · cases h; exact o_internal_stringslite_Index
  · cases h; exact o_internal_strconv_ParseUint
  · cases h; exact o_errors_New
  · cases h; exact o_internal_strconv_log10Pow2
  · cases h; exact o_math_bits_Len64
  · cases h; exact o_internal_strconv_bool2_int
  · cases h; exact o_internal_strconv_isPowerOfTwo
  · cases h; exact o_math_bits_TrailingZeros
  · cases h; exact o_internal_stringslite_IndexByte
  · cases h; exact o_internal_bytealg_Cutover
  · cases h; exact o_internal_bytealg_IndexRabinKarp_string
  · cases h; exact o_internal_strconv_lower
  · cases h; exact o_internal_strconv_underscoreOK
  · cases h; exact o_internal_bytealg_hashStr_string
  · cases h
/-- The functions of the seat, and whatever more is told. -/
structure On (X : Cx) : Prop where
  F : X.F = fnOf
  P : X.P = Go.Proofs.Tryd.prog
end Go.VX.Seat
end
