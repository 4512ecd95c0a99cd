/- A part of the proofs of the statements of one layer: L1, L2, L3, L4, L5, L6. No condition is added here. -/
import Derived.Test.YtcemloapifojkaaGreatDoorChecked
import Derived.Test.YtcemloapifojkaaGreatDoorXA7
section
set_option maxRecDepth 20000
/-! MADE BY PROGRAM (lits.py): functions as they are prepared. -/
namespace Go.VX.Seat
def v_l07_CodeTells : VFun :=
⟨.seq (.reg [⟨0, (some 1), .box (.tmp 0), none, []⟩,
 ⟨1, (some 2), .mv (.con (.bool false)), none, []⟩])
 (.seq (.reg [⟨0, (some 15), .load (some 7) (.tmp 1), none, []⟩,
 ⟨1, (some 16), .call 22 [(.tmp 15)], none, []⟩,
 ⟨2, (some 14), .mv (.tmp 16), none, []⟩,
 ⟨3, (some 17), .ext (.tmp 14) 0, none, []⟩,
 ⟨4, (some 18), .ext (.tmp 14) 1, none, []⟩,
 ⟨5, (some 3), .mv (.tmp 17), none, []⟩,
 ⟨6, (some 4), .mv (.tmp 18), none, []⟩])
 (.seq (.reg [⟨0, (some 20), .load (some 7) (.tmp 1), none, []⟩,
 ⟨1, (some 21), .call 23 [(.tmp 20)], none, []⟩,
 ⟨2, (some 19), .mv (.tmp 21), none, []⟩,
 ⟨3, (some 22), .ext (.tmp 19) 0, none, []⟩,
 ⟨4, (some 23), .ext (.tmp 19) 1, none, []⟩,
 ⟨5, (some 24), .ext (.tmp 19) 2, none, []⟩,
 ⟨6, (some 5), .mv (.tmp 22), none, []⟩,
 ⟨7, (some 6), .mv (.tmp 23), none, []⟩,
 ⟨8, (some 7), .mv (.tmp 24), none, []⟩])
 (.seq (.reg [⟨0, (some 26), .fieldA 0 (.tmp 1), none, []⟩,
 ⟨1, (some 27), .load none (.tmp 26), none, []⟩,
 ⟨2, (some 28), .call 24 [(.tmp 27)], none, []⟩,
 ⟨3, (some 25), .mv (.tmp 28), none, []⟩,
 ⟨4, (some 29), .ext (.tmp 25) 0, none, []⟩,
 ⟨5, (some 30), .ext (.tmp 25) 1, none, []⟩,
 ⟨6, (some 8), .mv (.tmp 29), none, []⟩,
 ⟨7, (some 9), .mv (.tmp 30), none, []⟩])
 (.seq (.reg [⟨0, (some 32), .fieldA 0 (.tmp 1), none, []⟩,
 ⟨1, (some 33), .load none (.tmp 32), none, []⟩,
 ⟨2, (some 34), .call 25 [(.tmp 33)], none, []⟩,
 ⟨3, (some 31), .mv (.tmp 34), none, []⟩,
 ⟨4, (some 35), .ext (.tmp 31) 0, none, []⟩,
 ⟨5, (some 36), .ext (.tmp 31) 1, none, []⟩,
 ⟨6, (some 10), .mv (.tmp 35), none, []⟩,
 ⟨7, (some 11), .mv (.tmp 36), none, []⟩])
 (.seq (.seq (.reg [⟨0, (some 37), .fieldA 0 (.tmp 1), none, []⟩,
 ⟨1, (some 38), .load none (.tmp 37), none, []⟩,
 ⟨2, (some 39), .call 26 [(.tmp 38)], none, []⟩,
 ⟨3, (some 40), .un .not (.tmp 39), none, []⟩])
 (.cond (.tmp 40)
 (.seq (.reg [⟨0, (some 41), .mv (.tmp 3), none, []⟩,
 ⟨1, (some 42), .len (.tmp 41), none, []⟩,
 ⟨2, (some 43), .bin .eql 3 true (.tmp 42) (.con (.int .i64 0)), none, []⟩,
 ⟨3, (some 44), .mv (.tmp 43), none, []⟩,
 ⟨4, (some 45), .mv (.tmp 4), (some (44, true)), []⟩,
 ⟨5, (some 46), .bin .eql 27 true (.tmp 45) (.con (.int .i64 4)), (some (44, true)), []⟩,
 ⟨6, (some 47), .pick (.tmp 44) (.tmp 46) (.con (.bool false)), none, []⟩,
 ⟨7, (some 48), .mv (.tmp 47), none, []⟩,
 ⟨8, (some 49), .mv (.tmp 5), (some (48, true)), []⟩,
 ⟨9, (some 50), .bin .eql 3 true (.tmp 49) (.con (.int .i64 0)), (some (48, true)), []⟩,
 ⟨10, (some 51), .pick (.tmp 48) (.tmp 50) (.con (.bool false)), none, []⟩,
 ⟨11, (some 52), .mv (.tmp 51), none, []⟩,
 ⟨12, (some 53), .mv (.tmp 6), (some (52, true)), []⟩,
 ⟨13, (some 54), .un .not (.tmp 53), (some (52, true)), []⟩,
 ⟨14, (some 55), .pick (.tmp 52) (.tmp 54) (.con (.bool false)), none, []⟩,
 ⟨15, (some 56), .mv (.tmp 55), none, []⟩,
 ⟨16, (some 57), .mv (.tmp 7), (some (56, true)), []⟩,
 ⟨17, (some 58), .bin .eql 27 true (.tmp 57) (.con (.int .i64 4)), (some (56, true)), []⟩,
 ⟨18, (some 59), .pick (.tmp 56) (.tmp 58) (.con (.bool false)), none, []⟩,
 ⟨19, (some 60), .mv (.tmp 59), none, []⟩,
 ⟨20, (some 61), .mv (.tmp 8), (some (60, true)), []⟩,
 ⟨21, (some 62), .bin .eql 3 true (.tmp 61) (.con (.int .i64 0)), (some (60, true)), []⟩,
 ⟨22, (some 63), .pick (.tmp 60) (.tmp 62) (.con (.bool false)), none, []⟩,
 ⟨23, (some 64), .mv (.tmp 63), none, []⟩,
 ⟨24, (some 65), .mv (.tmp 9), (some (64, true)), []⟩,
 ⟨25, (some 66), .bin .eql 27 true (.tmp 65) (.con (.int .i64 4)), (some (64, true)), []⟩,
 ⟨26, (some 67), .pick (.tmp 64) (.tmp 66) (.con (.bool false)), none, []⟩,
 ⟨27, (some 68), .mv (.tmp 67), none, []⟩,
 ⟨28, (some 69), .mv (.tmp 10), (some (68, true)), []⟩,
 ⟨29, (some 70), .bin .eql 9 true (.tmp 69) (.con (.string ⟨#[]⟩)), (some (68, true)), []⟩,
 ⟨30, (some 71), .pick (.tmp 68) (.tmp 70) (.con (.bool false)), none, []⟩,
 ⟨31, (some 72), .mv (.tmp 71), none, []⟩,
 ⟨32, (some 73), .mv (.tmp 11), (some (72, true)), []⟩,
 ⟨33, (some 74), .bin .eql 27 true (.tmp 73) (.con (.int .i64 4)), (some (72, true)), []⟩,
 ⟨34, (some 75), .pick (.tmp 72) (.tmp 74) (.con (.bool false)), none, []⟩,
 ⟨35, (some 76), .mv (.tmp 75), none, []⟩,
 ⟨36, (some 77), .call 12 [], (some (76, true)), []⟩,
 ⟨37, (some 78), .pick (.tmp 76) (.tmp 77) (.con (.bool false)), none, []⟩,
 ⟨38, (some 2), .mv (.tmp 78), none, []⟩])
 (.ret))
 (.skip)))
 (.seq (.reg [⟨0, (some 80), .load (some 7) (.tmp 1), none, []⟩,
 ⟨1, (some 81), .call 27 [(.tmp 80)], none, []⟩,
 ⟨2, (some 79), .mv (.tmp 81), none, []⟩,
 ⟨3, (some 82), .ext (.tmp 79) 0, none, []⟩,
 ⟨4, (some 83), .ext (.tmp 79) 1, none, []⟩,
 ⟨5, (some 12), .mv (.tmp 82), none, []⟩,
 ⟨6, (some 13), .mv (.tmp 83), none, []⟩])
 (.seq (.reg [⟨0, (some 84), .mv (.tmp 3), none, []⟩,
 ⟨1, (some 85), .load (some 7) (.tmp 1), none, []⟩,
 ⟨2, (some 86), .call 29 [(.tmp 85)], none, []⟩,
 ⟨3, (some 87), .call 28 [(.tmp 84), (.tmp 86)], none, []⟩,
 ⟨4, (some 88), .mv (.tmp 87), none, []⟩,
 ⟨5, (some 89), .mv (.tmp 4), (some (88, true)), []⟩,
 ⟨6, (some 90), .bin .eql 27 true (.tmp 89) (.con (.int .i64 0)), (some (88, true)), []⟩,
 ⟨7, (some 91), .pick (.tmp 88) (.tmp 90) (.con (.bool false)), none, []⟩,
 ⟨8, (some 92), .mv (.tmp 91), none, []⟩,
 ⟨9, (some 93), .mv (.tmp 5), (some (92, true)), []⟩,
 ⟨10, (some 94), .mv (.tmp 12), (some (92, true)), []⟩,
 ⟨11, (some 95), .bin .eql 3 false (.tmp 93) (.tmp 94), (some (92, true)), []⟩,
 ⟨12, (some 96), .pick (.tmp 92) (.tmp 95) (.con (.bool false)), none, []⟩,
 ⟨13, (some 97), .mv (.tmp 96), none, []⟩,
 ⟨14, (some 98), .mv (.tmp 6), (some (97, true)), []⟩,
 ⟨15, (some 99), .mv (.tmp 13), (some (97, true)), []⟩,
 ⟨16, (some 100), .bin .eql 4 false (.tmp 98) (.tmp 99), (some (97, true)), []⟩,
 ⟨17, (some 101), .pick (.tmp 97) (.tmp 100) (.con (.bool false)), none, []⟩,
 ⟨18, (some 102), .mv (.tmp 101), none, []⟩,
 ⟨19, (some 103), .mv (.tmp 7), (some (102, true)), []⟩,
 ⟨20, (some 104), .bin .eql 27 true (.tmp 103) (.con (.int .i64 0)), (some (102, true)), []⟩,
 ⟨21, (some 105), .pick (.tmp 102) (.tmp 104) (.con (.bool false)), none, []⟩,
 ⟨22, (some 106), .mv (.tmp 105), none, []⟩,
 ⟨23, (some 107), .mv (.tmp 8), (some (106, true)), []⟩,
 ⟨24, (some 108), .fieldA 0 (.tmp 1), (some (106, true)), []⟩,
 ⟨25, (some 109), .load none (.tmp 108), (some (106, true)), []⟩,
 ⟨26, (some 110), .call 30 [(.tmp 109)], (some (106, true)), []⟩,
 ⟨27, (some 111), .bin .eql 3 false (.tmp 107) (.tmp 110), (some (106, true)), []⟩,
 ⟨28, (some 112), .pick (.tmp 106) (.tmp 111) (.con (.bool false)), none, []⟩,
 ⟨29, (some 113), .mv (.tmp 112), none, []⟩,
 ⟨30, (some 114), .mv (.tmp 9), (some (113, true)), []⟩,
 ⟨31, (some 115), .bin .eql 27 true (.tmp 114) (.con (.int .i64 0)), (some (113, true)), []⟩,
 ⟨32, (some 116), .pick (.tmp 113) (.tmp 115) (.con (.bool false)), none, []⟩,
 ⟨33, (some 117), .mv (.tmp 116), none, []⟩,
 ⟨34, (some 118), .mv (.tmp 10), (some (117, true)), []⟩,
 ⟨36, (some 120), .fieldA 0 (.tmp 1), (some (117, true)), []⟩,
 ⟨37, (some 121), .load none (.tmp 120), (some (117, true)), []⟩,
 ⟨38, (some 122), .bin .sub 3 true (.tmp 121) (.con (.int .i64 1)), (some (117, true)), []⟩,
 ⟨35, (some 119), .call 31 [], (some (117, true)), [(.tmp 120)]⟩,
 ⟨39, (some 123), .idxA none 1 (.tmp 119) (.tmp 122), (some (117, true)), []⟩,
 ⟨40, (some 124), .load none (.tmp 123), (some (117, true)), []⟩,
 ⟨41, (some 125), .bin .eql 9 false (.tmp 118) (.tmp 124), (some (117, true)), []⟩,
 ⟨42, (some 126), .pick (.tmp 117) (.tmp 125) (.con (.bool false)), none, []⟩,
 ⟨43, (some 127), .mv (.tmp 126), none, []⟩,
 ⟨44, (some 128), .mv (.tmp 11), (some (127, true)), []⟩,
 ⟨45, (some 129), .bin .eql 27 true (.tmp 128) (.con (.int .i64 0)), (some (127, true)), []⟩,
 ⟨46, (some 130), .pick (.tmp 127) (.tmp 129) (.con (.bool false)), none, []⟩,
 ⟨47, (some 131), .mv (.tmp 130), none, []⟩,
 ⟨48, (some 132), .call 12 [], (some (131, true)), []⟩,
 ⟨49, (some 133), .pick (.tmp 131) (.tmp 132) (.con (.bool false)), none, []⟩,
 ⟨50, (some 2), .mv (.tmp 133), none, []⟩])
 (.ret)))))))),
 [.tmp 2]⟩
theorem p_l07_CodeTells : prepFun Go.Proofs.Tryz.prog [1, 0, 2, 3] Go.Proofs.Tryz.f6 = some v_l07_CodeTells := by kernel_rfl

def v_code_Text : VFun :=
⟨.seq (.reg [⟨0, (some 1), .box (.tmp 0), none, []⟩,
 ⟨1, (some 2), .mv (.con (.string ⟨#[]⟩)), none, []⟩,
 ⟨2, (some 3), .mv (.con (.int .i64 0)), none, []⟩])
 (.seq (.seq (.reg [⟨0, (some 14), .load (some 6) (.tmp 1), none, []⟩,
 ⟨1, (some 15), .call 20 [(.tmp 14)], none, []⟩,
 ⟨2, (some 4), .mv (.tmp 15), none, []⟩])
 (.seq (.reg [⟨0, (some 16), .mv (.tmp 4), none, []⟩,
 ⟨1, (some 17), .bin .neq 27 true (.tmp 16) (.con (.int .i64 0)), none, []⟩])
 (.cond (.tmp 17)
 (.seq (.reg [⟨0, (some 18), .mv (.tmp 4), none, []⟩,
 ⟨1, (some 2), .mv (.con (.string ⟨#[]⟩)), none, []⟩,
 ⟨2, (some 3), .mv (.tmp 18), none, []⟩])
 (.ret))
 (.skip))))
 (.seq (.reg [⟨0, (some 5), .allocF [(.int .i64 1), (.int .i64 81), (.int .i64 5), (.string ⟨#[]⟩)], none, []⟩])
 (.seq (.reg [⟨0, (some 19), .call 39 [(.tmp 5), (.con (.string ⟨#[117, 110, 105, 116]⟩))], none, []⟩])
 (.seq (.seq (.reg [⟨0, (some 20), .fieldA 1 (.tmp 1), none, []⟩,
 ⟨1, (some 21), .load none (.tmp 20), none, []⟩,
 ⟨2, (some 22), .fieldA 2 (.tmp 1), none, []⟩,
 ⟨3, (some 23), .load none (.tmp 22), none, []⟩,
 ⟨4, (some 24), .fieldA 3 (.tmp 1), none, []⟩,
 ⟨5, (some 25), .load none (.tmp 24), none, []⟩,
 ⟨6, (some 26), .fieldA 4 (.tmp 1), none, []⟩,
 ⟨7, (some 27), .load none (.tmp 26), none, []⟩,
 ⟨8, (some 28), .bslice 1 4 [(.int .i64 0)] [(0, 1, (.tmp 21)), (1, 1, (.tmp 23)), (2, 1, (.tmp 25)), (3, 1, (.tmp 27))], none, []⟩,
 ⟨9, (some 29), .len (.tmp 28), none, []⟩,
 ⟨10, (some 30), .mv (.con (.int .i64 0)), none, []⟩])
 (.block 0
 (.loop
 (.seq (.reg [⟨0, (some 31), .bin .lss 3 false (.tmp 30) (.tmp 29), none, []⟩])
 (.seq (.cond (.tmp 31)
 (.skip)
 (.exit 0))
 (.seq (.block 1
 (.seq (.reg [⟨0, (some 32), .idxA none 1 (.tmp 28) (.tmp 30), none, []⟩,
 ⟨1, (some 33), .load none (.tmp 32), none, []⟩,
 ⟨2, (some 7), .mv (.tmp 33), none, []⟩])
 (.reg [⟨0, (some 34), .mv (.tmp 7), none, []⟩,
 ⟨1, (some 35), .call 40 [(.tmp 34)], none, []⟩,
 ⟨2, (some 36), .bin .add 9 true (.con (.string ⟨#[32]⟩)) (.tmp 35), none, []⟩,
 ⟨3, (some 37), .call 39 [(.tmp 5), (.tmp 36)], none, []⟩])))
 (.reg [⟨0, (some 38), .bin .add 3 true (.tmp 30) (.con (.int .i64 1)), none, []⟩,
 ⟨1, (some 30), .mv (.tmp 38), none, []⟩])))))))
 (.seq (.reg [⟨0, (some 39), .call 39 [(.tmp 5), (.con (.string ⟨#[10]⟩))], none, []⟩])
 (.seq (.seq (.reg [⟨0, (some 40), .fieldA 0 (.tmp 1), none, []⟩,
 ⟨1, (some 41), .load none (.tmp 40), none, []⟩,
 ⟨2, (some 42), .len (.tmp 41), none, []⟩,
 ⟨3, (some 43), .mv (.con (.int .i64 0)), none, []⟩])
 (.block 2
 (.loop
 (.seq (.reg [⟨0, (some 44), .bin .lss 3 false (.tmp 43) (.tmp 42), none, []⟩])
 (.seq (.cond (.tmp 44)
 (.skip)
 (.exit 2))
 (.seq (.block 3
 (.seq (.reg [⟨0, (some 45), .idxA none 1 (.tmp 41) (.tmp 43), none, []⟩,
 ⟨1, (some 46), .load none (.tmp 45), none, []⟩,
 ⟨2, (some 9), .mv (.tmp 46), none, []⟩])
 (.reg [⟨0, (some 47), .mv (.tmp 9), none, []⟩,
 ⟨1, (some 48), .call 40 [(.tmp 47)], none, []⟩,
 ⟨2, (some 49), .bin .add 9 true (.con (.string ⟨#[97, 114, 114, 97, 121, 32]⟩)) (.tmp 48), none, []⟩,
 ⟨3, (some 50), .bin .add 9 true (.tmp 49) (.con (.string ⟨#[10]⟩)), none, []⟩,
 ⟨4, (some 51), .call 39 [(.tmp 5), (.tmp 50)], none, []⟩])))
 (.reg [⟨0, (some 52), .bin .add 3 true (.tmp 43) (.con (.int .i64 1)), none, []⟩,
 ⟨1, (some 43), .mv (.tmp 52), none, []⟩])))))))
 (.seq (.seq (.reg [⟨0, (some 53), .fieldA 5 (.tmp 1), none, []⟩,
 ⟨1, (some 54), .load none (.tmp 53), none, []⟩,
 ⟨2, (some 55), .len (.tmp 54), none, []⟩,
 ⟨3, (some 56), .mv (.con (.int .i64 0)), none, []⟩])
 (.block 4
 (.loop
 (.seq (.reg [⟨0, (some 57), .bin .lss 3 false (.tmp 56) (.tmp 55), none, []⟩])
 (.seq (.cond (.tmp 57)
 (.skip)
 (.exit 4))
 (.seq (.block 5
 (.seq (.reg [⟨0, (some 58), .idxA none 6 (.tmp 54) (.tmp 56), none, []⟩,
 ⟨1, (some 59), .load (some 6) (.tmp 58), none, []⟩,
 ⟨2, (some 11), .alloc [(.slice none 0 0), (.int .i64 0), (.int .i64 0), (.int .i64 0), (.int .i64 0), (.int .i64 0)], none, []⟩,
 ⟨3, none, .store 6 (.tmp 11) (.tmp 59), none, []⟩])
 (.seq (.reg [⟨0, (some 60), .fieldA 5 (.tmp 11), none, []⟩,
 ⟨1, (some 61), .load none (.tmp 60), none, []⟩,
 ⟨2, (some 62), .call 40 [(.tmp 61)], none, []⟩,
 ⟨3, (some 63), .bin .add 9 true (.con (.string ⟨#[98, 108, 111, 99, 107, 32]⟩)) (.tmp 62), none, []⟩,
 ⟨4, (some 64), .bin .add 9 true (.tmp 63) (.con (.string ⟨#[10]⟩)), none, []⟩,
 ⟨5, (some 65), .call 39 [(.tmp 5), (.tmp 64)], none, []⟩])
 (.seq (.seq (.reg [⟨0, (some 66), .fieldA 0 (.tmp 11), none, []⟩,
 ⟨1, (some 67), .load none (.tmp 66), none, []⟩,
 ⟨2, (some 68), .len (.tmp 67), none, []⟩,
 ⟨3, (some 69), .mv (.con (.int .i64 0)), none, []⟩])
 (.block 6
 (.loop
 (.seq (.reg [⟨0, (some 70), .bin .lss 3 false (.tmp 69) (.tmp 68), none, []⟩])
 (.seq (.cond (.tmp 70)
 (.skip)
 (.exit 6))
 (.seq (.block 7
 (.seq (.reg [⟨0, (some 71), .idxA none 7 (.tmp 67) (.tmp 69), none, []⟩,
 ⟨1, (some 72), .load (some 7) (.tmp 71), none, []⟩,
 ⟨2, (some 13), .alloc [(.int .i64 0), (.int .i64 0), (.int .i64 0), (.int .i64 0), (.int .i64 0), (.int .i64 0), (.int .i64 0)], none, []⟩,
 ⟨3, none, .store 7 (.tmp 13) (.tmp 72), none, []⟩])
 (.reg [⟨0, (some 73), .load (some 7) (.tmp 13), none, []⟩,
 ⟨1, (some 74), .call 41 [(.tmp 73)], none, []⟩,
 ⟨2, (some 75), .bin .add 9 true (.con (.string ⟨#[32, 32]⟩)) (.tmp 74), none, []⟩,
 ⟨3, (some 76), .bin .add 9 true (.tmp 75) (.con (.string ⟨#[10]⟩)), none, []⟩,
 ⟨4, (some 77), .call 39 [(.tmp 5), (.tmp 76)], none, []⟩])))
 (.reg [⟨0, (some 78), .bin .add 3 true (.tmp 69) (.con (.int .i64 1)), none, []⟩,
 ⟨1, (some 69), .mv (.tmp 78), none, []⟩])))))))
 (.reg [⟨0, (some 79), .fieldA 1 (.tmp 11), none, []⟩,
 ⟨1, (some 80), .load (some 4) (.tmp 79), none, []⟩,
 ⟨2, (some 81), .call 42 [(.tmp 80)], none, []⟩,
 ⟨3, (some 82), .bin .add 9 true (.con (.string ⟨#[32, 32]⟩)) (.tmp 81), none, []⟩,
 ⟨4, (some 83), .bin .add 9 true (.tmp 82) (.con (.string ⟨#[10]⟩)), none, []⟩,
 ⟨5, (some 84), .call 39 [(.tmp 5), (.tmp 83)], none, []⟩])))))
 (.reg [⟨0, (some 85), .bin .add 3 true (.tmp 56) (.con (.int .i64 1)), none, []⟩,
 ⟨1, (some 56), .mv (.tmp 85), none, []⟩])))))))
 (.seq (.reg [⟨0, (some 86), .call 43 [(.tmp 5)], none, []⟩,
 ⟨1, (some 2), .mv (.tmp 86), none, []⟩,
 ⟨2, (some 3), .mv (.con (.int .i64 0)), none, []⟩])
 (.ret))))))))),
 [.tmp 2, .tmp 3]⟩
theorem p_code_Text : prepFun Go.Proofs.Tryz.prog [1, 0, 2, 3] Go.Proofs.Tryz.f10 = some v_code_Text := by kernel_rfl

def v_r07_Check : VFun :=
⟨.seq (.reg [⟨0, (some 1), .box (.tmp 0), none, []⟩,
 ⟨1, (some 2), .mv (.con (.int .i64 0)), none, []⟩])
 (.seq (.reg [⟨0, (some 7), .load (some 6) (.tmp 1), none, []⟩,
 ⟨1, (some 8), .call 17 [(.tmp 7)], none, []⟩,
 ⟨2, (some 6), .mv (.tmp 8), none, []⟩,
 ⟨3, (some 9), .ext (.tmp 6) 0, none, []⟩,
 ⟨4, (some 10), .ext (.tmp 6) 1, none, []⟩,
 ⟨5, (some 11), .ext (.tmp 6) 2, none, []⟩,
 ⟨6, (some 3), .mv (.tmp 9), none, []⟩,
 ⟨7, (some 4), .mv (.tmp 10), none, []⟩,
 ⟨8, (some 5), .mv (.tmp 11), none, []⟩])
 (.seq (.reg [⟨0, (some 12), .mv (.tmp 3), none, []⟩,
 ⟨1, (some 2), .mv (.tmp 12), none, []⟩])
 (.ret))),
 [.tmp 2]⟩
theorem p_r07_Check : prepFun Go.Proofs.Tryz.prog [1, 0, 2, 3] Go.Proofs.Tryz.f11 = some v_r07_Check := by kernel_rfl

def v_l07_alive : VFun :=
⟨.seq (.reg [⟨0, (some 0), .mv (.con (.bool false)), none, []⟩])
 (.seq (.reg [⟨0, (some 10), .call 14 [(.con (.string ⟨#[117, 110, 105, 116, 32, 49, 32, 51, 32, 48, 32, 48, 10, 98, 108, 111, 99, 107, 32, 45, 49, 10, 32, 32, 49, 32, 61, 32, 99, 111, 110, 115, 116, 32, 50, 10, 32, 32, 50, 32, 61, 32, 109, 117, 108, 32, 48, 32, 49, 10, 32, 32, 112, 114, 105, 110, 116, 32, 50, 10, 32, 32, 114, 101, 116, 117, 114, 110, 32, 50, 10]⟩))], none, []⟩,
 ⟨1, (some 9), .mv (.tmp 10), none, []⟩,
 ⟨2, (some 11), .ext (.tmp 9) 0, none, []⟩,
 ⟨3, (some 12), .ext (.tmp 9) 1, none, []⟩,
 ⟨4, (some 13), .ext (.tmp 9) 2, none, []⟩,
 ⟨5, (some 1), .alloc [(.slice none 0 0), (.int .i64 0), (.int .i64 0), (.int .i64 0), (.int .i64 0), (.slice none 0 0)], none, []⟩,
 ⟨6, none, .store 6 (.tmp 1) (.tmp 11), none, []⟩,
 ⟨7, (some 2), .mv (.tmp 12), none, []⟩,
 ⟨8, (some 3), .mv (.tmp 13), none, []⟩])
 (.seq (.reg [⟨0, (some 15), .load (some 6) (.tmp 1), none, []⟩,
 ⟨1, (some 16), .call 10 [(.tmp 15)], none, []⟩,
 ⟨2, (some 14), .mv (.tmp 16), none, []⟩,
 ⟨3, (some 17), .ext (.tmp 14) 0, none, []⟩,
 ⟨4, (some 18), .ext (.tmp 14) 1, none, []⟩,
 ⟨5, (some 4), .mv (.tmp 17), none, []⟩,
 ⟨6, (some 5), .mv (.tmp 18), none, []⟩])
 (.seq (.reg [⟨0, (some 20), .call 14 [(.con (.string ⟨#[117, 110, 105, 116, 32, 49, 32, 51, 32, 48, 32, 48, 10, 98, 108, 111, 99, 107, 32, 45, 49, 10, 32, 32, 49, 32, 61, 32, 99, 111, 110, 116, 115, 32, 50, 10]⟩))], none, []⟩,
 ⟨1, (some 19), .mv (.tmp 20), none, []⟩,
 ⟨2, (some 21), .ext (.tmp 19) 0, none, []⟩,
 ⟨3, (some 22), .ext (.tmp 19) 1, none, []⟩,
 ⟨4, (some 23), .ext (.tmp 19) 2, none, []⟩,
 ⟨5, (some 6), .alloc [(.slice none 0 0), (.int .i64 0), (.int .i64 0), (.int .i64 0), (.int .i64 0), (.slice none 0 0)], none, []⟩,
 ⟨6, none, .store 6 (.tmp 6) (.tmp 21), none, []⟩,
 ⟨7, (some 7), .mv (.tmp 22), none, []⟩,
 ⟨8, (some 8), .mv (.tmp 23), none, []⟩])
 (.seq (.reg [⟨0, (some 24), .mv (.tmp 3), none, []⟩,
 ⟨1, (some 25), .bin .eql 27 true (.tmp 24) (.con (.int .i64 0)), none, []⟩,
 ⟨2, (some 26), .mv (.tmp 25), none, []⟩,
 ⟨3, (some 27), .mv (.tmp 2), (some (26, true)), []⟩,
 ⟨4, (some 28), .bin .eql 3 true (.tmp 27) (.con (.int .i64 0)), (some (26, true)), []⟩,
 ⟨5, (some 29), .pick (.tmp 26) (.tmp 28) (.con (.bool false)), none, []⟩,
 ⟨6, (some 30), .mv (.tmp 29), none, []⟩,
 ⟨7, (some 31), .mv (.tmp 5), (some (30, true)), []⟩,
 ⟨8, (some 32), .bin .eql 27 true (.tmp 31) (.con (.int .i64 0)), (some (30, true)), []⟩,
 ⟨9, (some 33), .pick (.tmp 30) (.tmp 32) (.con (.bool false)), none, []⟩,
 ⟨10, (some 34), .mv (.tmp 33), none, []⟩,
 ⟨11, (some 35), .mv (.tmp 4), (some (34, true)), []⟩,
 ⟨12, (some 36), .bin .eql 9 true (.tmp 35) (.con (.string ⟨#[117, 110, 105, 116, 32, 49, 32, 51, 32, 48, 32, 48, 10, 98, 108, 111, 99, 107, 32, 45, 49, 10, 32, 32, 49, 32, 61, 32, 99, 111, 110, 115, 116, 32, 50, 10, 32, 32, 50, 32, 61, 32, 109, 117, 108, 32, 48, 32, 49, 10, 32, 32, 112, 114, 105, 110, 116, 32, 50, 10, 32, 32, 114, 101, 116, 117, 114, 110, 32, 50, 10]⟩)), (some (34, true)), []⟩,
 ⟨13, (some 37), .pick (.tmp 34) (.tmp 36) (.con (.bool false)), none, []⟩,
 ⟨14, (some 38), .mv (.tmp 37), none, []⟩,
 ⟨15, (some 39), .mv (.tmp 8), (some (38, true)), []⟩,
 ⟨16, (some 40), .bin .eql 27 true (.tmp 39) (.con (.int .i64 4)), (some (38, true)), []⟩,
 ⟨17, (some 41), .pick (.tmp 38) (.tmp 40) (.con (.bool false)), none, []⟩,
 ⟨18, (some 42), .mv (.tmp 41), none, []⟩,
 ⟨19, (some 43), .mv (.tmp 7), (some (42, true)), []⟩,
 ⟨20, (some 44), .bin .eql 3 true (.tmp 43) (.con (.int .i64 3)), (some (42, true)), []⟩,
 ⟨21, (some 45), .pick (.tmp 42) (.tmp 44) (.con (.bool false)), none, []⟩,
 ⟨22, (some 46), .mv (.tmp 45), none, []⟩,
 ⟨23, (some 47), .build [(.slice none 0 0), (.int .i64 0), (.int .i64 0), (.int .i64 0), (.int .i64 0), (.slice none 0 0)] [], (some (46, true)), []⟩,
 ⟨24, (some 48), .call 20 [(.tmp 47)], (some (46, true)), []⟩,
 ⟨25, (some 49), .bin .eql 27 true (.tmp 48) (.con (.int .i64 3)), (some (46, true)), []⟩,
 ⟨26, (some 50), .pick (.tmp 46) (.tmp 49) (.con (.bool false)), none, []⟩,
 ⟨27, (some 0), .mv (.tmp 50), none, []⟩])
 (.ret))))),
 [.tmp 0]⟩
theorem p_l07_alive : prepFun Go.Proofs.Tryz.prog [1, 0, 2, 3] Go.Proofs.Tryz.f12 = some v_l07_alive := by kernel_rfl

def v_code_Parse : VFun :=
⟨.seq (.reg [⟨0, (some 2), .alloc [(.slice none 0 0), (.int .i64 0), (.int .i64 0), (.int .i64 0), (.int .i64 0), (.slice none 0 0)], none, []⟩,
 ⟨1, (some 3), .mv (.con (.int .i64 0)), none, []⟩,
 ⟨2, (some 4), .mv (.con (.int .i64 0)), none, []⟩])
 (.seq (.seq (.reg [⟨0, (some 8), .mv (.tmp 0), none, []⟩,
 ⟨1, (some 9), .bi .len [9] 3 [(.tmp 8)], none, []⟩,
 ⟨2, (some 10), .bin .gtr 3 true (.tmp 9) (.con (.int .i64 2000000)), none, []⟩])
 (.cond (.tmp 10)
 (.seq (.reg [⟨0, (some 11), .build [(.slice none 0 0), (.int .i64 0), (.int .i64 0), (.int .i64 0), (.int .i64 0), (.slice none 0 0)] [], none, []⟩,
 ⟨1, none, .store 6 (.tmp 2) (.tmp 11), none, []⟩,
 ⟨2, (some 3), .mv (.con (.int .i64 0)), none, []⟩,
 ⟨3, (some 4), .mv (.con (.int .i64 3)), none, []⟩])
 (.ret))
 (.skip)))
 (.seq (.reg [⟨0, (some 5), .alloc [(.slice none 0 0), (.int .i64 0), (.int .i64 0), (.int .i64 0), (.int .i64 0), (.slice none 0 0)], none, []⟩])
 (.seq (.reg [⟨0, (some 12), .mv (.tmp 0), none, []⟩,
 ⟨1, (some 13), .build [(.string ⟨#[]⟩), (.int .i64 0)] [(0, 1, (.tmp 12)), (1, 1, (.con (.int .i64 1)))], none, []⟩,
 ⟨2, (some 14), .box (.tmp 13), none, []⟩,
 ⟨3, (some 6), .mv (.tmp 14), none, []⟩])
 (.seq (.seq (.reg [⟨0, (some 15), .mv (.tmp 6), none, []⟩,
 ⟨1, (some 16), .call 46 [(.tmp 15), (.tmp 5)], none, []⟩,
 ⟨2, (some 17), .un .not (.tmp 16), none, []⟩])
 (.cond (.tmp 17)
 (.seq (.reg [⟨0, (some 18), .build [(.slice none 0 0), (.int .i64 0), (.int .i64 0), (.int .i64 0), (.int .i64 0), (.slice none 0 0)] [], none, []⟩,
 ⟨1, (some 19), .mv (.tmp 6), none, []⟩,
 ⟨2, (some 20), .nilck (.tmp 19), none, []⟩,
 ⟨3, (some 21), .fieldA 1 (.tmp 20), none, []⟩,
 ⟨4, (some 22), .load none (.tmp 21), none, []⟩,
 ⟨5, none, .store 6 (.tmp 2) (.tmp 18), none, [(.tmp 21)]⟩,
 ⟨6, (some 3), .mv (.tmp 22), none, []⟩,
 ⟨7, (some 4), .mv (.con (.int .i64 4)), none, []⟩])
 (.ret))
 (.skip)))
 (.seq (.seq (.reg [⟨0, (some 23), .load (some 6) (.tmp 5), none, []⟩,
 ⟨1, (some 24), .call 20 [(.tmp 23)], none, []⟩,
 ⟨2, (some 7), .mv (.tmp 24), none, []⟩])
 (.seq (.reg [⟨0, (some 25), .mv (.tmp 7), none, []⟩,
 ⟨1, (some 26), .bin .neq 27 true (.tmp 25) (.con (.int .i64 0)), none, []⟩])
 (.cond (.tmp 26)
 (.seq (.reg [⟨0, (some 27), .build [(.slice none 0 0), (.int .i64 0), (.int .i64 0), (.int .i64 0), (.int .i64 0), (.slice none 0 0)] [], none, []⟩,
 ⟨1, (some 28), .mv (.tmp 7), none, []⟩,
 ⟨2, none, .store 6 (.tmp 2) (.tmp 27), none, []⟩,
 ⟨3, (some 3), .mv (.con (.int .i64 0)), none, []⟩,
 ⟨4, (some 4), .mv (.tmp 28), none, []⟩])
 (.ret))
 (.skip))))
 (.seq (.reg [⟨0, (some 29), .load (some 6) (.tmp 5), none, []⟩,
 ⟨1, none, .store 6 (.tmp 2) (.tmp 29), none, []⟩,
 ⟨2, (some 3), .mv (.con (.int .i64 0)), none, []⟩,
 ⟨3, (some 4), .mv (.con (.int .i64 0)), none, []⟩])
 (.ret))))))),
 [.cell 2 (some 6), .tmp 3, .tmp 4]⟩
theorem p_code_Parse : prepFun Go.Proofs.Tryz.prog [1, 0, 2, 3] Go.Proofs.Tryz.f14 = some v_code_Parse := by kernel_rfl

end Go.VX.Seat
end
section
set_option maxRecDepth 20000
/-! MADE BY PROGRAM (lits.py): functions as they are prepared. -/
namespace Go.VX.Seat
def v_r07_Same : VFun :=
⟨.seq (.reg [⟨0, (some 2), .box (.tmp 0), none, []⟩,
 ⟨1, (some 3), .box (.tmp 1), none, []⟩,
 ⟨2, (some 4), .mv (.con (.bool false)), none, []⟩])
 (.seq (.seq (.reg [⟨0, (some 6), .fieldA 0 (.tmp 2), none, []⟩,
 ⟨1, (some 7), .load none (.tmp 6), none, []⟩,
 ⟨2, (some 8), .len (.tmp 7), none, []⟩,
 ⟨3, (some 9), .fieldA 0 (.tmp 3), none, []⟩,
 ⟨4, (some 10), .load none (.tmp 9), none, []⟩,
 ⟨5, (some 11), .len (.tmp 10), none, []⟩,
 ⟨6, (some 12), .bin .neq 3 false (.tmp 8) (.tmp 11), none, []⟩,
 ⟨7, (some 13), .mv (.tmp 12), none, []⟩,
 ⟨8, (some 14), .fieldA 1 (.tmp 2), (some (13, false)), []⟩,
 ⟨9, (some 15), .load none (.tmp 14), (some (13, false)), []⟩,
 ⟨10, (some 16), .fieldA 1 (.tmp 3), (some (13, false)), []⟩,
 ⟨11, (some 17), .load none (.tmp 16), (some (13, false)), []⟩,
 ⟨12, (some 18), .bin .neq 3 false (.tmp 15) (.tmp 17), (some (13, false)), []⟩,
 ⟨13, (some 19), .pick (.tmp 13) (.con (.bool true)) (.tmp 18), none, []⟩,
 ⟨14, (some 20), .mv (.tmp 19), none, []⟩,
 ⟨15, (some 21), .fieldA 2 (.tmp 2), (some (20, false)), []⟩,
 ⟨16, (some 22), .load none (.tmp 21), (some (20, false)), []⟩,
 ⟨17, (some 23), .fieldA 2 (.tmp 3), (some (20, false)), []⟩,
 ⟨18, (some 24), .load none (.tmp 23), (some (20, false)), []⟩,
 ⟨19, (some 25), .bin .neq 3 false (.tmp 22) (.tmp 24), (some (20, false)), []⟩,
 ⟨20, (some 26), .pick (.tmp 20) (.con (.bool true)) (.tmp 25), none, []⟩,
 ⟨21, (some 27), .mv (.tmp 26), none, []⟩,
 ⟨22, (some 28), .fieldA 3 (.tmp 2), (some (27, false)), []⟩,
 ⟨23, (some 29), .load none (.tmp 28), (some (27, false)), []⟩,
 ⟨24, (some 30), .fieldA 3 (.tmp 3), (some (27, false)), []⟩,
 ⟨25, (some 31), .load none (.tmp 30), (some (27, false)), []⟩,
 ⟨26, (some 32), .bin .neq 3 false (.tmp 29) (.tmp 31), (some (27, false)), []⟩,
 ⟨27, (some 33), .pick (.tmp 27) (.con (.bool true)) (.tmp 32), none, []⟩,
 ⟨28, (some 34), .mv (.tmp 33), none, []⟩,
 ⟨29, (some 35), .fieldA 4 (.tmp 2), (some (34, false)), []⟩,
 ⟨30, (some 36), .load none (.tmp 35), (some (34, false)), []⟩,
 ⟨31, (some 37), .fieldA 4 (.tmp 3), (some (34, false)), []⟩,
 ⟨32, (some 38), .load none (.tmp 37), (some (34, false)), []⟩,
 ⟨33, (some 39), .bin .neq 3 false (.tmp 36) (.tmp 38), (some (34, false)), []⟩,
 ⟨34, (some 40), .pick (.tmp 34) (.con (.bool true)) (.tmp 39), none, []⟩])
 (.cond (.tmp 40)
 (.seq (.reg [⟨0, (some 4), .mv (.con (.bool false)), none, []⟩])
 (.ret))
 (.skip)))
 (.seq (.seq (.reg [⟨0, (some 5), .mv (.con (.int .i64 0)), none, []⟩])
 (.block 0
 (.loop
 (.seq (.seq (.reg [⟨0, (some 41), .mv (.tmp 5), none, []⟩,
 ⟨1, (some 42), .fieldA 0 (.tmp 2), none, []⟩,
 ⟨2, (some 43), .load none (.tmp 42), none, []⟩,
 ⟨3, (some 44), .len (.tmp 43), none, []⟩,
 ⟨4, (some 45), .bin .lss 3 false (.tmp 41) (.tmp 44), none, []⟩])
 (.cond (.tmp 45)
 (.skip)
 (.exit 0)))
 (.seq (.block 1
 (.seq (.reg [⟨0, (some 48), .fieldA 0 (.tmp 2), none, []⟩,
 ⟨1, (some 49), .load none (.tmp 48), none, []⟩,
 ⟨2, (some 50), .mv (.tmp 5), none, []⟩,
 ⟨3, (some 51), .idxA none 1 (.tmp 49) (.tmp 50), none, []⟩,
 ⟨4, (some 52), .load none (.tmp 51), none, []⟩,
 ⟨5, (some 53), .fieldA 0 (.tmp 3), none, []⟩,
 ⟨6, (some 54), .load none (.tmp 53), none, []⟩,
 ⟨7, (some 55), .mv (.tmp 5), none, []⟩,
 ⟨8, (some 56), .idxA none 1 (.tmp 54) (.tmp 55), none, []⟩,
 ⟨9, (some 57), .load none (.tmp 56), none, []⟩,
 ⟨10, (some 58), .bin .neq 3 false (.tmp 52) (.tmp 57), none, []⟩])
 (.cond (.tmp 58)
 (.seq (.reg [⟨0, (some 4), .mv (.con (.bool false)), none, []⟩])
 (.ret))
 (.skip))))
 (.reg [⟨0, (some 46), .mv (.tmp 5), none, []⟩,
 ⟨1, (some 47), .bin .add 3 true (.tmp 46) (.con (.int .i64 1)), none, []⟩,
 ⟨2, (some 5), .mv (.tmp 47), none, []⟩]))))))
 (.seq (.reg [⟨0, (some 59), .fieldA 5 (.tmp 2), none, []⟩,
 ⟨1, (some 60), .load none (.tmp 59), none, []⟩,
 ⟨2, (some 61), .fieldA 5 (.tmp 3), none, []⟩,
 ⟨3, (some 62), .load none (.tmp 61), none, []⟩,
 ⟨4, (some 63), .call 49 [(.tmp 60), (.tmp 62)], none, []⟩,
 ⟨5, (some 4), .mv (.tmp 63), none, []⟩])
 (.ret)))),
 [.tmp 4]⟩
theorem p_r07_Same : prepFun Go.Proofs.Tryz.prog [1, 0, 2, 3] Go.Proofs.Tryz.f16 = some v_r07_Same := by kernel_rfl

def v_r07_Find : VFun :=
⟨.seq (.reg [⟨0, (some 1), .box (.tmp 0), none, []⟩,
 ⟨1, (some 2), .mv (.con (.int .i64 0)), none, []⟩,
 ⟨2, (some 3), .mv (.con (.int .i64 0)), none, []⟩,
 ⟨3, (some 4), .mv (.con (.int .i64 0)), none, []⟩])
 (.seq (.seq (.reg [⟨0, (some 12), .fieldA 0 (.tmp 1), none, []⟩,
 ⟨1, (some 13), .load none (.tmp 12), none, []⟩,
 ⟨2, (some 14), .len (.tmp 13), none, []⟩,
 ⟨3, (some 15), .bin .gtr 3 true (.tmp 14) (.con (.int .i64 16)), none, []⟩,
 ⟨4, (some 16), .mv (.tmp 15), none, []⟩,
 ⟨5, (some 17), .fieldA 5 (.tmp 1), (some (16, false)), []⟩,
 ⟨6, (some 18), .load none (.tmp 17), (some (16, false)), []⟩,
 ⟨7, (some 19), .len (.tmp 18), (some (16, false)), []⟩,
 ⟨8, (some 20), .bin .gtr 3 true (.tmp 19) (.con (.int .i64 2000)), (some (16, false)), []⟩,
 ⟨9, (some 21), .pick (.tmp 16) (.con (.bool true)) (.tmp 20), none, []⟩,
 ⟨10, (some 22), .mv (.tmp 21), none, []⟩,
 ⟨11, (some 23), .fieldA 5 (.tmp 1), (some (22, false)), []⟩,
 ⟨12, (some 24), .load none (.tmp 23), (some (22, false)), []⟩,
 ⟨13, (some 25), .len (.tmp 24), (some (22, false)), []⟩,
 ⟨14, (some 26), .bin .eql 3 true (.tmp 25) (.con (.int .i64 0)), (some (22, false)), []⟩,
 ⟨15, (some 27), .pick (.tmp 22) (.con (.bool true)) (.tmp 26), none, []⟩,
 ⟨16, (some 28), .mv (.tmp 27), none, []⟩,
 ⟨17, (some 29), .fieldA 2 (.tmp 1), (some (28, false)), []⟩,
 ⟨18, (some 30), .load none (.tmp 29), (some (28, false)), []⟩,
 ⟨19, (some 31), .bin .gtr 3 true (.tmp 30) (.con (.int .i64 4096)), (some (28, false)), []⟩,
 ⟨20, (some 32), .pick (.tmp 28) (.con (.bool true)) (.tmp 31), none, []⟩,
 ⟨21, (some 33), .mv (.tmp 32), none, []⟩,
 ⟨22, (some 34), .fieldA 4 (.tmp 1), (some (33, false)), []⟩,
 ⟨23, (some 35), .load none (.tmp 34), (some (33, false)), []⟩,
 ⟨24, (some 36), .bin .gtr 3 true (.tmp 35) (.con (.int .i64 4096)), (some (33, false)), []⟩,
 ⟨25, (some 37), .pick (.tmp 33) (.con (.bool true)) (.tmp 36), none, []⟩])
 (.cond (.tmp 37)
 (.seq (.reg [⟨0, (some 2), .mv (.con (.int .i64 3)), none, []⟩,
 ⟨1, (some 3), .mv (.con (.int .i64 0)), none, []⟩,
 ⟨2, (some 4), .mv (.con (.int .i64 0)), none, []⟩])
 (.ret))
 (.skip)))
 (.seq (.seq (.reg [⟨0, (some 5), .mv (.con (.int .i64 0)), none, []⟩])
 (.block 0
 (.loop
 (.seq (.seq (.reg [⟨0, (some 38), .mv (.tmp 5), none, []⟩,
 ⟨1, (some 39), .fieldA 0 (.tmp 1), none, []⟩,
 ⟨2, (some 40), .load none (.tmp 39), none, []⟩,
 ⟨3, (some 41), .len (.tmp 40), none, []⟩,
 ⟨4, (some 42), .bin .lss 3 false (.tmp 38) (.tmp 41), none, []⟩])
 (.cond (.tmp 42)
 (.skip)
 (.exit 0)))
 (.seq (.block 1
 (.seq (.reg [⟨0, (some 45), .fieldA 0 (.tmp 1), none, []⟩,
 ⟨1, (some 46), .load none (.tmp 45), none, []⟩,
 ⟨2, (some 47), .mv (.tmp 5), none, []⟩,
 ⟨3, (some 48), .idxA none 1 (.tmp 46) (.tmp 47), none, []⟩,
 ⟨4, (some 49), .load none (.tmp 48), none, []⟩,
 ⟨5, (some 50), .bin .lss 3 true (.tmp 49) (.con (.int .i64 1)), none, []⟩,
 ⟨6, (some 51), .mv (.tmp 50), none, []⟩,
 ⟨7, (some 52), .fieldA 0 (.tmp 1), (some (51, false)), []⟩,
 ⟨8, (some 53), .load none (.tmp 52), (some (51, false)), []⟩,
 ⟨9, (some 54), .mv (.tmp 5), (some (51, false)), []⟩,
 ⟨10, (some 55), .idxA none 1 (.tmp 53) (.tmp 54), (some (51, false)), []⟩,
 ⟨11, (some 56), .load none (.tmp 55), (some (51, false)), []⟩,
 ⟨12, (some 57), .bin .gtr 3 true (.tmp 56) (.con (.int .i64 65536)), (some (51, false)), []⟩,
 ⟨13, (some 58), .pick (.tmp 51) (.con (.bool true)) (.tmp 57), none, []⟩])
 (.cond (.tmp 58)
 (.seq (.reg [⟨0, (some 2), .mv (.con (.int .i64 2)), none, []⟩,
 ⟨1, (some 3), .mv (.con (.int .i64 0)), none, []⟩,
 ⟨2, (some 4), .mv (.con (.int .i64 0)), none, []⟩])
 (.ret))
 (.skip))))
 (.reg [⟨0, (some 43), .mv (.tmp 5), none, []⟩,
 ⟨1, (some 44), .bin .add 3 true (.tmp 43) (.con (.int .i64 1)), none, []⟩,
 ⟨2, (some 5), .mv (.tmp 44), none, []⟩]))))))
 (.seq (.seq (.reg [⟨0, (some 59), .fieldA 2 (.tmp 1), none, []⟩,
 ⟨1, (some 60), .load none (.tmp 59), none, []⟩,
 ⟨2, (some 61), .bin .lss 3 true (.tmp 60) (.con (.int .i64 1)), none, []⟩,
 ⟨3, (some 62), .mv (.tmp 61), none, []⟩,
 ⟨4, (some 63), .fieldA 4 (.tmp 1), (some (62, false)), []⟩,
 ⟨5, (some 64), .load none (.tmp 63), (some (62, false)), []⟩,
 ⟨6, (some 65), .bin .lss 3 true (.tmp 64) (.con (.int .i64 0)), (some (62, false)), []⟩,
 ⟨7, (some 66), .pick (.tmp 62) (.con (.bool true)) (.tmp 65), none, []⟩,
 ⟨8, (some 67), .mv (.tmp 66), none, []⟩,
 ⟨9, (some 68), .fieldA 1 (.tmp 1), (some (67, false)), []⟩,
 ⟨10, (some 69), .load none (.tmp 68), (some (67, false)), []⟩,
 ⟨11, (some 70), .bin .lss 3 true (.tmp 69) (.con (.int .i64 0)), (some (67, false)), []⟩,
 ⟨12, (some 71), .pick (.tmp 67) (.con (.bool true)) (.tmp 70), none, []⟩,
 ⟨13, (some 72), .mv (.tmp 71), none, []⟩,
 ⟨14, (some 73), .fieldA 1 (.tmp 1), (some (72, false)), []⟩,
 ⟨15, (some 74), .load none (.tmp 73), (some (72, false)), []⟩,
 ⟨16, (some 75), .bin .gtr 3 true (.tmp 74) (.con (.int .i64 8)), (some (72, false)), []⟩,
 ⟨17, (some 76), .pick (.tmp 72) (.con (.bool true)) (.tmp 75), none, []⟩,
 ⟨18, (some 77), .mv (.tmp 76), none, []⟩,
 ⟨19, (some 78), .fieldA 1 (.tmp 1), (some (77, false)), []⟩,
 ⟨20, (some 79), .load none (.tmp 78), (some (77, false)), []⟩,
 ⟨21, (some 80), .fieldA 2 (.tmp 1), (some (77, false)), []⟩,
 ⟨22, (some 81), .load none (.tmp 80), (some (77, false)), []⟩,
 ⟨23, (some 82), .bin .gtr 3 false (.tmp 79) (.tmp 81), (some (77, false)), []⟩,
 ⟨24, (some 83), .pick (.tmp 77) (.con (.bool true)) (.tmp 82), none, []⟩,
 ⟨25, (some 84), .mv (.tmp 83), none, []⟩,
 ⟨26, (some 85), .load (some 6) (.tmp 1), (some (84, false)), []⟩,
 ⟨27, (some 86), .fieldA 3 (.tmp 1), (some (84, false)), []⟩,
 ⟨28, (some 87), .load none (.tmp 86), (some (84, false)), []⟩,
 ⟨29, (some 88), .call 50 [(.tmp 85), (.tmp 87)], (some (84, false)), []⟩,
 ⟨30, (some 89), .un .not (.tmp 88), (some (84, false)), []⟩,
 ⟨31, (some 90), .pick (.tmp 84) (.con (.bool true)) (.tmp 89), none, []⟩])
 (.cond (.tmp 90)
 (.seq (.reg [⟨0, (some 2), .mv (.con (.int .i64 2)), none, []⟩,
 ⟨1, (some 3), .mv (.con (.int .i64 0)), none, []⟩,
 ⟨2, (some 4), .mv (.con (.int .i64 0)), none, []⟩])
 (.ret))
 (.skip)))
 (.seq (.reg [⟨0, (some 6), .mv (.con (.int .i64 0)), none, []⟩])
 (.seq (.seq (.reg [⟨0, (some 7), .mv (.con (.int .i64 0)), none, []⟩])
 (.block 2
 (.loop
 (.seq (.seq (.reg [⟨0, (some 91), .mv (.tmp 7), none, []⟩,
 ⟨1, (some 92), .fieldA 5 (.tmp 1), none, []⟩,
 ⟨2, (some 93), .load none (.tmp 92), none, []⟩,
 ⟨3, (some 94), .len (.tmp 93), none, []⟩,
 ⟨4, (some 95), .bin .lss 3 false (.tmp 91) (.tmp 94), none, []⟩])
 (.cond (.tmp 95)
 (.skip)
 (.exit 2)))
 (.seq (.block 3
 (.seq (.reg [⟨0, (some 98), .fieldA 5 (.tmp 1), none, []⟩,
 ⟨1, (some 99), .load none (.tmp 98), none, []⟩,
 ⟨2, (some 100), .mv (.tmp 7), none, []⟩,
 ⟨3, (some 101), .idxA none 6 (.tmp 99) (.tmp 100), none, []⟩,
 ⟨4, (some 102), .load (some 6) (.tmp 101), none, []⟩,
 ⟨5, (some 8), .alloc [(.slice none 0 0), (.int .i64 0), (.int .i64 0), (.int .i64 0), (.int .i64 0), (.int .i64 0)], none, []⟩,
 ⟨6, none, .store 6 (.tmp 8) (.tmp 102), none, []⟩])
 (.seq (.seq (.reg [⟨0, (some 103), .fieldA 5 (.tmp 8), none, []⟩,
 ⟨1, (some 104), .load none (.tmp 103), none, []⟩,
 ⟨2, (some 105), .bin .lss 3 true (.tmp 104) (.con (.int .i64 (-1))), none, []⟩,
 ⟨3, (some 106), .mv (.tmp 105), none, []⟩,
 ⟨4, (some 107), .fieldA 5 (.tmp 8), (some (106, false)), []⟩,
 ⟨5, (some 108), .load none (.tmp 107), (some (106, false)), []⟩,
 ⟨6, (some 109), .fieldA 5 (.tmp 1), (some (106, false)), []⟩,
 ⟨7, (some 110), .load none (.tmp 109), (some (106, false)), []⟩,
 ⟨8, (some 111), .len (.tmp 110), (some (106, false)), []⟩,
 ⟨9, (some 112), .bin .geq 3 false (.tmp 108) (.tmp 111), (some (106, false)), []⟩,
 ⟨10, (some 113), .pick (.tmp 106) (.con (.bool true)) (.tmp 112), none, []⟩])
 (.cond (.tmp 113)
 (.seq (.reg [⟨0, (some 114), .mv (.tmp 7), none, []⟩,
 ⟨1, (some 115), .fieldA 0 (.tmp 8), none, []⟩,
 ⟨2, (some 116), .load none (.tmp 115), none, []⟩,
 ⟨3, (some 117), .len (.tmp 116), none, []⟩,
 ⟨4, (some 2), .mv (.con (.int .i64 2)), none, [(.tmp 115)]⟩,
 ⟨5, (some 3), .mv (.tmp 114), none, [(.tmp 115)]⟩,
 ⟨6, (some 4), .mv (.tmp 117), none, []⟩])
 (.ret))
 (.skip)))
 (.seq (.seq (.reg [⟨0, (some 118), .fieldA 0 (.tmp 8), none, []⟩,
 ⟨1, (some 119), .load none (.tmp 118), none, []⟩,
 ⟨2, (some 120), .len (.tmp 119), none, []⟩,
 ⟨3, (some 121), .bin .gtr 3 true (.tmp 120) (.con (.int .i64 400)), none, []⟩])
 (.cond (.tmp 121)
 (.seq (.reg [⟨0, (some 122), .mv (.tmp 7), none, []⟩,
 ⟨1, (some 123), .fieldA 0 (.tmp 8), none, []⟩,
 ⟨2, (some 124), .load none (.tmp 123), none, []⟩,
 ⟨3, (some 125), .len (.tmp 124), none, []⟩,
 ⟨4, (some 2), .mv (.con (.int .i64 3)), none, [(.tmp 123)]⟩,
 ⟨5, (some 3), .mv (.tmp 122), none, [(.tmp 123)]⟩,
 ⟨6, (some 4), .mv (.tmp 125), none, []⟩])
 (.ret))
 (.skip)))
 (.seq (.reg [⟨0, (some 126), .mv (.tmp 6), none, []⟩,
 ⟨1, (some 127), .fieldA 0 (.tmp 8), none, []⟩,
 ⟨2, (some 128), .load none (.tmp 127), none, []⟩,
 ⟨3, (some 129), .len (.tmp 128), none, []⟩,
 ⟨4, (some 130), .bin .add 3 false (.tmp 126) (.tmp 129), none, []⟩,
 ⟨5, (some 6), .mv (.tmp 130), none, []⟩])
 (.seq (.seq (.reg [⟨0, (some 9), .mv (.con (.int .i64 0)), none, []⟩])
 (.block 4
 (.loop
 (.seq (.seq (.reg [⟨0, (some 131), .mv (.tmp 9), none, []⟩,
 ⟨1, (some 132), .fieldA 0 (.tmp 8), none, []⟩,
 ⟨2, (some 133), .load none (.tmp 132), none, []⟩,
 ⟨3, (some 134), .len (.tmp 133), none, []⟩,
 ⟨4, (some 135), .bin .lss 3 false (.tmp 131) (.tmp 134), none, []⟩])
 (.cond (.tmp 135)
 (.skip)
 (.exit 4)))
 (.seq (.block 5
 (.seq (.reg [⟨0, (some 138), .load (some 6) (.tmp 1), none, []⟩,
 ⟨1, (some 139), .fieldA 0 (.tmp 8), none, []⟩,
 ⟨2, (some 140), .load none (.tmp 139), none, []⟩,
 ⟨3, (some 141), .mv (.tmp 9), none, []⟩,
 ⟨4, (some 142), .idxA none 7 (.tmp 140) (.tmp 141), none, []⟩,
 ⟨5, (some 143), .load (some 7) (.tmp 142), none, []⟩,
 ⟨6, (some 144), .call 51 [(.tmp 138), (.tmp 143)], none, []⟩,
 ⟨7, (some 10), .mv (.tmp 144), none, []⟩])
 (.seq (.reg [⟨0, (some 145), .mv (.tmp 10), none, []⟩,
 ⟨1, (some 146), .bin .neq 27 true (.tmp 145) (.con (.int .i64 0)), none, []⟩])
 (.cond (.tmp 146)
 (.seq (.reg [⟨0, (some 147), .mv (.tmp 10), none, []⟩,
 ⟨1, (some 148), .mv (.tmp 7), none, []⟩,
 ⟨2, (some 149), .mv (.tmp 9), none, []⟩,
 ⟨3, (some 2), .mv (.tmp 147), none, []⟩,
 ⟨4, (some 3), .mv (.tmp 148), none, []⟩,
 ⟨5, (some 4), .mv (.tmp 149), none, []⟩])
 (.ret))
 (.skip)))))
 (.reg [⟨0, (some 136), .mv (.tmp 9), none, []⟩,
 ⟨1, (some 137), .bin .add 3 true (.tmp 136) (.con (.int .i64 1)), none, []⟩,
 ⟨2, (some 9), .mv (.tmp 137), none, []⟩]))))))
 (.seq (.reg [⟨0, (some 150), .load (some 6) (.tmp 1), none, []⟩,
 ⟨1, (some 151), .fieldA 1 (.tmp 8), none, []⟩,
 ⟨2, (some 152), .load (some 4) (.tmp 151), none, []⟩,
 ⟨3, (some 153), .call 52 [(.tmp 150), (.tmp 152)], none, []⟩,
 ⟨4, (some 11), .mv (.tmp 153), none, []⟩])
 (.seq (.reg [⟨0, (some 154), .mv (.tmp 11), none, []⟩,
 ⟨1, (some 155), .bin .neq 27 true (.tmp 154) (.con (.int .i64 0)), none, []⟩])
 (.cond (.tmp 155)
 (.seq (.reg [⟨0, (some 156), .mv (.tmp 11), none, []⟩,
 ⟨1, (some 157), .mv (.tmp 7), none, []⟩,
 ⟨2, (some 158), .fieldA 0 (.tmp 8), none, []⟩,
 ⟨3, (some 159), .load none (.tmp 158), none, []⟩,
 ⟨4, (some 160), .len (.tmp 159), none, []⟩,
 ⟨5, (some 2), .mv (.tmp 156), none, [(.tmp 158)]⟩,
 ⟨6, (some 3), .mv (.tmp 157), none, [(.tmp 158)]⟩,
 ⟨7, (some 4), .mv (.tmp 160), none, []⟩])
 (.ret))
 (.skip))))))))))
 (.reg [⟨0, (some 96), .mv (.tmp 7), none, []⟩,
 ⟨1, (some 97), .bin .add 3 true (.tmp 96) (.con (.int .i64 1)), none, []⟩,
 ⟨2, (some 7), .mv (.tmp 97), none, []⟩]))))))
 (.seq (.seq (.reg [⟨0, (some 161), .mv (.tmp 6), none, []⟩,
 ⟨1, (some 162), .bin .gtr 3 true (.tmp 161) (.con (.int .i64 20000)), none, []⟩])
 (.cond (.tmp 162)
 (.seq (.reg [⟨0, (some 2), .mv (.con (.int .i64 3)), none, []⟩,
 ⟨1, (some 3), .mv (.con (.int .i64 0)), none, []⟩,
 ⟨2, (some 4), .mv (.con (.int .i64 0)), none, []⟩])
 (.ret))
 (.skip)))
 (.seq (.reg [⟨0, (some 2), .mv (.con (.int .i64 0)), none, []⟩,
 ⟨1, (some 3), .mv (.con (.int .i64 0)), none, []⟩,
 ⟨2, (some 4), .mv (.con (.int .i64 0)), none, []⟩])
 (.ret)))))))),
 [.tmp 2, .tmp 3, .tmp 4]⟩
theorem p_r07_Find : prepFun Go.Proofs.Tryz.prog [1, 0, 2, 3] Go.Proofs.Tryz.f17 = some v_r07_Find := by kernel_rfl

def v_code_Check : VFun :=
⟨.seq (.reg [⟨0, (some 1), .box (.tmp 0), none, []⟩,
 ⟨1, (some 2), .mv (.con (.int .i64 0)), none, []⟩])
 (.seq (.reg [⟨0, (some 3), .load (some 6) (.tmp 1), none, []⟩,
 ⟨1, (some 4), .call 53 [(.tmp 3)], none, []⟩,
 ⟨2, (some 5), .field 2 none (.tmp 4), none, []⟩,
 ⟨3, (some 2), .mv (.tmp 5), none, []⟩])
 (.ret)),
 [.tmp 2]⟩
theorem p_code_Check : prepFun Go.Proofs.Tryz.prog [1, 0, 2, 3] Go.Proofs.Tryz.f20 = some v_code_Check := by kernel_rfl

def v_code_Reads : VFun :=
⟨.seq (.reg [⟨0, (some 1), .box (.tmp 0), none, []⟩,
 ⟨1, (some 2), .mv (.con (.slice none 0 0)), none, []⟩,
 ⟨2, (some 3), .mv (.con (.int .i64 0)), none, []⟩])
 (.seq (.seq (.reg [⟨0, (some 7), .fieldA 0 (.tmp 1), none, []⟩,
 ⟨1, (some 8), .load none (.tmp 7), none, []⟩,
 ⟨2, (some 9), .call 55 [(.tmp 8)], none, []⟩,
 ⟨3, (some 6), .mv (.tmp 9), none, []⟩,
 ⟨4, (some 10), .ext (.tmp 6) 0, none, []⟩,
 ⟨5, (some 11), .ext (.tmp 6) 1, none, []⟩,
 ⟨6, (some 4), .alloc [(.int .i64 0), (.int .i64 0), (.string ⟨#[]⟩)], none, []⟩,
 ⟨7, none, .store 3 (.tmp 4) (.tmp 10), none, []⟩,
 ⟨8, (some 5), .mv (.tmp 11), none, []⟩])
 (.seq (.reg [⟨0, (some 12), .mv (.tmp 5), none, []⟩,
 ⟨1, (some 13), .un .not (.tmp 12), none, []⟩])
 (.cond (.tmp 13)
 (.seq (.reg [⟨0, (some 2), .mv (.con (.slice none 0 0)), none, []⟩,
 ⟨1, (some 3), .mv (.con (.int .i64 4)), none, []⟩])
 (.ret))
 (.skip))))
 (.seq (.seq (.reg [⟨0, (some 14), .fieldA 6 (.tmp 1), none, []⟩,
 ⟨1, (some 15), .load none (.tmp 14), none, []⟩,
 ⟨2, (some 16), .bin .neq 3 true (.tmp 15) (.con (.int .i64 (-1))), none, []⟩])
 (.cond (.tmp 16)
 (.seq (.reg [⟨0, (some 17), .fieldA 6 (.tmp 1), none, []⟩,
 ⟨1, (some 18), .load none (.tmp 17), none, []⟩,
 ⟨2, (some 19), .bslice 1 1 [(.int .i64 0)] [(0, 1, (.tmp 18))], none, []⟩,
 ⟨3, (some 20), .load (some 7) (.tmp 1), none, []⟩,
 ⟨4, (some 21), .call 56 [(.tmp 20)], none, [(.tmp 17)]⟩,
 ⟨5, (some 22), .append 1 8 (.tmp 19) (.tmp 21), none, []⟩,
 ⟨6, (some 2), .mv (.tmp 22), none, []⟩,
 ⟨7, (some 3), .mv (.con (.int .i64 0)), none, []⟩])
 (.ret))
 (.skip)))
 (.seq (.reg [⟨0, (some 23), .load (some 7) (.tmp 1), none, []⟩,
 ⟨1, (some 24), .call 56 [(.tmp 23)], none, []⟩,
 ⟨2, (some 2), .mv (.tmp 24), none, []⟩,
 ⟨3, (some 3), .mv (.con (.int .i64 0)), none, []⟩])
 (.ret)))),
 [.tmp 2, .tmp 3]⟩
theorem p_code_Reads : prepFun Go.Proofs.Tryz.prog [1, 0, 2, 3] Go.Proofs.Tryz.f22 = some v_code_Reads := by kernel_rfl

def v_code_Writes : VFun :=
⟨.seq (.reg [⟨0, (some 1), .box (.tmp 0), none, []⟩,
 ⟨1, (some 2), .mv (.con (.int .i64 0)), none, []⟩,
 ⟨2, (some 3), .mv (.con (.bool false)), none, []⟩,
 ⟨3, (some 4), .mv (.con (.int .i64 0)), none, []⟩])
 (.seq (.seq (.reg [⟨0, (some 8), .fieldA 0 (.tmp 1), none, []⟩,
 ⟨1, (some 9), .load none (.tmp 8), none, []⟩,
 ⟨2, (some 10), .call 55 [(.tmp 9)], none, []⟩,
 ⟨3, (some 7), .mv (.tmp 10), none, []⟩,
 ⟨4, (some 11), .ext (.tmp 7) 0, none, []⟩,
 ⟨5, (some 12), .ext (.tmp 7) 1, none, []⟩,
 ⟨6, (some 5), .alloc [(.int .i64 0), (.int .i64 0), (.string ⟨#[]⟩)], none, []⟩,
 ⟨7, none, .store 3 (.tmp 5) (.tmp 11), none, []⟩,
 ⟨8, (some 6), .mv (.tmp 12), none, []⟩])
 (.block 0
 (.seq (.reg [⟨0, (some 14), .mv (.tmp 6), none, []⟩,
 ⟨1, (some 15), .un .not (.tmp 14), none, []⟩,
 ⟨2, (some 13), .mv (.tmp 15), none, []⟩])
 (.cond (.tmp 13)
 (.seq (.reg [⟨0, (some 2), .mv (.con (.int .i64 0)), none, []⟩,
 ⟨1, (some 3), .mv (.con (.bool false)), none, []⟩,
 ⟨2, (some 4), .mv (.con (.int .i64 4)), none, []⟩])
 (.ret))
 (.seq (.reg [⟨0, (some 17), .fieldA 0 (.tmp 5), none, []⟩,
 ⟨1, (some 18), .load none (.tmp 17), none, []⟩,
 ⟨2, (some 19), .bin .and 3 true (.tmp 18) (.con (.int .i64 1)), none, []⟩,
 ⟨3, (some 20), .bin .neq 3 true (.tmp 19) (.con (.int .i64 0)), none, []⟩,
 ⟨4, (some 16), .mv (.tmp 20), none, []⟩])
 (.cond (.tmp 16)
 (.seq (.reg [⟨0, (some 21), .fieldA 1 (.tmp 1), none, []⟩,
 ⟨1, (some 22), .load none (.tmp 21), none, []⟩,
 ⟨2, (some 2), .mv (.tmp 22), none, []⟩,
 ⟨3, (some 3), .mv (.con (.bool true)), none, []⟩,
 ⟨4, (some 4), .mv (.con (.int .i64 0)), none, []⟩])
 (.ret))
 (.skip)))))))
 (.seq (.reg [⟨0, (some 2), .mv (.con (.int .i64 0)), none, []⟩,
 ⟨1, (some 3), .mv (.con (.bool false)), none, []⟩,
 ⟨2, (some 4), .mv (.con (.int .i64 0)), none, []⟩])
 (.ret))),
 [.tmp 2, .tmp 3, .tmp 4]⟩
theorem p_code_Writes : prepFun Go.Proofs.Tryz.prog [1, 0, 2, 3] Go.Proofs.Tryz.f23 = some v_code_Writes := by kernel_rfl

def v_code_Class : VFun :=
⟨.seq (.reg [⟨0, (some 2), .mv (.con (.int .i64 0)), none, []⟩,
 ⟨1, (some 3), .mv (.con (.int .i64 0)), none, []⟩])
 (.seq (.reg [⟨0, (some 7), .mv (.tmp 0), none, []⟩,
 ⟨1, (some 8), .call 55 [(.tmp 7)], none, []⟩,
 ⟨2, (some 6), .mv (.tmp 8), none, []⟩,
 ⟨3, (some 9), .ext (.tmp 6) 0, none, []⟩,
 ⟨4, (some 10), .ext (.tmp 6) 1, none, []⟩,
 ⟨5, (some 4), .alloc [(.int .i64 0), (.int .i64 0), (.string ⟨#[]⟩)], none, []⟩,
 ⟨6, none, .store 3 (.tmp 4) (.tmp 9), none, []⟩,
 ⟨7, (some 5), .mv (.tmp 10), none, []⟩])
 (.seq (.seq (.reg [⟨0, (some 11), .mv (.tmp 5), none, []⟩,
 ⟨1, (some 12), .un .not (.tmp 11), none, []⟩])
 (.cond (.tmp 12)
 (.seq (.reg [⟨0, (some 2), .mv (.con (.int .i64 0)), none, []⟩,
 ⟨1, (some 3), .mv (.con (.int .i64 4)), none, []⟩])
 (.ret))
 (.skip)))
 (.seq (.reg [⟨0, (some 13), .fieldA 1 (.tmp 4), none, []⟩,
 ⟨1, (some 14), .load none (.tmp 13), none, []⟩,
 ⟨2, (some 2), .mv (.tmp 14), none, []⟩,
 ⟨3, (some 3), .mv (.con (.int .i64 0)), none, []⟩])
 (.ret)))),
 [.tmp 2, .tmp 3]⟩
theorem p_code_Class : prepFun Go.Proofs.Tryz.prog [1, 0, 2, 3] Go.Proofs.Tryz.f24 = some v_code_Class := by kernel_rfl

def v_code_Name : VFun :=
⟨.seq (.reg [⟨0, (some 2), .mv (.con (.string ⟨#[]⟩)), none, []⟩,
 ⟨1, (some 3), .mv (.con (.int .i64 0)), none, []⟩])
 (.seq (.reg [⟨0, (some 7), .mv (.tmp 0), none, []⟩,
 ⟨1, (some 8), .call 55 [(.tmp 7)], none, []⟩,
 ⟨2, (some 6), .mv (.tmp 8), none, []⟩,
 ⟨3, (some 9), .ext (.tmp 6) 0, none, []⟩,
 ⟨4, (some 10), .ext (.tmp 6) 1, none, []⟩,
 ⟨5, (some 4), .alloc [(.int .i64 0), (.int .i64 0), (.string ⟨#[]⟩)], none, []⟩,
 ⟨6, none, .store 3 (.tmp 4) (.tmp 9), none, []⟩,
 ⟨7, (some 5), .mv (.tmp 10), none, []⟩])
 (.seq (.seq (.reg [⟨0, (some 11), .mv (.tmp 5), none, []⟩,
 ⟨1, (some 12), .un .not (.tmp 11), none, []⟩])
 (.cond (.tmp 12)
 (.seq (.reg [⟨0, (some 2), .mv (.con (.string ⟨#[]⟩)), none, []⟩,
 ⟨1, (some 3), .mv (.con (.int .i64 4)), none, []⟩])
 (.ret))
 (.skip)))
 (.seq (.reg [⟨0, (some 13), .fieldA 2 (.tmp 4), none, []⟩,
 ⟨1, (some 14), .load none (.tmp 13), none, []⟩,
 ⟨2, (some 2), .mv (.tmp 14), none, []⟩,
 ⟨3, (some 3), .mv (.con (.int .i64 0)), none, []⟩])
 (.ret)))),
 [.tmp 2, .tmp 3]⟩
theorem p_code_Name : prepFun Go.Proofs.Tryz.prog [1, 0, 2, 3] Go.Proofs.Tryz.f25 = some v_code_Name := by kernel_rfl

def v_r07_One : VFun :=
⟨.seq (.reg [⟨0, (some 2), .mv (.con (.bool false)), none, []⟩])
 (.seq (.reg [⟨0, (some 3), .mv (.tmp 0), none, []⟩,
 ⟨1, (some 4), .bin .geq 3 true (.tmp 3) (.con (.int .i64 1)), none, []⟩,
 ⟨2, (some 5), .mv (.tmp 4), none, []⟩,
 ⟨3, (some 6), .mv (.tmp 0), (some (5, true)), []⟩,
 ⟨4, (some 7), .bin .leq 3 true (.tmp 6) (.con (.int .i64 25)), (some (5, true)), []⟩,
 ⟨5, (some 8), .pick (.tmp 5) (.tmp 7) (.con (.bool false)), none, []⟩,
 ⟨6, (some 2), .mv (.tmp 8), none, []⟩])
 (.ret)),
 [.tmp 2]⟩
theorem p_r07_One : prepFun Go.Proofs.Tryz.prog [1, 0, 2, 3] Go.Proofs.Tryz.f26 = some v_r07_One := by kernel_rfl

def v_r07_Writes : VFun :=
⟨.seq (.reg [⟨0, (some 1), .box (.tmp 0), none, []⟩,
 ⟨1, (some 2), .mv (.con (.int .i64 0)), none, []⟩,
 ⟨2, (some 3), .mv (.con (.bool false)), none, []⟩])
 (.seq (.seq (.reg [⟨0, (some 4), .fieldA 0 (.tmp 1), none, []⟩,
 ⟨1, (some 5), .load none (.tmp 4), none, []⟩,
 ⟨2, (some 6), .call 57 [(.tmp 5)], none, []⟩,
 ⟨3, (some 7), .un .not (.tmp 6), none, []⟩])
 (.cond (.tmp 7)
 (.seq (.reg [⟨0, (some 2), .mv (.con (.int .i64 0)), none, []⟩,
 ⟨1, (some 3), .mv (.con (.bool false)), none, []⟩])
 (.ret))
 (.skip)))
 (.seq (.reg [⟨0, (some 8), .fieldA 1 (.tmp 1), none, []⟩,
 ⟨1, (some 9), .load none (.tmp 8), none, []⟩,
 ⟨2, (some 2), .mv (.tmp 9), none, []⟩,
 ⟨3, (some 3), .mv (.con (.bool true)), none, []⟩])
 (.ret))),
 [.tmp 2, .tmp 3]⟩
theorem p_r07_Writes : prepFun Go.Proofs.Tryz.prog [1, 0, 2, 3] Go.Proofs.Tryz.f27 = some v_r07_Writes := by kernel_rfl

def v_l07_same : VFun :=
⟨.seq (.reg [⟨0, (some 4), .mv (.con (.bool false)), none, []⟩])
 (.seq (.seq (.reg [⟨0, (some 6), .mv (.tmp 0), none, []⟩,
 ⟨1, (some 7), .len (.tmp 6), none, []⟩,
 ⟨2, (some 8), .mv (.tmp 1), none, []⟩,
 ⟨3, (some 9), .len (.tmp 8), none, []⟩,
 ⟨4, (some 10), .bin .neq 3 false (.tmp 7) (.tmp 9), none, []⟩])
 (.cond (.tmp 10)
 (.seq (.reg [⟨0, (some 4), .mv (.con (.bool false)), none, []⟩])
 (.ret))
 (.skip)))
 (.seq (.seq (.reg [⟨0, (some 5), .mv (.con (.int .i64 0)), none, []⟩])
 (.block 0
 (.loop
 (.seq (.seq (.reg [⟨0, (some 11), .mv (.tmp 5), none, []⟩,
 ⟨1, (some 12), .mv (.tmp 0), none, []⟩,
 ⟨2, (some 13), .len (.tmp 12), none, []⟩,
 ⟨3, (some 14), .bin .lss 3 false (.tmp 11) (.tmp 13), none, []⟩])
 (.cond (.tmp 14)
 (.skip)
 (.exit 0)))
 (.seq (.block 1
 (.seq (.reg [⟨0, (some 17), .mv (.tmp 0), none, []⟩,
 ⟨1, (some 18), .mv (.tmp 5), none, []⟩,
 ⟨2, (some 19), .idxA none 1 (.tmp 17) (.tmp 18), none, []⟩,
 ⟨3, (some 20), .load none (.tmp 19), none, []⟩,
 ⟨4, (some 21), .mv (.tmp 1), none, []⟩,
 ⟨5, (some 22), .mv (.tmp 5), none, []⟩,
 ⟨6, (some 23), .idxA none 1 (.tmp 21) (.tmp 22), none, []⟩,
 ⟨7, (some 24), .load none (.tmp 23), none, []⟩,
 ⟨8, (some 25), .bin .neq 3 false (.tmp 20) (.tmp 24), none, []⟩])
 (.cond (.tmp 25)
 (.seq (.reg [⟨0, (some 4), .mv (.con (.bool false)), none, []⟩])
 (.ret))
 (.skip))))
 (.reg [⟨0, (some 15), .mv (.tmp 5), none, []⟩,
 ⟨1, (some 16), .bin .add 3 true (.tmp 15) (.con (.int .i64 1)), none, []⟩,
 ⟨2, (some 5), .mv (.tmp 16), none, []⟩]))))))
 (.seq (.reg [⟨0, (some 4), .mv (.con (.bool true)), none, []⟩])
 (.ret)))),
 [.tmp 4]⟩
theorem p_l07_same : prepFun Go.Proofs.Tryz.prog [1, 0, 2, 3] Go.Proofs.Tryz.f28 = some v_l07_same := by kernel_rfl

def v_r07_Reads : VFun :=
⟨.seq (.reg [⟨0, (some 1), .box (.tmp 0), none, []⟩,
 ⟨1, (some 2), .mv (.con (.slice none 0 0)), none, []⟩])
 (.seq (.reg [⟨0, (some 3), .mv (.con (.slice none 0 0)), none, []⟩])
 (.seq (.seq (.reg [⟨0, (some 4), .fieldA 6 (.tmp 1), none, []⟩,
 ⟨1, (some 5), .load none (.tmp 4), none, []⟩,
 ⟨2, (some 6), .bin .neq 3 true (.tmp 5) (.con (.int .i64 (-1))), none, []⟩])
 (.cond (.tmp 6)
 (.reg [⟨0, (some 7), .mv (.tmp 3), none, []⟩,
 ⟨1, (some 8), .fieldA 6 (.tmp 1), none, []⟩,
 ⟨2, (some 9), .load none (.tmp 8), none, []⟩,
 ⟨3, (some 10), .bslice 1 1 [(.int .i64 0)] [(0, 1, (.tmp 9))], none, []⟩,
 ⟨4, (some 11), .append 1 8 (.tmp 7) (.tmp 10), none, []⟩,
 ⟨5, (some 3), .mv (.tmp 11), none, []⟩])
 (.skip)))
 (.seq (.reg [⟨0, (some 12), .mv (.tmp 3), none, []⟩,
 ⟨1, (some 13), .load (some 7) (.tmp 1), none, []⟩,
 ⟨2, (some 14), .call 58 [(.tmp 13)], none, []⟩,
 ⟨3, (some 15), .append 1 8 (.tmp 12) (.tmp 14), none, []⟩,
 ⟨4, (some 2), .mv (.tmp 15), none, []⟩])
 (.ret)))),
 [.tmp 2]⟩
theorem p_r07_Reads : prepFun Go.Proofs.Tryz.prog [1, 0, 2, 3] Go.Proofs.Tryz.f29 = some v_r07_Reads := by kernel_rfl

def v_r07_Class : VFun :=
⟨.seq (.reg [⟨0, (some 2), .mv (.con (.int .i64 0)), none, []⟩])
 (.seq (.block 0
 (.seq (.reg [⟨0, (some 4), .mv (.tmp 0), none, []⟩,
 ⟨1, (some 5), .bin .leq 3 true (.tmp 4) (.con (.int .i64 12)), none, []⟩,
 ⟨2, (some 3), .mv (.tmp 5), none, []⟩])
 (.cond (.tmp 3)
 (.seq (.reg [⟨0, (some 2), .mv (.con (.int .i64 0)), none, []⟩])
 (.ret))
 (.seq (.reg [⟨0, (some 7), .mv (.tmp 0), none, []⟩,
 ⟨1, (some 8), .bin .leq 3 true (.tmp 7) (.con (.int .i64 15)), none, []⟩,
 ⟨2, (some 9), .mv (.tmp 8), none, []⟩,
 ⟨3, (some 10), .mv (.tmp 0), (some (9, false)), []⟩,
 ⟨4, (some 11), .bin .eql 3 true (.tmp 10) (.con (.int .i64 23)), (some (9, false)), []⟩,
 ⟨5, (some 12), .pick (.tmp 9) (.con (.bool true)) (.tmp 11), none, []⟩,
 ⟨6, (some 13), .mv (.tmp 12), none, []⟩,
 ⟨7, (some 14), .mv (.tmp 0), (some (13, false)), []⟩,
 ⟨8, (some 15), .bin .eql 3 true (.tmp 14) (.con (.int .i64 24)), (some (13, false)), []⟩,
 ⟨9, (some 16), .pick (.tmp 13) (.con (.bool true)) (.tmp 15), none, []⟩,
 ⟨10, (some 6), .mv (.tmp 16), none, []⟩])
 (.cond (.tmp 6)
 (.seq (.reg [⟨0, (some 2), .mv (.con (.int .i64 1)), none, []⟩])
 (.ret))
 (.seq (.reg [⟨0, (some 18), .mv (.tmp 0), none, []⟩,
 ⟨1, (some 19), .bin .leq 3 true (.tmp 18) (.con (.int .i64 19)), none, []⟩,
 ⟨2, (some 20), .mv (.tmp 19), none, []⟩,
 ⟨3, (some 21), .mv (.tmp 0), (some (20, false)), []⟩,
 ⟨4, (some 22), .bin .eql 3 true (.tmp 21) (.con (.int .i64 25)), (some (20, false)), []⟩,
 ⟨5, (some 23), .pick (.tmp 20) (.con (.bool true)) (.tmp 22), none, []⟩,
 ⟨6, (some 17), .mv (.tmp 23), none, []⟩])
 (.cond (.tmp 17)
 (.seq (.reg [⟨0, (some 2), .mv (.con (.int .i64 2)), none, []⟩])
 (.ret))
 (.skip))))))))
 (.seq (.reg [⟨0, (some 2), .mv (.con (.int .i64 3)), none, []⟩])
 (.ret))),
 [.tmp 2]⟩
theorem p_r07_Class : prepFun Go.Proofs.Tryz.prog [1, 0, 2, 3] Go.Proofs.Tryz.f30 = some v_r07_Class := by kernel_rfl

def v_r07_Names : VFun :=
⟨.seq (.reg [⟨0, (some 0), .mv (.con (.slice none 0 0)), none, []⟩])
 (.seq (.reg [⟨0, (some 1), .bslice 1 25 [(.string ⟨#[]⟩)] [(0, 1, (.con (.string ⟨#[99, 111, 110, 115, 116]⟩))), (1, 1, (.con (.string ⟨#[109, 111, 118, 101]⟩))), (2, 1, (.con (.string ⟨#[97, 100, 100]⟩))), (3, 1, (.con (.string ⟨#[115, 117, 98]⟩))), (4, 1, (.con (.string ⟨#[97, 110, 100]⟩))), (5, 1, (.con (.string ⟨#[111, 114]⟩))), (6, 1, (.con (.string ⟨#[120, 111, 114]⟩))), (7, 1, (.con (.string ⟨#[115, 104, 108]⟩))), (8, 1, (.con (.string ⟨#[115, 104, 114]⟩))), (9, 1, (.con (.string ⟨#[108, 101, 115, 115]⟩))), (10, 1, (.con (.string ⟨#[101, 113, 117, 97, 108]⟩))), (11, 1, (.con (.string ⟨#[112, 105, 99, 107]⟩))), (12, 1, (.con (.string ⟨#[109, 117, 108]⟩))), (13, 1, (.con (.string ⟨#[100, 105, 118]⟩))), (14, 1, (.con (.string ⟨#[114, 101, 109]⟩))), (15, 1, (.con (.string ⟨#[108, 111, 97, 100]⟩))), (16, 1, (.con (.string ⟨#[115, 116, 111, 114, 101]⟩))), (17, 1, (.con (.string ⟨#[102, 101, 116, 99, 104]⟩))), (18, 1, (.con (.string ⟨#[107, 101, 101, 112]⟩))), (19, 1, (.con (.string ⟨#[112, 114, 105, 110, 116]⟩))), (20, 1, (.con (.string ⟨#[101, 120, 105, 116]⟩))), (21, 1, (.con (.string ⟨#[99, 104, 101, 99, 107]⟩))), (22, 1, (.con (.string ⟨#[100, 105, 118, 115]⟩))), (23, 1, (.con (.string ⟨#[114, 101, 109, 115]⟩))), (24, 1, (.con (.string ⟨#[108, 111, 97, 100, 115]⟩)))], none, []⟩,
 ⟨1, (some 0), .mv (.tmp 1), none, []⟩])
 (.ret)),
 [.tmp 0]⟩
theorem p_r07_Names : prepFun Go.Proofs.Tryz.prog [1, 0, 2, 3] Go.Proofs.Tryz.f31 = some v_r07_Names := by kernel_rfl

def v_r07_Cut : VFun :=
⟨.seq (.reg [⟨0, (some 3), .box (.tmp 0), none, []⟩,
 ⟨1, (some 6), .alloc [(.slice none 0 0), (.int .i64 0), (.int .i64 0), (.int .i64 0), (.int .i64 0), (.slice none 0 0)], none, []⟩])
 (.seq (.reg [⟨0, (some 11), .load (some 6) (.tmp 3), none, []⟩,
 ⟨1, (some 7), .alloc [(.slice none 0 0), (.int .i64 0), (.int .i64 0), (.int .i64 0), (.int .i64 0), (.slice none 0 0)], none, []⟩,
 ⟨2, none, .store 6 (.tmp 7) (.tmp 11), none, []⟩])
 (.seq (.reg [⟨0, (some 12), .bslice 1 0 [(.int .i64 0)] [], none, []⟩,
 ⟨1, (some 13), .fieldA 0 (.tmp 3), none, []⟩,
 ⟨2, (some 14), .load none (.tmp 13), none, []⟩,
 ⟨3, (some 15), .fieldA 0 (.tmp 3), none, []⟩,
 ⟨4, (some 16), .load none (.tmp 15), none, []⟩,
 ⟨5, (some 17), .len (.tmp 16), none, []⟩,
 ⟨6, (some 18), .bi .min [3, 3] 3 [(.tmp 17), (.con (.int .i64 17))], none, []⟩,
 ⟨7, (some 19), .slice none 1 (.tmp 14) none (some (.tmp 18)) none, none, []⟩,
 ⟨8, (some 20), .append 1 8 (.tmp 12) (.tmp 19), none, []⟩,
 ⟨9, (some 21), .fieldA 0 (.tmp 7), none, []⟩,
 ⟨10, none, .store 1 (.tmp 21) (.tmp 20), none, []⟩])
 (.seq (.reg [⟨0, (some 22), .fieldA 5 (.tmp 7), none, []⟩,
 ⟨1, none, .store 1 (.tmp 22) (.con (.slice none 0 0)), none, []⟩])
 (.seq (.seq (.reg [⟨0, (some 8), .mv (.con (.int .i64 0)), none, []⟩])
 (.block 0
 (.loop
 (.seq (.seq (.reg [⟨0, (some 23), .mv (.tmp 8), none, []⟩,
 ⟨1, (some 24), .fieldA 5 (.tmp 3), none, []⟩,
 ⟨2, (some 25), .load none (.tmp 24), none, []⟩,
 ⟨3, (some 26), .len (.tmp 25), none, []⟩,
 ⟨4, (some 27), .bin .lss 3 false (.tmp 23) (.tmp 26), none, []⟩,
 ⟨5, (some 28), .mv (.tmp 27), none, []⟩,
 ⟨6, (some 29), .mv (.tmp 8), (some (28, true)), []⟩,
 ⟨7, (some 30), .mv (.tmp 1), (some (28, true)), []⟩,
 ⟨8, (some 31), .bin .lss 3 false (.tmp 29) (.tmp 30), (some (28, true)), []⟩,
 ⟨9, (some 32), .pick (.tmp 28) (.tmp 31) (.con (.bool false)), none, []⟩])
 (.cond (.tmp 32)
 (.skip)
 (.exit 0)))
 (.seq (.block 1
 (.seq (.reg [⟨0, (some 35), .fieldA 5 (.tmp 3), none, []⟩,
 ⟨1, (some 36), .load none (.tmp 35), none, []⟩,
 ⟨2, (some 37), .mv (.tmp 8), none, []⟩,
 ⟨3, (some 38), .idxA none 6 (.tmp 36) (.tmp 37), none, []⟩,
 ⟨4, (some 39), .load (some 6) (.tmp 38), none, []⟩,
 ⟨5, (some 9), .alloc [(.slice none 0 0), (.int .i64 0), (.int .i64 0), (.int .i64 0), (.int .i64 0), (.int .i64 0)], none, []⟩,
 ⟨6, none, .store 6 (.tmp 9) (.tmp 39), none, []⟩])
 (.seq (.reg [⟨0, (some 40), .bslice 7 0 [(.int .i64 0), (.int .i64 0), (.int .i64 0), (.int .i64 0), (.int .i64 0), (.int .i64 0), (.int .i64 0)] [], none, []⟩,
 ⟨1, (some 41), .fieldA 5 (.tmp 3), none, []⟩,
 ⟨2, (some 42), .load none (.tmp 41), none, []⟩,
 ⟨3, (some 43), .mv (.tmp 8), none, []⟩,
 ⟨4, (some 44), .idxA none 6 (.tmp 42) (.tmp 43), none, []⟩,
 ⟨5, (some 45), .fieldA 0 (.tmp 44), none, []⟩,
 ⟨6, (some 46), .load none (.tmp 45), none, []⟩,
 ⟨7, (some 47), .fieldA 5 (.tmp 3), none, []⟩,
 ⟨8, (some 48), .load none (.tmp 47), none, []⟩,
 ⟨9, (some 49), .mv (.tmp 8), none, []⟩,
 ⟨10, (some 50), .idxA none 6 (.tmp 48) (.tmp 49), none, []⟩,
 ⟨11, (some 51), .fieldA 0 (.tmp 50), none, []⟩,
 ⟨12, (some 52), .load none (.tmp 51), none, []⟩,
 ⟨13, (some 53), .len (.tmp 52), none, []⟩,
 ⟨14, (some 54), .mv (.tmp 2), none, []⟩,
 ⟨15, (some 55), .bi .max [3, 3] 3 [(.tmp 54), (.con (.int .i64 0))], none, []⟩,
 ⟨16, (some 56), .bi .min [3, 3] 3 [(.tmp 53), (.tmp 55)], none, []⟩,
 ⟨17, (some 57), .slice none 7 (.tmp 46) none (some (.tmp 56)) none, none, []⟩,
 ⟨18, (some 58), .append 7 56 (.tmp 40) (.tmp 57), none, []⟩,
 ⟨19, (some 59), .fieldA 0 (.tmp 9), none, []⟩,
 ⟨20, none, .store 1 (.tmp 59) (.tmp 58), none, []⟩])
 (.seq (.reg [⟨0, (some 60), .mv (.tmp 2), none, []⟩,
 ⟨1, (some 61), .fieldA 0 (.tmp 9), none, []⟩,
 ⟨2, (some 62), .load none (.tmp 61), none, []⟩,
 ⟨3, (some 63), .len (.tmp 62), none, []⟩,
 ⟨4, (some 64), .bin .sub 3 false (.tmp 60) (.tmp 63), none, []⟩,
 ⟨5, (some 2), .mv (.tmp 64), none, []⟩])
 (.seq (.reg [⟨0, (some 65), .fieldA 5 (.tmp 7), none, []⟩,
 ⟨1, (some 66), .load none (.tmp 65), none, []⟩,
 ⟨2, (some 10), .mv (.tmp 66), none, []⟩])
 (.reg [⟨0, (some 67), .mv (.tmp 10), none, []⟩,
 ⟨1, (some 68), .load (some 6) (.tmp 9), none, []⟩,
 ⟨2, (some 69), .bslice 6 1 [(.slice none 0 0), (.int .i64 0), (.int .i64 0), (.int .i64 0), (.int .i64 0), (.int .i64 0)] [(0, 6, (.tmp 68))], none, []⟩,
 ⟨3, (some 70), .append 6 64 (.tmp 67) (.tmp 69), none, []⟩,
 ⟨4, (some 71), .fieldA 5 (.tmp 7), none, []⟩,
 ⟨5, none, .store 1 (.tmp 71) (.tmp 70), none, []⟩]))))))
 (.reg [⟨0, (some 33), .mv (.tmp 8), none, []⟩,
 ⟨1, (some 34), .bin .add 3 true (.tmp 33) (.con (.int .i64 1)), none, []⟩,
 ⟨2, (some 8), .mv (.tmp 34), none, []⟩]))))))
 (.seq (.reg [⟨0, (some 72), .load (some 6) (.tmp 7), none, []⟩,
 ⟨1, none, .store 6 (.tmp 6) (.tmp 72), none, []⟩])
 (.ret)))))),
 [.cell 6 (some 6)]⟩
theorem p_r07_Cut : prepFun Go.Proofs.Tryz.prog [1, 0, 2, 3] Go.Proofs.Tryz.f32 = some v_r07_Cut := by kernel_rfl

end Go.VX.Seat
end
section
set_option maxRecDepth 20000
/-! MADE BY PROGRAM (lits.py): functions as they are prepared. -/
namespace Go.VX.Seat
def v_strings_Builder_WriteString : VFun :=
⟨.seq (.reg [⟨0, (some 4), .mv (.con (.int .i64 0)), none, []⟩,
 ⟨1, (some 5), .mv (.con .nilIface), none, []⟩])
 (.seq (.reg [⟨0, (some 6), .mv (.tmp 0), none, []⟩,
 ⟨1, (some 7), .call 72 [(.tmp 6)], none, []⟩])
 (.seq (.reg [⟨0, (some 8), .mv (.tmp 0), none, []⟩,
 ⟨1, (some 9), .mv (.tmp 0), none, []⟩,
 ⟨2, (some 10), .nilck (.tmp 9), none, []⟩,
 ⟨3, (some 11), .fieldA 1 (.tmp 10), none, []⟩,
 ⟨4, (some 12), .load none (.tmp 11), none, []⟩,
 ⟨5, (some 13), .mv (.tmp 1), none, []⟩,
 ⟨6, (some 14), .append 1 1 (.tmp 12) (.tmp 13), none, []⟩,
 ⟨7, (some 15), .nilck (.tmp 8), none, []⟩,
 ⟨8, (some 16), .fieldA 1 (.tmp 15), none, []⟩,
 ⟨9, none, .store 1 (.tmp 16) (.tmp 14), none, []⟩])
 (.seq (.reg [⟨0, (some 17), .mv (.tmp 1), none, []⟩,
 ⟨1, (some 18), .bi .len [9] 3 [(.tmp 17)], none, []⟩,
 ⟨2, (some 4), .mv (.tmp 18), none, []⟩,
 ⟨3, (some 5), .mv (.con .nilIface), none, []⟩])
 (.ret)))),
 [.tmp 4, .tmp 5]⟩
theorem p_strings_Builder_WriteString : prepFun Go.Proofs.Tryz.prog [1, 0, 2, 3] Go.Proofs.Tryz.f39 = some v_strings_Builder_WriteString := by kernel_rfl

def v_strconv_Itoa : VFun :=
⟨.seq (.reg [⟨0, (some 2), .mv (.con (.string ⟨#[]⟩)), none, []⟩])
 (.seq (.reg [⟨0, (some 3), .mv (.tmp 0), none, []⟩,
 ⟨1, (some 4), .call 73 [(.tmp 3)], none, []⟩,
 ⟨2, (some 2), .mv (.tmp 4), none, []⟩])
 (.ret)),
 [.tmp 2]⟩
theorem p_strconv_Itoa : prepFun Go.Proofs.Tryz.prog [1, 0, 2, 3] Go.Proofs.Tryz.f40 = some v_strconv_Itoa := by kernel_rfl

def v_code_opText : VFun :=
⟨.seq (.reg [⟨0, (some 1), .box (.tmp 0), none, []⟩,
 ⟨1, (some 2), .mv (.con (.string ⟨#[]⟩)), none, []⟩])
 (.seq (.reg [⟨0, (some 9), .fieldA 0 (.tmp 1), none, []⟩,
 ⟨1, (some 10), .load none (.tmp 9), none, []⟩,
 ⟨2, (some 11), .call 55 [(.tmp 10)], none, []⟩,
 ⟨3, (some 8), .mv (.tmp 11), none, []⟩,
 ⟨4, (some 12), .ext (.tmp 8) 0, none, []⟩,
 ⟨5, (some 13), .ext (.tmp 8) 1, none, []⟩,
 ⟨6, (some 3), .alloc [(.int .i64 0), (.int .i64 0), (.string ⟨#[]⟩)], none, []⟩,
 ⟨7, none, .store 3 (.tmp 3) (.tmp 12), none, []⟩,
 ⟨8, (some 4), .mv (.tmp 13), none, []⟩])
 (.seq (.reg [⟨0, (some 5), .allocF [(.int .i64 1), (.int .i64 81), (.int .i64 5), (.string ⟨#[]⟩)], none, []⟩])
 (.seq (.seq (.reg [⟨0, (some 14), .fieldA 6 (.tmp 1), none, []⟩,
 ⟨1, (some 15), .load none (.tmp 14), none, []⟩,
 ⟨2, (some 16), .bin .neq 3 true (.tmp 15) (.con (.int .i64 (-1))), none, []⟩])
 (.cond (.tmp 16)
 (.reg [⟨0, (some 17), .fieldA 6 (.tmp 1), none, []⟩,
 ⟨1, (some 18), .load none (.tmp 17), none, []⟩,
 ⟨2, (some 19), .call 40 [(.tmp 18)], none, []⟩,
 ⟨3, (some 20), .bin .add 9 true (.con (.string ⟨#[63, 32]⟩)) (.tmp 19), none, []⟩,
 ⟨4, (some 21), .bin .add 9 true (.tmp 20) (.con (.string ⟨#[32]⟩)), none, []⟩,
 ⟨5, (some 22), .call 39 [(.tmp 5), (.tmp 21)], none, []⟩])
 (.skip)))
 (.seq (.seq (.reg [⟨0, (some 23), .fieldA 0 (.tmp 3), none, []⟩,
 ⟨1, (some 24), .load none (.tmp 23), none, []⟩,
 ⟨2, (some 25), .bin .and 3 true (.tmp 24) (.con (.int .i64 1)), none, []⟩,
 ⟨3, (some 26), .bin .neq 3 true (.tmp 25) (.con (.int .i64 0)), none, []⟩])
 (.cond (.tmp 26)
 (.reg [⟨0, (some 27), .fieldA 1 (.tmp 1), none, []⟩,
 ⟨1, (some 28), .load none (.tmp 27), none, []⟩,
 ⟨2, (some 29), .call 40 [(.tmp 28)], none, []⟩,
 ⟨3, (some 30), .bin .add 9 true (.tmp 29) (.con (.string ⟨#[32, 61, 32]⟩)), none, []⟩,
 ⟨4, (some 31), .call 39 [(.tmp 5), (.tmp 30)], none, []⟩])
 (.skip)))
 (.seq (.reg [⟨0, (some 32), .fieldA 2 (.tmp 3), none, []⟩,
 ⟨1, (some 33), .load none (.tmp 32), none, []⟩,
 ⟨2, (some 34), .call 39 [(.tmp 5), (.tmp 33)], none, []⟩])
 (.seq (.seq (.reg [⟨0, (some 35), .load (some 7) (.tmp 1), none, []⟩,
 ⟨1, (some 36), .call 56 [(.tmp 35)], none, []⟩,
 ⟨2, (some 37), .len (.tmp 36), none, []⟩,
 ⟨3, (some 38), .mv (.con (.int .i64 0)), none, []⟩])
 (.block 0
 (.loop
 (.seq (.reg [⟨0, (some 39), .bin .lss 3 false (.tmp 38) (.tmp 37), none, []⟩])
 (.seq (.cond (.tmp 39)
 (.skip)
 (.exit 0))
 (.seq (.block 1
 (.seq (.reg [⟨0, (some 40), .idxA none 1 (.tmp 36) (.tmp 38), none, []⟩,
 ⟨1, (some 41), .load none (.tmp 40), none, []⟩,
 ⟨2, (some 7), .mv (.tmp 41), none, []⟩])
 (.reg [⟨0, (some 42), .mv (.tmp 7), none, []⟩,
 ⟨1, (some 43), .call 40 [(.tmp 42)], none, []⟩,
 ⟨2, (some 44), .bin .add 9 true (.con (.string ⟨#[32]⟩)) (.tmp 43), none, []⟩,
 ⟨3, (some 45), .call 39 [(.tmp 5), (.tmp 44)], none, []⟩])))
 (.reg [⟨0, (some 46), .bin .add 3 true (.tmp 38) (.con (.int .i64 1)), none, []⟩,
 ⟨1, (some 38), .mv (.tmp 46), none, []⟩])))))))
 (.seq (.seq (.reg [⟨0, (some 47), .fieldA 0 (.tmp 3), none, []⟩,
 ⟨1, (some 48), .load none (.tmp 47), none, []⟩,
 ⟨2, (some 49), .bin .and 3 true (.tmp 48) (.con (.int .i64 240)), none, []⟩,
 ⟨3, (some 50), .bin .neq 3 true (.tmp 49) (.con (.int .i64 0)), none, []⟩])
 (.cond (.tmp 50)
 (.reg [⟨0, (some 51), .fieldA 5 (.tmp 1), none, []⟩,
 ⟨1, (some 52), .load none (.tmp 51), none, []⟩,
 ⟨2, (some 53), .call 74 [(.tmp 52)], none, []⟩,
 ⟨3, (some 54), .bin .add 9 true (.con (.string ⟨#[32]⟩)) (.tmp 53), none, []⟩,
 ⟨4, (some 55), .call 39 [(.tmp 5), (.tmp 54)], none, []⟩])
 (.skip)))
 (.seq (.reg [⟨0, (some 56), .call 43 [(.tmp 5)], none, []⟩,
 ⟨1, (some 2), .mv (.tmp 56), none, []⟩])
 (.ret))))))))),
 [.tmp 2]⟩
theorem p_code_opText : prepFun Go.Proofs.Tryz.prog [1, 0, 2, 3] Go.Proofs.Tryz.f41 = some v_code_opText := by kernel_rfl

def v_code_endText : VFun :=
⟨.seq (.reg [⟨0, (some 1), .box (.tmp 0), none, []⟩,
 ⟨1, (some 2), .mv (.con (.string ⟨#[]⟩)), none, []⟩])
 (.seq (.reg [⟨0, (some 7), .fieldA 1 (.tmp 1), none, []⟩,
 ⟨1, (some 8), .load none (.tmp 7), none, []⟩,
 ⟨2, (some 9), .fieldA 2 (.tmp 1), none, []⟩,
 ⟨3, (some 10), .load none (.tmp 9), none, []⟩,
 ⟨4, (some 11), .fieldA 3 (.tmp 1), none, []⟩,
 ⟨5, (some 12), .load none (.tmp 11), none, []⟩,
 ⟨6, (some 13), .bslice 1 3 [(.int .i64 0)] [(0, 1, (.tmp 8)), (1, 1, (.tmp 10)), (2, 1, (.tmp 12))], none, []⟩,
 ⟨7, (some 3), .mv (.tmp 13), none, []⟩])
 (.seq (.seq (.reg [⟨0, (some 14), .fieldA 0 (.tmp 1), none, []⟩,
 ⟨1, (some 15), .load none (.tmp 14), none, []⟩,
 ⟨2, (some 16), .bin .eql 3 true (.tmp 15) (.con (.int .i64 1)), none, []⟩])
 (.cond (.tmp 16)
 (.reg [⟨0, (some 17), .mv (.tmp 3), none, []⟩,
 ⟨1, (some 18), .slice none 1 (.tmp 17) (some (.con (.int .i64 1))) none none, none, []⟩,
 ⟨2, (some 3), .mv (.tmp 18), none, []⟩])
 (.skip)))
 (.seq (.reg [⟨0, (some 19), .fieldA 0 (.tmp 1), none, []⟩,
 ⟨1, (some 20), .load none (.tmp 19), none, []⟩,
 ⟨2, (some 21), .bin .sub 3 true (.tmp 20) (.con (.int .i64 1)), none, []⟩,
 ⟨3, (some 22), .idxA (some 4) 2 (.glo 1) (.tmp 21), none, []⟩,
 ⟨4, (some 23), .fieldA 0 (.tmp 22), none, []⟩,
 ⟨5, (some 24), .load none (.tmp 23), none, []⟩,
 ⟨6, (some 4), .mv (.tmp 24), none, []⟩])
 (.seq (.seq (.reg [⟨0, (some 25), .mv (.tmp 3), none, []⟩,
 ⟨1, (some 26), .fieldA 0 (.tmp 1), none, []⟩,
 ⟨2, (some 27), .load none (.tmp 26), none, []⟩,
 ⟨3, (some 28), .bin .sub 3 true (.tmp 27) (.con (.int .i64 1)), none, []⟩,
 ⟨4, (some 29), .idxA (some 4) 2 (.glo 1) (.tmp 28), none, []⟩,
 ⟨5, (some 30), .fieldA 1 (.tmp 29), none, []⟩,
 ⟨6, (some 31), .load none (.tmp 30), none, []⟩,
 ⟨7, (some 32), .slice none 1 (.tmp 25) none (some (.tmp 31)) none, none, []⟩,
 ⟨8, (some 33), .len (.tmp 32), none, []⟩,
 ⟨9, (some 34), .mv (.con (.int .i64 0)), none, []⟩])
 (.block 0
 (.loop
 (.seq (.reg [⟨0, (some 35), .bin .lss 3 false (.tmp 34) (.tmp 33), none, []⟩])
 (.seq (.cond (.tmp 35)
 (.skip)
 (.exit 0))
 (.seq (.block 1
 (.seq (.reg [⟨0, (some 36), .idxA none 1 (.tmp 32) (.tmp 34), none, []⟩,
 ⟨1, (some 37), .load none (.tmp 36), none, []⟩,
 ⟨2, (some 6), .mv (.tmp 37), none, []⟩])
 (.reg [⟨0, (some 38), .mv (.tmp 4), none, []⟩,
 ⟨1, (some 39), .mv (.tmp 6), none, []⟩,
 ⟨2, (some 40), .call 40 [(.tmp 39)], none, []⟩,
 ⟨3, (some 41), .bin .add 9 true (.con (.string ⟨#[32]⟩)) (.tmp 40), none, []⟩,
 ⟨4, (some 42), .bin .add 9 false (.tmp 38) (.tmp 41), none, []⟩,
 ⟨5, (some 4), .mv (.tmp 42), none, []⟩])))
 (.reg [⟨0, (some 43), .bin .add 3 true (.tmp 34) (.con (.int .i64 1)), none, []⟩,
 ⟨1, (some 34), .mv (.tmp 43), none, []⟩])))))))
 (.seq (.reg [⟨0, (some 44), .mv (.tmp 4), none, []⟩,
 ⟨1, (some 2), .mv (.tmp 44), none, []⟩])
 (.ret)))))),
 [.tmp 2]⟩
theorem p_code_endText : prepFun Go.Proofs.Tryz.prog [1, 0, 2, 3] Go.Proofs.Tryz.f42 = some v_code_endText := by kernel_rfl

def v_code_lines_unit : VFun :=
⟨.seq (.reg [⟨0, (some 4), .mv (.con (.bool false)), none, []⟩])
 (.seq (.reg [⟨0, (some 18), .mv (.tmp 0), none, []⟩,
 ⟨1, (some 19), .call 77 [(.tmp 18)], none, []⟩,
 ⟨2, (some 17), .mv (.tmp 19), none, []⟩,
 ⟨3, (some 20), .ext (.tmp 17) 0, none, []⟩,
 ⟨4, (some 21), .ext (.tmp 17) 1, none, []⟩,
 ⟨5, (some 5), .mv (.tmp 20), none, []⟩,
 ⟨6, (some 6), .mv (.tmp 21), none, []⟩])
 (.seq (.reg [⟨0, (some 23), .mv (.tmp 5), none, []⟩,
 ⟨1, (some 24), .call 78 [(.tmp 23), (.con (.string ⟨#[117, 110, 105, 116]⟩)), (.con (.int .i64 4))], none, []⟩,
 ⟨2, (some 22), .mv (.tmp 24), none, []⟩,
 ⟨3, (some 25), .ext (.tmp 22) 0, none, []⟩,
 ⟨4, (some 26), .ext (.tmp 22) 1, none, []⟩,
 ⟨5, (some 7), .mv (.tmp 25), none, []⟩,
 ⟨6, (some 8), .mv (.tmp 26), none, []⟩])
 (.seq (.seq (.reg [⟨0, (some 28), .mv (.tmp 0), none, []⟩,
 ⟨1, (some 29), .call 77 [(.tmp 28)], none, []⟩,
 ⟨2, (some 27), .mv (.tmp 29), none, []⟩,
 ⟨3, (some 30), .ext (.tmp 27) 0, none, []⟩,
 ⟨4, (some 31), .ext (.tmp 27) 1, none, []⟩,
 ⟨5, (some 9), .mv (.tmp 30), none, []⟩,
 ⟨6, (some 10), .mv (.tmp 31), none, []⟩])
 (.seq (.reg [⟨0, (some 32), .mv (.tmp 8), none, []⟩,
 ⟨1, (some 33), .un .not (.tmp 32), none, []⟩,
 ⟨2, (some 34), .mv (.tmp 33), none, []⟩,
 ⟨3, (some 35), .mv (.tmp 10), (some (34, false)), []⟩,
 ⟨4, (some 36), .un .not (.tmp 35), (some (34, false)), []⟩,
 ⟨5, (some 37), .pick (.tmp 34) (.con (.bool true)) (.tmp 36), none, []⟩])
 (.cond (.tmp 37)
 (.seq (.reg [⟨0, (some 4), .mv (.con (.bool false)), none, []⟩])
 (.ret))
 (.skip))))
 (.seq (.reg [⟨0, (some 38), .mv (.tmp 1), none, []⟩,
 ⟨1, (some 39), .mv (.tmp 1), none, []⟩,
 ⟨2, (some 40), .mv (.tmp 1), none, []⟩,
 ⟨3, (some 41), .mv (.tmp 1), none, []⟩,
 ⟨4, (some 42), .mv (.tmp 7), none, []⟩,
 ⟨5, (some 43), .idxA none 1 (.tmp 42) (.con (.int .i64 0)), none, []⟩,
 ⟨6, (some 44), .load none (.tmp 43), none, []⟩,
 ⟨7, (some 45), .mv (.tmp 7), none, []⟩,
 ⟨8, (some 46), .idxA none 1 (.tmp 45) (.con (.int .i64 1)), none, []⟩,
 ⟨9, (some 47), .load none (.tmp 46), none, []⟩,
 ⟨10, (some 48), .mv (.tmp 7), none, []⟩,
 ⟨11, (some 49), .idxA none 1 (.tmp 48) (.con (.int .i64 2)), none, []⟩,
 ⟨12, (some 50), .load none (.tmp 49), none, []⟩,
 ⟨13, (some 51), .mv (.tmp 7), none, []⟩,
 ⟨14, (some 52), .idxA none 1 (.tmp 51) (.con (.int .i64 3)), none, []⟩,
 ⟨15, (some 53), .load none (.tmp 52), none, []⟩,
 ⟨16, (some 54), .nilck (.tmp 38), none, []⟩,
 ⟨17, (some 55), .fieldA 1 (.tmp 54), none, []⟩,
 ⟨18, none, .store 1 (.tmp 55) (.tmp 44), none, []⟩,
 ⟨19, (some 56), .nilck (.tmp 39), none, []⟩,
 ⟨20, (some 57), .fieldA 2 (.tmp 56), none, []⟩,
 ⟨21, none, .store 1 (.tmp 57) (.tmp 47), none, []⟩,
 ⟨22, (some 58), .nilck (.tmp 40), none, []⟩,
 ⟨23, (some 59), .fieldA 3 (.tmp 58), none, []⟩,
 ⟨24, none, .store 1 (.tmp 59) (.tmp 50), none, []⟩,
 ⟨25, (some 60), .nilck (.tmp 41), none, []⟩,
 ⟨26, (some 61), .fieldA 4 (.tmp 60), none, []⟩,
 ⟨27, none, .store 1 (.tmp 61) (.tmp 53), none, []⟩])
 (.seq (.reg [⟨0, (some 62), .mv (.tmp 0), none, []⟩,
 ⟨1, (some 63), .call 79 [(.tmp 62)], none, []⟩])
 (.seq (.block 0
 (.loop
 (.seq (.seq (.reg [⟨0, (some 64), .mv (.tmp 0), none, []⟩,
 ⟨1, (some 65), .nilck (.tmp 64), none, []⟩,
 ⟨2, (some 66), .fieldA 0 (.tmp 65), none, []⟩,
 ⟨3, (some 67), .load none (.tmp 66), none, []⟩,
 ⟨4, (some 68), .bin .neq 9 true (.tmp 67) (.con (.string ⟨#[]⟩)), none, []⟩])
 (.cond (.tmp 68)
 (.skip)
 (.exit 0)))
 (.block 1
 (.seq (.reg [⟨0, (some 70), .mv (.tmp 0), none, []⟩,
 ⟨1, (some 71), .call 77 [(.tmp 70)], none, []⟩,
 ⟨2, (some 69), .mv (.tmp 71), none, []⟩,
 ⟨3, (some 72), .ext (.tmp 69) 0, none, []⟩,
 ⟨4, (some 73), .ext (.tmp 69) 1, none, []⟩,
 ⟨5, (some 11), .mv (.tmp 72), none, []⟩,
 ⟨6, (some 12), .mv (.tmp 73), none, []⟩])
 (.seq (.reg [⟨0, (some 75), .mv (.tmp 11), none, []⟩,
 ⟨1, (some 76), .call 78 [(.tmp 75), (.con (.string ⟨#[97, 114, 114, 97, 121]⟩)), (.con (.int .i64 1))], none, []⟩,
 ⟨2, (some 74), .mv (.tmp 76), none, []⟩,
 ⟨3, (some 77), .ext (.tmp 74) 0, none, []⟩,
 ⟨4, (some 78), .ext (.tmp 74) 1, none, []⟩,
 ⟨5, (some 13), .mv (.tmp 77), none, []⟩,
 ⟨6, (some 14), .mv (.tmp 78), none, []⟩])
 (.seq (.reg [⟨0, (some 80), .mv (.tmp 11), none, []⟩,
 ⟨1, (some 81), .call 78 [(.tmp 80), (.con (.string ⟨#[98, 108, 111, 99, 107]⟩)), (.con (.int .i64 1))], none, []⟩,
 ⟨2, (some 79), .mv (.tmp 81), none, []⟩,
 ⟨3, (some 82), .ext (.tmp 79) 0, none, []⟩,
 ⟨4, (some 83), .ext (.tmp 79) 1, none, []⟩,
 ⟨5, (some 15), .mv (.tmp 82), none, []⟩,
 ⟨6, (some 16), .mv (.tmp 83), none, []⟩])
 (.block 2
 (.seq (.reg [⟨0, (some 85), .mv (.tmp 12), none, []⟩,
 ⟨1, (some 86), .un .not (.tmp 85), none, []⟩,
 ⟨2, (some 84), .mv (.tmp 86), none, []⟩])
 (.cond (.tmp 84)
 (.seq (.reg [⟨0, (some 4), .mv (.con (.bool false)), none, []⟩])
 (.ret))
 (.seq (.reg [⟨0, (some 88), .mv (.tmp 14), none, []⟩,
 ⟨1, (some 89), .mv (.tmp 88), none, []⟩,
 ⟨2, (some 90), .mv (.tmp 1), (some (89, true)), []⟩,
 ⟨3, (some 91), .nilck (.tmp 90), (some (89, true)), []⟩,
 ⟨4, (some 92), .fieldA 5 (.tmp 91), (some (89, true)), []⟩,
 ⟨5, (some 93), .load none (.tmp 92), (some (89, true)), []⟩,
 ⟨6, (some 94), .len (.tmp 93), (some (89, true)), []⟩,
 ⟨7, (some 95), .bin .eql 3 true (.tmp 94) (.con (.int .i64 0)), (some (89, true)), []⟩,
 ⟨8, (some 96), .pick (.tmp 89) (.tmp 95) (.con (.bool false)), none, []⟩,
 ⟨9, (some 87), .mv (.tmp 96), none, []⟩])
 (.cond (.tmp 87)
 (.seq (.reg [⟨0, (some 97), .mv (.tmp 1), none, []⟩,
 ⟨1, (some 98), .mv (.tmp 1), none, []⟩,
 ⟨2, (some 99), .nilck (.tmp 98), none, []⟩,
 ⟨3, (some 100), .fieldA 0 (.tmp 99), none, []⟩,
 ⟨4, (some 101), .load none (.tmp 100), none, []⟩,
 ⟨5, (some 102), .mv (.tmp 13), none, []⟩,
 ⟨6, (some 103), .idxA none 1 (.tmp 102) (.con (.int .i64 0)), none, []⟩,
 ⟨7, (some 104), .load none (.tmp 103), none, []⟩,
 ⟨8, (some 105), .bslice 1 1 [(.int .i64 0)] [(0, 1, (.tmp 104))], none, []⟩,
 ⟨9, (some 106), .append 1 8 (.tmp 101) (.tmp 105), none, []⟩,
 ⟨10, (some 107), .nilck (.tmp 97), none, []⟩,
 ⟨11, (some 108), .fieldA 0 (.tmp 107), none, []⟩,
 ⟨12, none, .store 1 (.tmp 108) (.tmp 106), none, []⟩])
 (.reg [⟨0, (some 109), .mv (.tmp 0), none, []⟩,
 ⟨1, (some 110), .call 79 [(.tmp 109)], none, []⟩]))
 (.seq (.reg [⟨0, (some 112), .mv (.tmp 16), none, []⟩,
 ⟨1, (some 111), .mv (.tmp 112), none, []⟩])
 (.cond (.tmp 111)
 (.seq (.reg [⟨0, (some 113), .mv (.tmp 1), none, []⟩,
 ⟨1, (some 114), .mv (.tmp 1), none, []⟩,
 ⟨2, (some 115), .nilck (.tmp 114), none, []⟩,
 ⟨3, (some 116), .fieldA 5 (.tmp 115), none, []⟩,
 ⟨4, (some 117), .load none (.tmp 116), none, []⟩,
 ⟨5, (some 118), .mv (.tmp 15), none, []⟩,
 ⟨6, (some 119), .idxA none 1 (.tmp 118) (.con (.int .i64 0)), none, []⟩,
 ⟨7, (some 120), .load none (.tmp 119), none, []⟩,
 ⟨8, (some 121), .build [(.slice none 0 0), (.int .i64 0), (.int .i64 0), (.int .i64 0), (.int .i64 0), (.int .i64 0)] [(5, 1, (.tmp 120))], none, []⟩,
 ⟨9, (some 122), .bslice 6 1 [(.slice none 0 0), (.int .i64 0), (.int .i64 0), (.int .i64 0), (.int .i64 0), (.int .i64 0)] [(0, 6, (.tmp 121))], none, []⟩,
 ⟨10, (some 123), .append 6 64 (.tmp 117) (.tmp 122), none, []⟩,
 ⟨11, (some 124), .nilck (.tmp 113), none, []⟩,
 ⟨12, (some 125), .fieldA 5 (.tmp 124), none, []⟩,
 ⟨13, none, .store 1 (.tmp 125) (.tmp 123), none, []⟩])
 (.seq (.reg [⟨0, (some 126), .mv (.tmp 0), none, []⟩,
 ⟨1, (some 127), .call 79 [(.tmp 126)], none, []⟩])
 (.seq (.reg [⟨0, (some 128), .mv (.tmp 0), none, []⟩,
 ⟨1, (some 129), .mv (.tmp 1), none, []⟩,
 ⟨2, (some 130), .nilck (.tmp 129), none, []⟩,
 ⟨3, (some 131), .fieldA 5 (.tmp 130), none, []⟩,
 ⟨4, (some 132), .load none (.tmp 131), none, []⟩,
 ⟨5, (some 133), .mv (.tmp 1), none, []⟩,
 ⟨6, (some 134), .nilck (.tmp 133), none, []⟩,
 ⟨7, (some 135), .fieldA 5 (.tmp 134), none, []⟩,
 ⟨8, (some 136), .load none (.tmp 135), none, []⟩,
 ⟨9, (some 137), .len (.tmp 136), none, []⟩,
 ⟨10, (some 138), .bin .sub 3 true (.tmp 137) (.con (.int .i64 1)), none, []⟩,
 ⟨11, (some 139), .idxA none 6 (.tmp 132) (.tmp 138), none, []⟩,
 ⟨12, (some 140), .call 80 [(.tmp 128), (.tmp 139)], none, []⟩,
 ⟨13, (some 141), .un .not (.tmp 140), none, []⟩])
 (.cond (.tmp 141)
 (.seq (.reg [⟨0, (some 4), .mv (.con (.bool false)), none, []⟩])
 (.ret))
 (.skip)))))
 (.seq (.reg [⟨0, (some 4), .mv (.con (.bool false)), none, []⟩])
 (.ret))))))))))))))))
 (.seq (.reg [⟨0, (some 4), .mv (.con (.bool true)), none, []⟩])
 (.ret)))))))),
 [.tmp 4]⟩
theorem p_code_lines_unit : prepFun Go.Proofs.Tryz.prog [1, 0, 2, 3] Go.Proofs.Tryz.f46 = some v_code_lines_unit := by kernel_rfl

def v_strings_Split : VFun :=
⟨.seq (.reg [⟨0, (some 4), .mv (.con (.slice none 0 0)), none, []⟩])
 (.seq (.reg [⟨0, (some 5), .mv (.tmp 0), none, []⟩,
 ⟨1, (some 6), .mv (.tmp 1), none, []⟩,
 ⟨2, (some 7), .call 81 [(.tmp 5), (.tmp 6), (.con (.int .i64 0)), (.con (.int .i64 (-1)))], none, []⟩,
 ⟨3, (some 4), .mv (.tmp 7), none, []⟩])
 (.ret)),
 [.tmp 4]⟩
theorem p_strings_Split : prepFun Go.Proofs.Tryz.prog [1, 0, 2, 3] Go.Proofs.Tryz.f47 = some v_strings_Split := by kernel_rfl

end Go.VX.Seat
end
section
set_option maxRecDepth 20000
/-! MADE BY PROGRAM (lits.py): functions as they are prepared. -/
namespace Go.VX.Seat
def v_r07_SameBlocks : VFun :=
⟨.seq (.reg [⟨0, (some 4), .mv (.con (.bool false)), none, []⟩])
 (.seq (.seq (.reg [⟨0, (some 6), .mv (.tmp 0), none, []⟩,
 ⟨1, (some 7), .len (.tmp 6), none, []⟩,
 ⟨2, (some 8), .mv (.tmp 1), none, []⟩,
 ⟨3, (some 9), .len (.tmp 8), none, []⟩,
 ⟨4, (some 10), .bin .neq 3 false (.tmp 7) (.tmp 9), none, []⟩])
 (.cond (.tmp 10)
 (.seq (.reg [⟨0, (some 4), .mv (.con (.bool false)), none, []⟩])
 (.ret))
 (.skip)))
 (.seq (.seq (.reg [⟨0, (some 5), .mv (.con (.int .i64 0)), none, []⟩])
 (.block 0
 (.loop
 (.seq (.seq (.reg [⟨0, (some 11), .mv (.tmp 5), none, []⟩,
 ⟨1, (some 12), .mv (.tmp 0), none, []⟩,
 ⟨2, (some 13), .len (.tmp 12), none, []⟩,
 ⟨3, (some 14), .bin .lss 3 false (.tmp 11) (.tmp 13), none, []⟩])
 (.cond (.tmp 14)
 (.skip)
 (.exit 0)))
 (.seq (.block 1
 (.seq (.reg [⟨0, (some 17), .mv (.tmp 0), none, []⟩,
 ⟨1, (some 18), .mv (.tmp 5), none, []⟩,
 ⟨2, (some 19), .idxA none 6 (.tmp 17) (.tmp 18), none, []⟩,
 ⟨3, (some 20), .fieldA 0 (.tmp 19), none, []⟩,
 ⟨4, (some 21), .load none (.tmp 20), none, []⟩,
 ⟨5, (some 22), .mv (.tmp 1), none, []⟩,
 ⟨6, (some 23), .mv (.tmp 5), none, []⟩,
 ⟨7, (some 24), .idxA none 6 (.tmp 22) (.tmp 23), none, []⟩,
 ⟨8, (some 25), .fieldA 0 (.tmp 24), none, []⟩,
 ⟨9, (some 26), .load none (.tmp 25), none, []⟩,
 ⟨10, (some 27), .call 86 [(.tmp 21), (.tmp 26)], none, []⟩,
 ⟨11, (some 28), .un .not (.tmp 27), none, []⟩,
 ⟨12, (some 29), .mv (.tmp 28), none, []⟩,
 ⟨13, (some 30), .mv (.tmp 0), (some (29, false)), []⟩,
 ⟨14, (some 31), .mv (.tmp 5), (some (29, false)), []⟩,
 ⟨15, (some 32), .idxA none 6 (.tmp 30) (.tmp 31), (some (29, false)), []⟩,
 ⟨16, (some 33), .fieldA 1 (.tmp 32), (some (29, false)), []⟩,
 ⟨17, (some 34), .load (some 4) (.tmp 33), (some (29, false)), []⟩,
 ⟨18, (some 35), .mv (.tmp 1), (some (29, false)), []⟩,
 ⟨19, (some 36), .mv (.tmp 5), (some (29, false)), []⟩,
 ⟨20, (some 37), .idxA none 6 (.tmp 35) (.tmp 36), (some (29, false)), []⟩,
 ⟨21, (some 38), .fieldA 1 (.tmp 37), (some (29, false)), []⟩,
 ⟨22, (some 39), .load (some 4) (.tmp 38), (some (29, false)), []⟩,
 ⟨23, (some 40), .bin .neq 75 false (.tmp 34) (.tmp 39), (some (29, false)), []⟩,
 ⟨24, (some 41), .pick (.tmp 29) (.con (.bool true)) (.tmp 40), none, []⟩,
 ⟨25, (some 42), .mv (.tmp 41), none, []⟩,
 ⟨26, (some 43), .mv (.tmp 0), (some (42, false)), []⟩,
 ⟨27, (some 44), .mv (.tmp 5), (some (42, false)), []⟩,
 ⟨28, (some 45), .idxA none 6 (.tmp 43) (.tmp 44), (some (42, false)), []⟩,
 ⟨29, (some 46), .fieldA 5 (.tmp 45), (some (42, false)), []⟩,
 ⟨30, (some 47), .load none (.tmp 46), (some (42, false)), []⟩,
 ⟨31, (some 48), .mv (.tmp 1), (some (42, false)), []⟩,
 ⟨32, (some 49), .mv (.tmp 5), (some (42, false)), []⟩,
 ⟨33, (some 50), .idxA none 6 (.tmp 48) (.tmp 49), (some (42, false)), []⟩,
 ⟨34, (some 51), .fieldA 5 (.tmp 50), (some (42, false)), []⟩,
 ⟨35, (some 52), .load none (.tmp 51), (some (42, false)), []⟩,
 ⟨36, (some 53), .bin .neq 3 false (.tmp 47) (.tmp 52), (some (42, false)), []⟩,
 ⟨37, (some 54), .pick (.tmp 42) (.con (.bool true)) (.tmp 53), none, []⟩])
 (.cond (.tmp 54)
 (.seq (.reg [⟨0, (some 4), .mv (.con (.bool false)), none, []⟩])
 (.ret))
 (.skip))))
 (.reg [⟨0, (some 15), .mv (.tmp 5), none, []⟩,
 ⟨1, (some 16), .bin .add 3 true (.tmp 15) (.con (.int .i64 1)), none, []⟩,
 ⟨2, (some 5), .mv (.tmp 16), none, []⟩]))))))
 (.seq (.reg [⟨0, (some 4), .mv (.con (.bool true)), none, []⟩])
 (.ret)))),
 [.tmp 4]⟩
theorem p_r07_SameBlocks : prepFun Go.Proofs.Tryz.prog [1, 0, 2, 3] Go.Proofs.Tryz.f49 = some v_r07_SameBlocks := by kernel_rfl

def v_r07_register : VFun :=
⟨.seq (.reg [⟨0, (some 2), .box (.tmp 0), none, []⟩,
 ⟨1, (some 4), .mv (.con (.bool false)), none, []⟩])
 (.seq (.reg [⟨0, (some 5), .mv (.tmp 1), none, []⟩,
 ⟨1, (some 6), .bin .geq 3 true (.tmp 5) (.con (.int .i64 0)), none, []⟩,
 ⟨2, (some 7), .mv (.tmp 6), none, []⟩,
 ⟨3, (some 8), .mv (.tmp 1), (some (7, true)), []⟩,
 ⟨4, (some 9), .fieldA 2 (.tmp 2), (some (7, true)), []⟩,
 ⟨5, (some 10), .load none (.tmp 9), (some (7, true)), []⟩,
 ⟨6, (some 11), .bin .lss 3 false (.tmp 8) (.tmp 10), (some (7, true)), []⟩,
 ⟨7, (some 12), .pick (.tmp 7) (.tmp 11) (.con (.bool false)), none, []⟩,
 ⟨8, (some 4), .mv (.tmp 12), none, []⟩])
 (.ret)),
 [.tmp 4]⟩
theorem p_r07_register : prepFun Go.Proofs.Tryz.prog [1, 0, 2, 3] Go.Proofs.Tryz.f50 = some v_r07_register := by kernel_rfl

def v_r07_op : VFun :=
⟨.seq (.reg [⟨0, (some 2), .box (.tmp 0), none, []⟩,
 ⟨1, (some 3), .box (.tmp 1), none, []⟩,
 ⟨2, (some 4), .mv (.con (.int .i64 0)), none, []⟩])
 (.seq (.seq (.reg [⟨0, (some 10), .fieldA 0 (.tmp 3), none, []⟩,
 ⟨1, (some 11), .load none (.tmp 10), none, []⟩,
 ⟨2, (some 12), .call 26 [(.tmp 11)], none, []⟩,
 ⟨3, (some 13), .un .not (.tmp 12), none, []⟩])
 (.cond (.tmp 13)
 (.seq (.reg [⟨0, (some 4), .mv (.con (.int .i64 4)), none, []⟩])
 (.ret))
 (.skip)))
 (.seq (.reg [⟨0, (some 14), .fieldA 0 (.tmp 3), none, []⟩,
 ⟨1, (some 15), .load none (.tmp 14), none, []⟩,
 ⟨3, (some 17), .fieldA 0 (.tmp 3), none, []⟩,
 ⟨4, (some 18), .load none (.tmp 17), none, []⟩,
 ⟨6, (some 20), .fieldA 0 (.tmp 3), none, []⟩,
 ⟨7, (some 21), .load none (.tmp 20), none, []⟩,
 ⟨9, (some 23), .fieldA 0 (.tmp 3), none, []⟩,
 ⟨10, (some 24), .load none (.tmp 23), none, []⟩,
 ⟨2, (some 16), .call 57 [(.tmp 15)], none, [(.tmp 17), (.tmp 20), (.tmp 23)]⟩,
 ⟨5, (some 19), .call 60 [(.tmp 18)], none, [(.tmp 20), (.tmp 23)]⟩,
 ⟨8, (some 22), .call 61 [(.tmp 21)], none, [(.tmp 23)]⟩,
 ⟨11, (some 25), .call 62 [(.tmp 24)], none, []⟩,
 ⟨12, (some 26), .bslice 1 4 [(.bool false)] [(0, 1, (.tmp 16)), (1, 1, (.tmp 19)), (2, 1, (.tmp 22)), (3, 1, (.tmp 25))], none, []⟩,
 ⟨13, (some 5), .mv (.tmp 26), none, []⟩])
 (.seq (.reg [⟨0, (some 27), .fieldA 1 (.tmp 3), none, []⟩,
 ⟨1, (some 28), .load none (.tmp 27), none, []⟩,
 ⟨2, (some 29), .fieldA 2 (.tmp 3), none, []⟩,
 ⟨3, (some 30), .load none (.tmp 29), none, []⟩,
 ⟨4, (some 31), .fieldA 3 (.tmp 3), none, []⟩,
 ⟨5, (some 32), .load none (.tmp 31), none, []⟩,
 ⟨6, (some 33), .fieldA 4 (.tmp 3), none, []⟩,
 ⟨7, (some 34), .load none (.tmp 33), none, []⟩,
 ⟨8, (some 35), .bslice 1 4 [(.int .i64 0)] [(0, 1, (.tmp 28)), (1, 1, (.tmp 30)), (2, 1, (.tmp 32)), (3, 1, (.tmp 34))], none, []⟩,
 ⟨9, (some 6), .mv (.tmp 35), none, []⟩])
 (.seq (.seq (.reg [⟨0, (some 7), .mv (.con (.int .i64 0)), none, []⟩])
 (.block 0
 (.loop
 (.seq (.seq (.reg [⟨0, (some 36), .mv (.tmp 7), none, []⟩,
 ⟨1, (some 37), .bin .lss 3 true (.tmp 36) (.con (.int .i64 4)), none, []⟩])
 (.cond (.tmp 37)
 (.skip)
 (.exit 0)))
 (.seq (.block 1
 (.seq (.reg [⟨0, (some 40), .mv (.tmp 5), none, []⟩,
 ⟨1, (some 41), .mv (.tmp 7), none, []⟩,
 ⟨2, (some 42), .idxA none 1 (.tmp 40) (.tmp 41), none, []⟩,
 ⟨3, (some 43), .load none (.tmp 42), none, []⟩,
 ⟨4, (some 44), .mv (.tmp 43), none, []⟩,
 ⟨5, (some 45), .load (some 6) (.tmp 2), (some (44, true)), []⟩,
 ⟨6, (some 46), .mv (.tmp 6), (some (44, true)), []⟩,
 ⟨7, (some 47), .mv (.tmp 7), (some (44, true)), []⟩,
 ⟨8, (some 48), .idxA none 1 (.tmp 46) (.tmp 47), (some (44, true)), []⟩,
 ⟨9, (some 49), .load none (.tmp 48), (some (44, true)), []⟩,
 ⟨10, (some 50), .call 50 [(.tmp 45), (.tmp 49)], (some (44, true)), []⟩,
 ⟨11, (some 51), .un .not (.tmp 50), (some (44, true)), []⟩,
 ⟨12, (some 52), .pick (.tmp 44) (.tmp 51) (.con (.bool false)), none, []⟩])
 (.cond (.tmp 52)
 (.seq (.reg [⟨0, (some 4), .mv (.con (.int .i64 2)), none, []⟩])
 (.ret))
 (.skip))))
 (.reg [⟨0, (some 38), .mv (.tmp 7), none, []⟩,
 ⟨1, (some 39), .bin .add 3 true (.tmp 38) (.con (.int .i64 1)), none, []⟩,
 ⟨2, (some 7), .mv (.tmp 39), none, []⟩]))))))
 (.seq (.seq (.reg [⟨0, (some 53), .fieldA 6 (.tmp 3), none, []⟩,
 ⟨1, (some 54), .load none (.tmp 53), none, []⟩,
 ⟨2, (some 55), .bin .neq 3 true (.tmp 54) (.con (.int .i64 (-1))), none, []⟩,
 ⟨3, (some 56), .mv (.tmp 55), none, []⟩,
 ⟨4, (some 57), .load (some 6) (.tmp 2), (some (56, true)), []⟩,
 ⟨5, (some 58), .fieldA 6 (.tmp 3), (some (56, true)), []⟩,
 ⟨6, (some 59), .load none (.tmp 58), (some (56, true)), []⟩,
 ⟨7, (some 60), .call 50 [(.tmp 57), (.tmp 59)], (some (56, true)), []⟩,
 ⟨8, (some 61), .un .not (.tmp 60), (some (56, true)), []⟩,
 ⟨9, (some 62), .pick (.tmp 56) (.tmp 61) (.con (.bool false)), none, []⟩])
 (.cond (.tmp 62)
 (.seq (.reg [⟨0, (some 4), .mv (.con (.int .i64 2)), none, []⟩])
 (.ret))
 (.skip)))
 (.seq (.reg [⟨0, (some 8), .mv (.con (.int .i64 (-1))), none, []⟩])
 (.seq (.block 2
 (.seq (.reg [⟨0, (some 64), .fieldA 0 (.tmp 3), none, []⟩,
 ⟨1, (some 65), .load none (.tmp 64), none, []⟩,
 ⟨2, (some 66), .call 87 [(.tmp 65)], none, []⟩,
 ⟨3, (some 63), .mv (.tmp 66), none, []⟩])
 (.cond (.tmp 63)
 (.reg [⟨0, (some 67), .fieldA 0 (.tmp 2), none, []⟩,
 ⟨1, (some 68), .load none (.tmp 67), none, []⟩,
 ⟨2, (some 69), .len (.tmp 68), none, []⟩,
 ⟨3, (some 8), .mv (.tmp 69), none, []⟩])
 (.seq (.reg [⟨0, (some 71), .fieldA 0 (.tmp 3), none, []⟩,
 ⟨1, (some 72), .load none (.tmp 71), none, []⟩,
 ⟨2, (some 73), .call 88 [(.tmp 72)], none, []⟩,
 ⟨3, (some 70), .mv (.tmp 73), none, []⟩])
 (.cond (.tmp 70)
 (.reg [⟨0, (some 74), .fieldA 4 (.tmp 2), none, []⟩,
 ⟨1, (some 75), .load none (.tmp 74), none, []⟩,
 ⟨2, (some 8), .mv (.tmp 75), none, []⟩])
 (.seq (.reg [⟨0, (some 77), .fieldA 0 (.tmp 3), none, []⟩,
 ⟨1, (some 78), .load none (.tmp 77), none, []⟩,
 ⟨2, (some 79), .bin .eql 3 true (.tmp 78) (.con (.int .i64 21)), none, []⟩,
 ⟨3, (some 76), .mv (.tmp 79), none, []⟩])
 (.cond (.tmp 76)
 (.reg [⟨0, (some 80), .fieldA 5 (.tmp 2), none, []⟩,
 ⟨1, (some 81), .load none (.tmp 80), none, []⟩,
 ⟨2, (some 82), .len (.tmp 81), none, []⟩,
 ⟨3, (some 8), .mv (.tmp 82), none, []⟩])
 (.skip))))))))
 (.seq (.seq (.reg [⟨0, (some 83), .mv (.tmp 8), none, []⟩,
 ⟨1, (some 84), .bin .geq 3 true (.tmp 83) (.con (.int .i64 0)), none, []⟩,
 ⟨2, (some 85), .mv (.tmp 84), none, []⟩,
 ⟨3, (some 86), .fieldA 5 (.tmp 3), (some (85, true)), []⟩,
 ⟨4, (some 87), .load none (.tmp 86), (some (85, true)), []⟩,
 ⟨5, (some 88), .bin .lss 2 true (.tmp 87) (.con (.int .i64 0)), (some (85, true)), []⟩,
 ⟨6, (some 89), .mv (.tmp 88), (some (85, true)), []⟩,
 ⟨7, (some 90), .fieldA 5 (.tmp 3), (some (89, false)), []⟩,
 ⟨8, (some 91), .load none (.tmp 90), (some (89, false)), []⟩,
 ⟨9, (some 92), .mv (.tmp 8), (some (89, false)), []⟩,
 ⟨10, (some 93), .bin .geq 2 false (.tmp 91) (.tmp 92), (some (89, false)), []⟩,
 ⟨11, (some 94), .pick (.tmp 89) (.con (.bool true)) (.tmp 93), (some (85, true)), []⟩,
 ⟨12, (some 95), .pick (.tmp 85) (.tmp 94) (.con (.bool false)), none, []⟩])
 (.cond (.tmp 95)
 (.seq (.reg [⟨0, (some 4), .mv (.con (.int .i64 5)), none, []⟩])
 (.ret))
 (.skip)))
 (.seq (.seq (.reg [⟨0, (some 9), .mv (.con (.int .i64 0)), none, []⟩])
 (.block 3
 (.loop
 (.seq (.seq (.reg [⟨0, (some 96), .mv (.tmp 9), none, []⟩,
 ⟨1, (some 97), .bin .lss 3 true (.tmp 96) (.con (.int .i64 4)), none, []⟩])
 (.cond (.tmp 97)
 (.skip)
 (.exit 3)))
 (.seq (.block 4
 (.seq (.reg [⟨0, (some 100), .mv (.tmp 5), none, []⟩,
 ⟨1, (some 101), .mv (.tmp 9), none, []⟩,
 ⟨2, (some 102), .idxA none 1 (.tmp 100) (.tmp 101), none, []⟩,
 ⟨3, (some 103), .load none (.tmp 102), none, []⟩,
 ⟨4, (some 104), .un .not (.tmp 103), none, []⟩,
 ⟨5, (some 105), .mv (.tmp 104), none, []⟩,
 ⟨6, (some 106), .mv (.tmp 6), (some (105, true)), []⟩,
 ⟨7, (some 107), .mv (.tmp 9), (some (105, true)), []⟩,
 ⟨8, (some 108), .idxA none 1 (.tmp 106) (.tmp 107), (some (105, true)), []⟩,
 ⟨9, (some 109), .load none (.tmp 108), (some (105, true)), []⟩,
 ⟨10, (some 110), .bin .neq 3 true (.tmp 109) (.con (.int .i64 0)), (some (105, true)), []⟩,
 ⟨11, (some 111), .pick (.tmp 105) (.tmp 110) (.con (.bool false)), none, []⟩])
 (.cond (.tmp 111)
 (.seq (.reg [⟨0, (some 4), .mv (.con (.int .i64 4)), none, []⟩])
 (.ret))
 (.skip))))
 (.reg [⟨0, (some 98), .mv (.tmp 9), none, []⟩,
 ⟨1, (some 99), .bin .add 3 true (.tmp 98) (.con (.int .i64 1)), none, []⟩,
 ⟨2, (some 9), .mv (.tmp 99), none, []⟩]))))))
 (.seq (.seq (.reg [⟨0, (some 112), .fieldA 0 (.tmp 3), none, []⟩,
 ⟨1, (some 113), .load none (.tmp 112), none, []⟩,
 ⟨2, (some 114), .call 75 [(.tmp 113)], none, []⟩,
 ⟨3, (some 115), .un .not (.tmp 114), none, []⟩,
 ⟨4, (some 116), .mv (.tmp 115), none, []⟩,
 ⟨5, (some 117), .fieldA 5 (.tmp 3), (some (116, true)), []⟩,
 ⟨6, (some 118), .load none (.tmp 117), (some (116, true)), []⟩,
 ⟨7, (some 119), .bin .neq 2 true (.tmp 118) (.con (.int .i64 0)), (some (116, true)), []⟩,
 ⟨8, (some 120), .pick (.tmp 116) (.tmp 119) (.con (.bool false)), none, []⟩])
 (.cond (.tmp 120)
 (.seq (.reg [⟨0, (some 4), .mv (.con (.int .i64 4)), none, []⟩])
 (.ret))
 (.skip)))
 (.seq (.reg [⟨0, (some 4), .mv (.con (.int .i64 0)), none, []⟩])
 (.ret)))))))))))),
 [.tmp 4]⟩
theorem p_r07_op : prepFun Go.Proofs.Tryz.prog [1, 0, 2, 3] Go.Proofs.Tryz.f51 = some v_r07_op := by kernel_rfl

def v_r07_end : VFun :=
⟨.seq (.reg [⟨0, (some 2), .box (.tmp 0), none, []⟩,
 ⟨1, (some 3), .box (.tmp 1), none, []⟩,
 ⟨2, (some 4), .mv (.con (.int .i64 0)), none, []⟩])
 (.seq (.seq (.reg [⟨0, (some 5), .fieldA 0 (.tmp 3), none, []⟩,
 ⟨1, (some 6), .load none (.tmp 5), none, []⟩,
 ⟨2, (some 7), .bin .lss 3 true (.tmp 6) (.con (.int .i64 1)), none, []⟩,
 ⟨3, (some 8), .mv (.tmp 7), none, []⟩,
 ⟨4, (some 9), .fieldA 0 (.tmp 3), (some (8, false)), []⟩,
 ⟨5, (some 10), .load none (.tmp 9), (some (8, false)), []⟩,
 ⟨6, (some 11), .bin .gtr 3 true (.tmp 10) (.con (.int .i64 4)), (some (8, false)), []⟩,
 ⟨7, (some 12), .pick (.tmp 8) (.con (.bool true)) (.tmp 11), none, []⟩])
 (.cond (.tmp 12)
 (.seq (.reg [⟨0, (some 4), .mv (.con (.int .i64 4)), none, []⟩])
 (.ret))
 (.skip)))
 (.seq (.seq (.reg [⟨0, (some 13), .fieldA 0 (.tmp 3), none, []⟩,
 ⟨1, (some 14), .load none (.tmp 13), none, []⟩,
 ⟨2, (some 15), .call 63 [(.tmp 14)], none, []⟩,
 ⟨3, (some 16), .mv (.tmp 15), none, []⟩,
 ⟨4, (some 17), .load (some 6) (.tmp 2), (some (16, true)), []⟩,
 ⟨5, (some 18), .fieldA 1 (.tmp 3), (some (16, true)), []⟩,
 ⟨6, (some 19), .load none (.tmp 18), (some (16, true)), []⟩,
 ⟨7, (some 20), .call 50 [(.tmp 17), (.tmp 19)], (some (16, true)), []⟩,
 ⟨8, (some 21), .un .not (.tmp 20), (some (16, true)), []⟩,
 ⟨9, (some 22), .pick (.tmp 16) (.tmp 21) (.con (.bool false)), none, []⟩])
 (.cond (.tmp 22)
 (.seq (.reg [⟨0, (some 4), .mv (.con (.int .i64 2)), none, []⟩])
 (.ret))
 (.skip)))
 (.seq (.seq (.reg [⟨0, (some 23), .fieldA 0 (.tmp 3), none, []⟩,
 ⟨1, (some 24), .load none (.tmp 23), none, []⟩,
 ⟨2, (some 25), .call 64 [(.tmp 24)], none, []⟩,
 ⟨3, (some 26), .mv (.tmp 25), none, []⟩,
 ⟨4, (some 27), .load (some 6) (.tmp 2), (some (26, true)), []⟩,
 ⟨5, (some 28), .fieldA 2 (.tmp 3), (some (26, true)), []⟩,
 ⟨6, (some 29), .load none (.tmp 28), (some (26, true)), []⟩,
 ⟨7, (some 30), .call 89 [(.tmp 27), (.tmp 29)], (some (26, true)), []⟩,
 ⟨8, (some 31), .un .not (.tmp 30), (some (26, true)), []⟩,
 ⟨9, (some 32), .pick (.tmp 26) (.tmp 31) (.con (.bool false)), none, []⟩,
 ⟨10, (some 33), .mv (.tmp 32), none, []⟩,
 ⟨11, (some 34), .fieldA 0 (.tmp 3), (some (33, false)), []⟩,
 ⟨12, (some 35), .load none (.tmp 34), (some (33, false)), []⟩,
 ⟨13, (some 36), .call 65 [(.tmp 35)], (some (33, false)), []⟩,
 ⟨14, (some 37), .mv (.tmp 36), (some (33, false)), []⟩,
 ⟨15, (some 38), .load (some 6) (.tmp 2), (some (37, true)), []⟩,
 ⟨16, (some 39), .fieldA 3 (.tmp 3), (some (37, true)), []⟩,
 ⟨17, (some 40), .load none (.tmp 39), (some (37, true)), []⟩,
 ⟨18, (some 41), .call 89 [(.tmp 38), (.tmp 40)], (some (37, true)), []⟩,
 ⟨19, (some 42), .un .not (.tmp 41), (some (37, true)), []⟩,
 ⟨20, (some 43), .pick (.tmp 37) (.tmp 42) (.con (.bool false)), (some (33, false)), []⟩,
 ⟨21, (some 44), .pick (.tmp 33) (.con (.bool true)) (.tmp 43), none, []⟩])
 (.cond (.tmp 44)
 (.seq (.reg [⟨0, (some 4), .mv (.con (.int .i64 5)), none, []⟩])
 (.ret))
 (.skip)))
 (.seq (.seq (.reg [⟨0, (some 45), .fieldA 0 (.tmp 3), none, []⟩,
 ⟨1, (some 46), .load none (.tmp 45), none, []⟩,
 ⟨2, (some 47), .call 63 [(.tmp 46)], none, []⟩,
 ⟨3, (some 48), .un .not (.tmp 47), none, []⟩,
 ⟨4, (some 49), .mv (.tmp 48), none, []⟩,
 ⟨5, (some 50), .fieldA 1 (.tmp 3), (some (49, true)), []⟩,
 ⟨6, (some 51), .load none (.tmp 50), (some (49, true)), []⟩,
 ⟨7, (some 52), .bin .neq 3 true (.tmp 51) (.con (.int .i64 0)), (some (49, true)), []⟩,
 ⟨8, (some 53), .pick (.tmp 49) (.tmp 52) (.con (.bool false)), none, []⟩,
 ⟨9, (some 54), .mv (.tmp 53), none, []⟩,
 ⟨10, (some 55), .fieldA 0 (.tmp 3), (some (54, false)), []⟩,
 ⟨11, (some 56), .load none (.tmp 55), (some (54, false)), []⟩,
 ⟨12, (some 57), .call 64 [(.tmp 56)], (some (54, false)), []⟩,
 ⟨13, (some 58), .un .not (.tmp 57), (some (54, false)), []⟩,
 ⟨14, (some 59), .mv (.tmp 58), (some (54, false)), []⟩,
 ⟨15, (some 60), .fieldA 2 (.tmp 3), (some (59, true)), []⟩,
 ⟨16, (some 61), .load none (.tmp 60), (some (59, true)), []⟩,
 ⟨17, (some 62), .bin .neq 3 true (.tmp 61) (.con (.int .i64 0)), (some (59, true)), []⟩,
 ⟨18, (some 63), .pick (.tmp 59) (.tmp 62) (.con (.bool false)), (some (54, false)), []⟩,
 ⟨19, (some 64), .pick (.tmp 54) (.con (.bool true)) (.tmp 63), none, []⟩,
 ⟨20, (some 65), .mv (.tmp 64), none, []⟩,
 ⟨21, (some 66), .fieldA 0 (.tmp 3), (some (65, false)), []⟩,
 ⟨22, (some 67), .load none (.tmp 66), (some (65, false)), []⟩,
 ⟨23, (some 68), .call 65 [(.tmp 67)], (some (65, false)), []⟩,
 ⟨24, (some 69), .un .not (.tmp 68), (some (65, false)), []⟩,
 ⟨25, (some 70), .mv (.tmp 69), (some (65, false)), []⟩,
 ⟨26, (some 71), .fieldA 3 (.tmp 3), (some (70, true)), []⟩,
 ⟨27, (some 72), .load none (.tmp 71), (some (70, true)), []⟩,
 ⟨28, (some 73), .bin .neq 3 true (.tmp 72) (.con (.int .i64 0)), (some (70, true)), []⟩,
 ⟨29, (some 74), .pick (.tmp 70) (.tmp 73) (.con (.bool false)), (some (65, false)), []⟩,
 ⟨30, (some 75), .pick (.tmp 65) (.con (.bool true)) (.tmp 74), none, []⟩])
 (.cond (.tmp 75)
 (.seq (.reg [⟨0, (some 4), .mv (.con (.int .i64 4)), none, []⟩])
 (.ret))
 (.skip)))
 (.seq (.reg [⟨0, (some 4), .mv (.con (.int .i64 0)), none, []⟩])
 (.ret)))))),
 [.tmp 4]⟩
theorem p_r07_end : prepFun Go.Proofs.Tryz.prog [1, 0, 2, 3] Go.Proofs.Tryz.f52 = some v_r07_end := by kernel_rfl

def v_code_of : VFun :=
⟨.seq (.reg [⟨0, (some 2), .alloc [(.int .i64 0), (.int .i64 0), (.string ⟨#[]⟩)], none, []⟩,
 ⟨1, (some 3), .mv (.con (.bool false)), none, []⟩])
 (.seq (.seq (.reg [⟨0, (some 4), .mv (.tmp 0), none, []⟩,
 ⟨1, (some 5), .bin .lss 3 true (.tmp 4) (.con (.int .i64 1)), none, []⟩,
 ⟨2, (some 6), .mv (.tmp 5), none, []⟩,
 ⟨3, (some 7), .mv (.tmp 0), (some (6, false)), []⟩,
 ⟨4, (some 8), .bin .gtr 3 true (.tmp 7) (.con (.int .i64 25)), (some (6, false)), []⟩,
 ⟨5, (some 9), .pick (.tmp 6) (.con (.bool true)) (.tmp 8), none, []⟩])
 (.cond (.tmp 9)
 (.seq (.reg [⟨0, (some 10), .build [(.int .i64 0), (.int .i64 0), (.string ⟨#[]⟩)] [], none, []⟩,
 ⟨1, none, .store 3 (.tmp 2) (.tmp 10), none, []⟩,
 ⟨2, (some 3), .mv (.con (.bool false)), none, []⟩])
 (.ret))
 (.skip)))
 (.seq (.reg [⟨0, (some 11), .mv (.tmp 0), none, []⟩,
 ⟨1, (some 12), .bin .sub 3 true (.tmp 11) (.con (.int .i64 1)), none, []⟩,
 ⟨2, (some 13), .idxA (some 25) 3 (.glo 0) (.tmp 12), none, []⟩,
 ⟨3, (some 14), .load (some 3) (.tmp 13), none, []⟩,
 ⟨4, none, .store 3 (.tmp 2) (.tmp 14), none, []⟩,
 ⟨5, (some 3), .mv (.con (.bool true)), none, []⟩])
 (.ret))),
 [.cell 2 (some 3), .tmp 3]⟩
theorem p_code_of : prepFun Go.Proofs.Tryz.prog [1, 0, 2, 3] Go.Proofs.Tryz.f55 = some v_code_of := by kernel_rfl

def v_code_Read : VFun :=
⟨.seq (.reg [⟨0, (some 1), .box (.tmp 0), none, []⟩,
 ⟨1, (some 2), .mv (.con (.slice none 0 0)), none, []⟩])
 (.seq (.reg [⟨0, (some 9), .fieldA 0 (.tmp 1), none, []⟩,
 ⟨1, (some 10), .load none (.tmp 9), none, []⟩,
 ⟨2, (some 11), .call 55 [(.tmp 10)], none, []⟩,
 ⟨3, (some 8), .mv (.tmp 11), none, []⟩,
 ⟨4, (some 12), .ext (.tmp 8) 0, none, []⟩,
 ⟨5, (some 13), .ext (.tmp 8) 1, none, []⟩,
 ⟨6, (some 3), .alloc [(.int .i64 0), (.int .i64 0), (.string ⟨#[]⟩)], none, []⟩,
 ⟨7, none, .store 3 (.tmp 3) (.tmp 12), none, []⟩,
 ⟨8, (some 4), .mv (.tmp 13), none, []⟩])
 (.seq (.reg [⟨0, (some 5), .mv (.con (.slice none 0 0)), none, []⟩])
 (.seq (.seq (.reg [⟨0, (some 14), .fieldA 2 (.tmp 1), none, []⟩,
 ⟨1, (some 15), .load none (.tmp 14), none, []⟩,
 ⟨2, (some 16), .fieldA 3 (.tmp 1), none, []⟩,
 ⟨3, (some 17), .load none (.tmp 16), none, []⟩,
 ⟨4, (some 18), .fieldA 4 (.tmp 1), none, []⟩,
 ⟨5, (some 19), .load none (.tmp 18), none, []⟩,
 ⟨6, (some 20), .build [(.int .i64 0), (.int .i64 0), (.int .i64 0)] [(0, 1, (.tmp 15)), (1, 1, (.tmp 17)), (2, 1, (.tmp 19))], none, []⟩,
 ⟨7, (some 21), .mv (.con (.int .i64 0)), none, []⟩])
 (.block 0
 (.loop
 (.seq (.reg [⟨0, (some 22), .bin .lss 3 true (.tmp 21) (.con (.int .i64 3)), none, []⟩])
 (.seq (.cond (.tmp 22)
 (.skip)
 (.exit 0))
 (.seq (.block 1
 (.seq (.reg [⟨0, (some 23), .mv (.tmp 21), none, []⟩,
 ⟨1, (some 24), .idx 3 none 1 (.tmp 20) (.tmp 21), none, []⟩,
 ⟨2, (some 6), .mv (.tmp 23), none, []⟩,
 ⟨3, (some 7), .mv (.tmp 24), none, []⟩])
 (.seq (.reg [⟨0, (some 25), .fieldA 0 (.tmp 3), none, []⟩,
 ⟨1, (some 26), .load none (.tmp 25), none, []⟩,
 ⟨2, (some 27), .mv (.tmp 6), none, []⟩,
 ⟨3, (some 28), .bin .shl 3 true (.con (.int .i64 2)) (.tmp 27), none, []⟩,
 ⟨4, (some 29), .bin .and 3 false (.tmp 26) (.tmp 28), none, []⟩,
 ⟨5, (some 30), .bin .neq 3 true (.tmp 29) (.con (.int .i64 0)), none, []⟩])
 (.cond (.tmp 30)
 (.reg [⟨0, (some 31), .mv (.tmp 5), none, []⟩,
 ⟨1, (some 32), .mv (.tmp 7), none, []⟩,
 ⟨2, (some 33), .bslice 1 1 [(.int .i64 0)] [(0, 1, (.tmp 32))], none, []⟩,
 ⟨3, (some 34), .append 1 8 (.tmp 31) (.tmp 33), none, []⟩,
 ⟨4, (some 5), .mv (.tmp 34), none, []⟩])
 (.skip)))))
 (.reg [⟨0, (some 35), .bin .add 3 true (.tmp 21) (.con (.int .i64 1)), none, []⟩,
 ⟨1, (some 21), .mv (.tmp 35), none, []⟩])))))))
 (.seq (.reg [⟨0, (some 36), .mv (.tmp 5), none, []⟩,
 ⟨1, (some 2), .mv (.tmp 36), none, []⟩])
 (.ret))))),
 [.tmp 2]⟩
theorem p_code_Read : prepFun Go.Proofs.Tryz.prog [1, 0, 2, 3] Go.Proofs.Tryz.f56 = some v_code_Read := by kernel_rfl

def v_r07_HasDst : VFun :=
⟨.seq (.reg [⟨0, (some 2), .mv (.con (.bool false)), none, []⟩])
 (.seq (.reg [⟨0, (some 3), .mv (.tmp 0), none, []⟩,
 ⟨1, (some 4), .bin .neq 3 true (.tmp 3) (.con (.int .i64 17)), none, []⟩,
 ⟨2, (some 5), .mv (.tmp 4), none, []⟩,
 ⟨3, (some 6), .mv (.tmp 0), (some (5, true)), []⟩,
 ⟨4, (some 7), .bin .neq 3 true (.tmp 6) (.con (.int .i64 19)), (some (5, true)), []⟩,
 ⟨5, (some 8), .pick (.tmp 5) (.tmp 7) (.con (.bool false)), none, []⟩,
 ⟨6, (some 9), .mv (.tmp 8), none, []⟩,
 ⟨7, (some 10), .mv (.tmp 0), (some (9, true)), []⟩,
 ⟨8, (some 11), .bin .neq 3 true (.tmp 10) (.con (.int .i64 20)), (some (9, true)), []⟩,
 ⟨9, (some 12), .pick (.tmp 9) (.tmp 11) (.con (.bool false)), none, []⟩,
 ⟨10, (some 13), .mv (.tmp 12), none, []⟩,
 ⟨11, (some 14), .mv (.tmp 0), (some (13, true)), []⟩,
 ⟨12, (some 15), .bin .neq 3 true (.tmp 14) (.con (.int .i64 21)), (some (13, true)), []⟩,
 ⟨13, (some 16), .pick (.tmp 13) (.tmp 15) (.con (.bool false)), none, []⟩,
 ⟨14, (some 17), .mv (.tmp 16), none, []⟩,
 ⟨15, (some 18), .mv (.tmp 0), (some (17, true)), []⟩,
 ⟨16, (some 19), .bin .neq 3 true (.tmp 18) (.con (.int .i64 22)), (some (17, true)), []⟩,
 ⟨17, (some 20), .pick (.tmp 17) (.tmp 19) (.con (.bool false)), none, []⟩,
 ⟨18, (some 2), .mv (.tmp 20), none, []⟩])
 (.ret)),
 [.tmp 2]⟩
theorem p_r07_HasDst : prepFun Go.Proofs.Tryz.prog [1, 0, 2, 3] Go.Proofs.Tryz.f57 = some v_r07_HasDst := by kernel_rfl

def v_r07_Operands : VFun :=
⟨.seq (.reg [⟨0, (some 1), .box (.tmp 0), none, []⟩,
 ⟨1, (some 2), .mv (.con (.slice none 0 0)), none, []⟩])
 (.seq (.reg [⟨0, (some 3), .mv (.con (.slice none 0 0)), none, []⟩])
 (.seq (.seq (.reg [⟨0, (some 4), .fieldA 0 (.tmp 1), none, []⟩,
 ⟨1, (some 5), .load none (.tmp 4), none, []⟩,
 ⟨2, (some 6), .call 60 [(.tmp 5)], none, []⟩])
 (.cond (.tmp 6)
 (.reg [⟨0, (some 7), .mv (.tmp 3), none, []⟩,
 ⟨1, (some 8), .fieldA 2 (.tmp 1), none, []⟩,
 ⟨2, (some 9), .load none (.tmp 8), none, []⟩,
 ⟨3, (some 10), .bslice 1 1 [(.int .i64 0)] [(0, 1, (.tmp 9))], none, []⟩,
 ⟨4, (some 11), .append 1 8 (.tmp 7) (.tmp 10), none, []⟩,
 ⟨5, (some 3), .mv (.tmp 11), none, []⟩])
 (.skip)))
 (.seq (.seq (.reg [⟨0, (some 12), .fieldA 0 (.tmp 1), none, []⟩,
 ⟨1, (some 13), .load none (.tmp 12), none, []⟩,
 ⟨2, (some 14), .call 61 [(.tmp 13)], none, []⟩])
 (.cond (.tmp 14)
 (.reg [⟨0, (some 15), .mv (.tmp 3), none, []⟩,
 ⟨1, (some 16), .fieldA 3 (.tmp 1), none, []⟩,
 ⟨2, (some 17), .load none (.tmp 16), none, []⟩,
 ⟨3, (some 18), .bslice 1 1 [(.int .i64 0)] [(0, 1, (.tmp 17))], none, []⟩,
 ⟨4, (some 19), .append 1 8 (.tmp 15) (.tmp 18), none, []⟩,
 ⟨5, (some 3), .mv (.tmp 19), none, []⟩])
 (.skip)))
 (.seq (.seq (.reg [⟨0, (some 20), .fieldA 0 (.tmp 1), none, []⟩,
 ⟨1, (some 21), .load none (.tmp 20), none, []⟩,
 ⟨2, (some 22), .call 62 [(.tmp 21)], none, []⟩])
 (.cond (.tmp 22)
 (.reg [⟨0, (some 23), .mv (.tmp 3), none, []⟩,
 ⟨1, (some 24), .fieldA 4 (.tmp 1), none, []⟩,
 ⟨2, (some 25), .load none (.tmp 24), none, []⟩,
 ⟨3, (some 26), .bslice 1 1 [(.int .i64 0)] [(0, 1, (.tmp 25))], none, []⟩,
 ⟨4, (some 27), .append 1 8 (.tmp 23) (.tmp 26), none, []⟩,
 ⟨5, (some 3), .mv (.tmp 27), none, []⟩])
 (.skip)))
 (.seq (.reg [⟨0, (some 28), .mv (.tmp 3), none, []⟩,
 ⟨1, (some 2), .mv (.tmp 28), none, []⟩])
 (.ret)))))),
 [.tmp 2]⟩
theorem p_r07_Operands : prepFun Go.Proofs.Tryz.prog [1, 0, 2, 3] Go.Proofs.Tryz.f58 = some v_r07_Operands := by kernel_rfl

def v_r07_HasA : VFun :=
⟨.seq (.reg [⟨0, (some 2), .mv (.con (.bool false)), none, []⟩])
 (.seq (.reg [⟨0, (some 3), .mv (.tmp 0), none, []⟩,
 ⟨1, (some 4), .bin .neq 3 true (.tmp 3) (.con (.int .i64 1)), none, []⟩,
 ⟨2, (some 5), .mv (.tmp 4), none, []⟩,
 ⟨3, (some 6), .mv (.tmp 0), (some (5, true)), []⟩,
 ⟨4, (some 7), .bin .neq 3 true (.tmp 6) (.con (.int .i64 18)), (some (5, true)), []⟩,
 ⟨5, (some 8), .pick (.tmp 5) (.tmp 7) (.con (.bool false)), none, []⟩,
 ⟨6, (some 2), .mv (.tmp 8), none, []⟩])
 (.ret)),
 [.tmp 2]⟩
theorem p_r07_HasA : prepFun Go.Proofs.Tryz.prog [1, 0, 2, 3] Go.Proofs.Tryz.f60 = some v_r07_HasA := by kernel_rfl

def v_r07_HasB : VFun :=
⟨.seq (.reg [⟨0, (some 2), .mv (.con (.bool false)), none, []⟩])
 (.seq (.reg [⟨0, (some 3), .mv (.tmp 0), none, []⟩,
 ⟨1, (some 4), .bin .geq 3 true (.tmp 3) (.con (.int .i64 3)), none, []⟩,
 ⟨2, (some 5), .mv (.tmp 4), none, []⟩,
 ⟨3, (some 6), .mv (.tmp 0), (some (5, true)), []⟩,
 ⟨4, (some 7), .bin .leq 3 true (.tmp 6) (.con (.int .i64 15)), (some (5, true)), []⟩,
 ⟨5, (some 8), .pick (.tmp 5) (.tmp 7) (.con (.bool false)), none, []⟩,
 ⟨6, (some 9), .mv (.tmp 8), none, []⟩,
 ⟨7, (some 10), .mv (.tmp 0), (some (9, false)), []⟩,
 ⟨8, (some 11), .bin .eql 3 true (.tmp 10) (.con (.int .i64 17)), (some (9, false)), []⟩,
 ⟨9, (some 12), .pick (.tmp 9) (.con (.bool true)) (.tmp 11), none, []⟩,
 ⟨10, (some 13), .mv (.tmp 12), none, []⟩,
 ⟨11, (some 14), .mv (.tmp 0), (some (13, false)), []⟩,
 ⟨12, (some 15), .bin .eql 3 true (.tmp 14) (.con (.int .i64 23)), (some (13, false)), []⟩,
 ⟨13, (some 16), .pick (.tmp 13) (.con (.bool true)) (.tmp 15), none, []⟩,
 ⟨14, (some 17), .mv (.tmp 16), none, []⟩,
 ⟨15, (some 18), .mv (.tmp 0), (some (17, false)), []⟩,
 ⟨16, (some 19), .bin .eql 3 true (.tmp 18) (.con (.int .i64 24)), (some (17, false)), []⟩,
 ⟨17, (some 20), .pick (.tmp 17) (.con (.bool true)) (.tmp 19), none, []⟩,
 ⟨18, (some 2), .mv (.tmp 20), none, []⟩])
 (.ret)),
 [.tmp 2]⟩
theorem p_r07_HasB : prepFun Go.Proofs.Tryz.prog [1, 0, 2, 3] Go.Proofs.Tryz.f61 = some v_r07_HasB := by kernel_rfl

def v_r07_HasC : VFun :=
⟨.seq (.reg [⟨0, (some 2), .mv (.con (.bool false)), none, []⟩])
 (.seq (.reg [⟨0, (some 3), .mv (.tmp 0), none, []⟩,
 ⟨1, (some 4), .bin .eql 3 true (.tmp 3) (.con (.int .i64 12)), none, []⟩,
 ⟨2, (some 2), .mv (.tmp 4), none, []⟩])
 (.ret)),
 [.tmp 2]⟩
theorem p_r07_HasC : prepFun Go.Proofs.Tryz.prog [1, 0, 2, 3] Go.Proofs.Tryz.f62 = some v_r07_HasC := by kernel_rfl

def v_r07_EndA : VFun :=
⟨.seq (.reg [⟨0, (some 2), .mv (.con (.bool false)), none, []⟩])
 (.seq (.reg [⟨0, (some 3), .mv (.tmp 0), none, []⟩,
 ⟨1, (some 4), .bin .neq 3 true (.tmp 3) (.con (.int .i64 1)), none, []⟩,
 ⟨2, (some 2), .mv (.tmp 4), none, []⟩])
 (.ret)),
 [.tmp 2]⟩
theorem p_r07_EndA : prepFun Go.Proofs.Tryz.prog [1, 0, 2, 3] Go.Proofs.Tryz.f63 = some v_r07_EndA := by kernel_rfl

def v_r07_EndTo : VFun :=
⟨.seq (.reg [⟨0, (some 2), .mv (.con (.bool false)), none, []⟩])
 (.seq (.reg [⟨0, (some 3), .mv (.tmp 0), none, []⟩,
 ⟨1, (some 4), .bin .eql 3 true (.tmp 3) (.con (.int .i64 1)), none, []⟩,
 ⟨2, (some 5), .mv (.tmp 4), none, []⟩,
 ⟨3, (some 6), .mv (.tmp 0), (some (5, false)), []⟩,
 ⟨4, (some 7), .bin .eql 3 true (.tmp 6) (.con (.int .i64 2)), (some (5, false)), []⟩,
 ⟨5, (some 8), .pick (.tmp 5) (.con (.bool true)) (.tmp 7), none, []⟩,
 ⟨6, (some 2), .mv (.tmp 8), none, []⟩])
 (.ret)),
 [.tmp 2]⟩
theorem p_r07_EndTo : prepFun Go.Proofs.Tryz.prog [1, 0, 2, 3] Go.Proofs.Tryz.f64 = some v_r07_EndTo := by kernel_rfl

def v_r07_EndElse : VFun :=
⟨.seq (.reg [⟨0, (some 2), .mv (.con (.bool false)), none, []⟩])
 (.seq (.reg [⟨0, (some 3), .mv (.tmp 0), none, []⟩,
 ⟨1, (some 4), .bin .eql 3 true (.tmp 3) (.con (.int .i64 2)), none, []⟩,
 ⟨2, (some 2), .mv (.tmp 4), none, []⟩])
 (.ret)),
 [.tmp 2]⟩
theorem p_r07_EndElse : prepFun Go.Proofs.Tryz.prog [1, 0, 2, 3] Go.Proofs.Tryz.f65 = some v_r07_EndElse := by kernel_rfl

def v_code_within : VFun :=
⟨.seq (.reg [⟨0, (some 4), .mv (.con (.bool false)), none, []⟩])
 (.seq (.reg [⟨0, (some 5), .mv (.tmp 0), none, []⟩,
 ⟨1, (some 6), .bin .geq 3 true (.tmp 5) (.con (.int .i64 0)), none, []⟩,
 ⟨2, (some 7), .mv (.tmp 6), none, []⟩,
 ⟨3, (some 8), .mv (.tmp 0), (some (7, true)), []⟩,
 ⟨4, (some 9), .mv (.tmp 1), (some (7, true)), []⟩,
 ⟨5, (some 10), .bin .lss 3 false (.tmp 8) (.tmp 9), (some (7, true)), []⟩,
 ⟨6, (some 11), .pick (.tmp 7) (.tmp 10) (.con (.bool false)), none, []⟩,
 ⟨7, (some 4), .mv (.tmp 11), none, []⟩])
 (.ret)),
 [.tmp 4]⟩
theorem p_code_within : prepFun Go.Proofs.Tryz.prog [1, 0, 2, 3] Go.Proofs.Tryz.f67 = some v_code_within := by kernel_rfl

def v_internal_strconv_Itoa : VFun :=
⟨.seq (.reg [⟨0, (some 2), .mv (.con (.string ⟨#[]⟩)), none, []⟩])
 (.seq (.reg [⟨0, (some 3), .mv (.tmp 0), none, []⟩,
 ⟨1, (some 4), .call 95 [(.tmp 3), (.con (.int .i64 10))], none, []⟩,
 ⟨2, (some 2), .mv (.tmp 4), none, []⟩])
 (.ret)),
 [.tmp 2]⟩
theorem p_internal_strconv_Itoa : prepFun Go.Proofs.Tryz.prog [1, 0, 2, 3] Go.Proofs.Tryz.f73 = some v_internal_strconv_Itoa := by kernel_rfl

def v_word_Show : VFun :=
⟨.seq (.reg [⟨0, (some 2), .mv (.con (.string ⟨#[]⟩)), none, []⟩])
 (.seq (.reg [⟨0, (some 3), .mv (.tmp 0), none, []⟩,
 ⟨1, (some 4), .call 96 [(.tmp 3), (.con (.int .i64 10))], none, []⟩,
 ⟨2, (some 2), .mv (.tmp 4), none, []⟩])
 (.ret)),
 [.tmp 2]⟩
theorem p_word_Show : prepFun Go.Proofs.Tryz.prog [1, 0, 2, 3] Go.Proofs.Tryz.f74 = some v_word_Show := by kernel_rfl

def v_r07_HasN : VFun :=
⟨.seq (.reg [⟨0, (some 2), .mv (.con (.bool false)), none, []⟩])
 (.seq (.reg [⟨0, (some 3), .mv (.tmp 0), none, []⟩,
 ⟨1, (some 4), .bin .eql 3 true (.tmp 3) (.con (.int .i64 1)), none, []⟩,
 ⟨2, (some 5), .mv (.tmp 4), none, []⟩,
 ⟨3, (some 6), .mv (.tmp 0), (some (5, false)), []⟩,
 ⟨4, (some 7), .call 87 [(.tmp 6)], (some (5, false)), []⟩,
 ⟨5, (some 8), .pick (.tmp 5) (.con (.bool true)) (.tmp 7), none, []⟩,
 ⟨6, (some 9), .mv (.tmp 8), none, []⟩,
 ⟨7, (some 10), .mv (.tmp 0), (some (9, false)), []⟩,
 ⟨8, (some 11), .call 88 [(.tmp 10)], (some (9, false)), []⟩,
 ⟨9, (some 12), .pick (.tmp 9) (.con (.bool true)) (.tmp 11), none, []⟩,
 ⟨10, (some 13), .mv (.tmp 12), none, []⟩,
 ⟨11, (some 14), .mv (.tmp 0), (some (13, false)), []⟩,
 ⟨12, (some 15), .bin .eql 3 true (.tmp 14) (.con (.int .i64 21)), (some (13, false)), []⟩,
 ⟨13, (some 16), .pick (.tmp 13) (.con (.bool true)) (.tmp 15), none, []⟩,
 ⟨14, (some 2), .mv (.tmp 16), none, []⟩])
 (.ret)),
 [.tmp 2]⟩
theorem p_r07_HasN : prepFun Go.Proofs.Tryz.prog [1, 0, 2, 3] Go.Proofs.Tryz.f75 = some v_r07_HasN := by kernel_rfl

def v_code_lines_peek : VFun :=
⟨.seq (.reg [⟨0, (some 2), .mv (.con (.string ⟨#[]⟩)), none, []⟩,
 ⟨1, (some 3), .mv (.con (.bool false)), none, []⟩])
 (.seq (.reg [⟨0, (some 8), .mv (.tmp 0), none, []⟩,
 ⟨1, (some 9), .nilck (.tmp 8), none, []⟩,
 ⟨2, (some 10), .fieldA 0 (.tmp 9), none, []⟩,
 ⟨3, (some 11), .load none (.tmp 10), none, []⟩,
 ⟨4, (some 12), .call 97 [(.tmp 11), (.con (.string ⟨#[10]⟩))], none, []⟩,
 ⟨5, (some 7), .mv (.tmp 12), none, []⟩,
 ⟨6, (some 13), .ext (.tmp 7) 0, none, []⟩,
 ⟨7, (some 14), .ext (.tmp 7) 1, none, []⟩,
 ⟨8, (some 15), .ext (.tmp 7) 2, none, []⟩,
 ⟨9, (some 4), .mv (.tmp 13), none, []⟩,
 ⟨10, (some 5), .mv (.tmp 14), none, []⟩,
 ⟨11, (some 6), .mv (.tmp 15), none, []⟩])
 (.seq (.reg [⟨0, (some 16), .mv (.tmp 4), none, []⟩,
 ⟨1, (some 17), .mv (.tmp 6), none, []⟩,
 ⟨2, (some 2), .mv (.tmp 16), none, []⟩,
 ⟨3, (some 3), .mv (.tmp 17), none, []⟩])
 (.ret))),
 [.tmp 2, .tmp 3]⟩
theorem p_code_lines_peek : prepFun Go.Proofs.Tryz.prog [1, 0, 2, 3] Go.Proofs.Tryz.f77 = some v_code_lines_peek := by kernel_rfl

def v_code_headed : VFun :=
⟨.seq (.reg [⟨0, (some 6), .mv (.con (.slice none 0 0)), none, []⟩,
 ⟨1, (some 7), .mv (.con (.bool false)), none, []⟩])
 (.seq (.reg [⟨0, (some 9), .mv (.tmp 0), none, []⟩,
 ⟨1, (some 10), .call 47 [(.tmp 9), (.con (.string ⟨#[32]⟩))], none, []⟩,
 ⟨2, (some 8), .mv (.tmp 10), none, []⟩])
 (.seq (.seq (.reg [⟨0, (some 11), .mv (.tmp 8), none, []⟩,
 ⟨1, (some 12), .idxA none 1 (.tmp 11) (.con (.int .i64 0)), none, []⟩,
 ⟨2, (some 13), .load none (.tmp 12), none, []⟩,
 ⟨3, (some 14), .mv (.tmp 1), none, []⟩,
 ⟨4, (some 15), .bin .neq 9 false (.tmp 13) (.tmp 14), none, []⟩])
 (.cond (.tmp 15)
 (.seq (.reg [⟨0, (some 6), .mv (.con (.slice none 0 0)), none, []⟩,
 ⟨1, (some 7), .mv (.con (.bool false)), none, []⟩])
 (.ret))
 (.skip)))
 (.seq (.reg [⟨0, (some 16), .mv (.tmp 8), none, []⟩,
 ⟨1, (some 17), .slice none 1 (.tmp 16) (some (.con (.int .i64 1))) none none, none, []⟩,
 ⟨2, (some 18), .mv (.tmp 2), none, []⟩,
 ⟨3, (some 19), .call 98 [(.tmp 17), (.tmp 18)], none, []⟩,
 ⟨4, (some 20), .ext (.tmp 19) 0, none, []⟩,
 ⟨5, (some 21), .ext (.tmp 19) 1, none, []⟩,
 ⟨6, (some 6), .mv (.tmp 20), none, []⟩,
 ⟨7, (some 7), .mv (.tmp 21), none, []⟩])
 (.ret)))),
 [.tmp 6, .tmp 7]⟩
theorem p_code_headed : prepFun Go.Proofs.Tryz.prog [1, 0, 2, 3] Go.Proofs.Tryz.f78 = some v_code_headed := by kernel_rfl

def v_code_lines_take : VFun :=
⟨.seq (.reg [⟨0, (some 3), .mv (.tmp 0), none, []⟩,
 ⟨1, (some 4), .mv (.tmp 0), none, []⟩,
 ⟨2, (some 5), .nilck (.tmp 4), none, []⟩,
 ⟨3, (some 6), .fieldA 0 (.tmp 5), none, []⟩,
 ⟨4, (some 7), .load none (.tmp 6), none, []⟩,
 ⟨5, (some 8), .call 97 [(.tmp 7), (.con (.string ⟨#[10]⟩))], none, []⟩,
 ⟨6, (some 2), .mv (.tmp 8), none, []⟩,
 ⟨7, (some 9), .ext (.tmp 2) 0, none, []⟩,
 ⟨8, (some 10), .ext (.tmp 2) 1, none, []⟩,
 ⟨9, (some 11), .ext (.tmp 2) 2, none, []⟩,
 ⟨10, (some 12), .nilck (.tmp 3), none, []⟩,
 ⟨11, (some 13), .fieldA 0 (.tmp 12), none, []⟩,
 ⟨12, none, .store 1 (.tmp 13) (.tmp 10), none, []⟩])
 (.reg [⟨0, (some 14), .mv (.tmp 0), none, []⟩,
 ⟨1, (some 15), .nilck (.tmp 14), none, []⟩,
 ⟨2, (some 16), .fieldA 1 (.tmp 15), none, []⟩,
 ⟨3, (some 17), .load none (.tmp 16), none, []⟩,
 ⟨4, (some 18), .bin .add 3 true (.tmp 17) (.con (.int .i64 1)), none, []⟩,
 ⟨5, (some 19), .nilck (.tmp 14), none, []⟩,
 ⟨6, (some 20), .fieldA 1 (.tmp 19), none, []⟩,
 ⟨7, none, .store 1 (.tmp 20) (.tmp 18), none, []⟩]),
 []⟩
theorem p_code_lines_take : prepFun Go.Proofs.Tryz.prog [1, 0, 2, 3] Go.Proofs.Tryz.f79 = some v_code_lines_take := by kernel_rfl

def v_code_lines_block : VFun :=
⟨.seq (.reg [⟨0, (some 4), .mv (.con (.bool false)), none, []⟩])
 (.block 0
 (.loop
 (.block 1
 (.seq (.reg [⟨0, (some 13), .mv (.tmp 0), none, []⟩,
 ⟨1, (some 14), .call 77 [(.tmp 13)], none, []⟩,
 ⟨2, (some 12), .mv (.tmp 14), none, []⟩,
 ⟨3, (some 15), .ext (.tmp 12) 0, none, []⟩,
 ⟨4, (some 16), .ext (.tmp 12) 1, none, []⟩,
 ⟨5, (some 5), .mv (.tmp 15), none, []⟩,
 ⟨6, (some 6), .mv (.tmp 16), none, []⟩])
 (.seq (.reg [⟨0, (some 18), .mv (.tmp 5), none, []⟩,
 ⟨1, (some 19), .call 99 [(.tmp 18), (.con (.string ⟨#[32, 32]⟩))], none, []⟩,
 ⟨2, (some 17), .mv (.tmp 19), none, []⟩,
 ⟨3, (some 20), .ext (.tmp 17) 0, none, []⟩,
 ⟨4, (some 21), .ext (.tmp 17) 1, none, []⟩,
 ⟨5, (some 5), .mv (.tmp 20), none, []⟩,
 ⟨6, (some 7), .mv (.tmp 21), none, []⟩])
 (.seq (.seq (.reg [⟨0, (some 22), .mv (.tmp 6), none, []⟩,
 ⟨1, (some 23), .un .not (.tmp 22), none, []⟩,
 ⟨2, (some 24), .mv (.tmp 23), none, []⟩,
 ⟨3, (some 25), .mv (.tmp 7), (some (24, false)), []⟩,
 ⟨4, (some 26), .un .not (.tmp 25), (some (24, false)), []⟩,
 ⟨5, (some 27), .pick (.tmp 24) (.con (.bool true)) (.tmp 26), none, []⟩])
 (.cond (.tmp 27)
 (.seq (.reg [⟨0, (some 4), .mv (.con (.bool false)), none, []⟩])
 (.ret))
 (.skip)))
 (.seq (.seq (.reg [⟨0, (some 29), .mv (.tmp 5), none, []⟩,
 ⟨1, (some 30), .call 100 [(.tmp 29)], none, []⟩,
 ⟨2, (some 28), .mv (.tmp 30), none, []⟩,
 ⟨3, (some 31), .ext (.tmp 28) 0, none, []⟩,
 ⟨4, (some 32), .ext (.tmp 28) 1, none, []⟩,
 ⟨5, (some 8), .alloc [(.int .i64 0), (.int .i64 0), (.int .i64 0), (.int .i64 0)], none, []⟩,
 ⟨6, none, .store 4 (.tmp 8) (.tmp 31), none, []⟩,
 ⟨7, (some 9), .mv (.tmp 32), none, []⟩])
 (.seq (.reg [⟨0, (some 33), .mv (.tmp 9), none, []⟩])
 (.cond (.tmp 33)
 (.seq (.reg [⟨0, (some 34), .mv (.tmp 1), none, []⟩,
 ⟨1, (some 35), .load (some 4) (.tmp 8), none, []⟩,
 ⟨2, (some 36), .nilck (.tmp 34), none, []⟩,
 ⟨3, (some 37), .fieldA 1 (.tmp 36), none, []⟩,
 ⟨4, none, .store 4 (.tmp 37) (.tmp 35), none, []⟩])
 (.seq (.reg [⟨0, (some 38), .mv (.tmp 0), none, []⟩,
 ⟨1, (some 39), .call 79 [(.tmp 38)], none, []⟩])
 (.seq (.reg [⟨0, (some 4), .mv (.con (.bool true)), none, []⟩])
 (.ret))))
 (.skip))))
 (.seq (.reg [⟨0, (some 41), .mv (.tmp 5), none, []⟩,
 ⟨1, (some 42), .call 101 [(.tmp 41)], none, []⟩,
 ⟨2, (some 40), .mv (.tmp 42), none, []⟩,
 ⟨3, (some 43), .ext (.tmp 40) 0, none, []⟩,
 ⟨4, (some 44), .ext (.tmp 40) 1, none, []⟩,
 ⟨5, (some 10), .alloc [(.int .i64 0), (.int .i64 0), (.int .i64 0), (.int .i64 0), (.int .i64 0), (.int .i64 0), (.int .i64 0)], none, []⟩,
 ⟨6, none, .store 7 (.tmp 10) (.tmp 43), none, []⟩,
 ⟨7, (some 11), .mv (.tmp 44), none, []⟩])
 (.seq (.seq (.reg [⟨0, (some 45), .mv (.tmp 11), none, []⟩,
 ⟨1, (some 46), .un .not (.tmp 45), none, []⟩])
 (.cond (.tmp 46)
 (.seq (.reg [⟨0, (some 4), .mv (.con (.bool false)), none, []⟩])
 (.ret))
 (.skip)))
 (.seq (.reg [⟨0, (some 47), .mv (.tmp 1), none, []⟩,
 ⟨1, (some 48), .mv (.tmp 1), none, []⟩,
 ⟨2, (some 49), .nilck (.tmp 48), none, []⟩,
 ⟨3, (some 50), .fieldA 0 (.tmp 49), none, []⟩,
 ⟨4, (some 51), .load none (.tmp 50), none, []⟩,
 ⟨5, (some 52), .load (some 7) (.tmp 10), none, []⟩,
 ⟨6, (some 53), .bslice 7 1 [(.int .i64 0), (.int .i64 0), (.int .i64 0), (.int .i64 0), (.int .i64 0), (.int .i64 0), (.int .i64 0)] [(0, 7, (.tmp 52))], none, []⟩,
 ⟨7, (some 54), .append 7 56 (.tmp 51) (.tmp 53), none, []⟩,
 ⟨8, (some 55), .nilck (.tmp 47), none, []⟩,
 ⟨9, (some 56), .fieldA 0 (.tmp 55), none, []⟩,
 ⟨10, none, .store 1 (.tmp 56) (.tmp 54), none, []⟩])
 (.reg [⟨0, (some 57), .mv (.tmp 0), none, []⟩,
 ⟨1, (some 58), .call 79 [(.tmp 57)], none, []⟩]))))))))))),
 [.tmp 4]⟩
theorem p_code_lines_block : prepFun Go.Proofs.Tryz.prog [1, 0, 2, 3] Go.Proofs.Tryz.f80 = some v_code_lines_block := by kernel_rfl

def v_strings_genSplit : VFun :=
⟨.seq (.reg [⟨0, (some 8), .mv (.con (.slice none 0 0)), none, []⟩])
 (.seq (.seq (.reg [⟨0, (some 12), .mv (.tmp 3), none, []⟩,
 ⟨1, (some 13), .bin .eql 3 true (.tmp 12) (.con (.int .i64 0)), none, []⟩])
 (.cond (.tmp 13)
 (.seq (.reg [⟨0, (some 8), .mv (.con (.slice none 0 0)), none, []⟩])
 (.ret))
 (.skip)))
 (.seq (.seq (.reg [⟨0, (some 14), .mv (.tmp 1), none, []⟩,
 ⟨1, (some 15), .bin .eql 9 true (.tmp 14) (.con (.string ⟨#[]⟩)), none, []⟩])
 (.cond (.tmp 15)
 (.seq (.reg [⟨0, (some 16), .mv (.tmp 0), none, []⟩,
 ⟨1, (some 17), .mv (.tmp 3), none, []⟩,
 ⟨2, (some 18), .call 102 [(.tmp 16), (.tmp 17)], none, []⟩,
 ⟨3, (some 8), .mv (.tmp 18), none, []⟩])
 (.ret))
 (.skip)))
 (.seq (.seq (.reg [⟨0, (some 19), .mv (.tmp 3), none, []⟩,
 ⟨1, (some 20), .bin .lss 3 true (.tmp 19) (.con (.int .i64 0)), none, []⟩])
 (.cond (.tmp 20)
 (.reg [⟨0, (some 21), .mv (.tmp 0), none, []⟩,
 ⟨1, (some 22), .mv (.tmp 1), none, []⟩,
 ⟨2, (some 23), .call 103 [(.tmp 21), (.tmp 22)], none, []⟩,
 ⟨3, (some 24), .bin .add 3 true (.tmp 23) (.con (.int .i64 1)), none, []⟩,
 ⟨4, (some 3), .mv (.tmp 24), none, []⟩])
 (.skip)))
 (.seq (.reg [⟨0, (some 25), .mv (.tmp 3), none, []⟩,
 ⟨1, (some 26), .mv (.tmp 0), none, []⟩,
 ⟨2, (some 27), .bi .len [9] 3 [(.tmp 26)], none, []⟩,
 ⟨3, (some 28), .bin .add 3 true (.tmp 27) (.con (.int .i64 1)), none, []⟩,
 ⟨4, (some 29), .bi .min [3, 3] 3 [(.tmp 25), (.tmp 28)], none, []⟩,
 ⟨5, (some 3), .mv (.tmp 29), none, []⟩])
 (.seq (.reg [⟨0, (some 30), .mv (.tmp 3), none, []⟩,
 ⟨1, (some 31), .mksl 1 16 [(.string ⟨#[]⟩)] (.tmp 30) (.tmp 30), none, []⟩,
 ⟨2, (some 9), .mv (.tmp 31), none, []⟩])
 (.seq (.reg [⟨0, (some 32), .mv (.tmp 3), none, []⟩,
 ⟨1, (some 33), .bin .sub 3 true (.tmp 32) (.con (.int .i64 1)), none, []⟩,
 ⟨2, (some 3), .mv (.tmp 33), none, []⟩])
 (.seq (.reg [⟨0, (some 10), .mv (.con (.int .i64 0)), none, []⟩])
 (.seq (.block 0
 (.loop
 (.seq (.seq (.reg [⟨0, (some 34), .mv (.tmp 10), none, []⟩,
 ⟨1, (some 35), .mv (.tmp 3), none, []⟩,
 ⟨2, (some 36), .bin .lss 3 false (.tmp 34) (.tmp 35), none, []⟩])
 (.cond (.tmp 36)
 (.skip)
 (.exit 0)))
 (.block 1
 (.seq (.reg [⟨0, (some 37), .mv (.tmp 0), none, []⟩,
 ⟨1, (some 38), .mv (.tmp 1), none, []⟩,
 ⟨2, (some 39), .call 104 [(.tmp 37), (.tmp 38)], none, []⟩,
 ⟨3, (some 11), .mv (.tmp 39), none, []⟩])
 (.seq (.seq (.reg [⟨0, (some 40), .mv (.tmp 11), none, []⟩,
 ⟨1, (some 41), .bin .lss 3 true (.tmp 40) (.con (.int .i64 0)), none, []⟩])
 (.cond (.tmp 41)
 (.exit 0)
 (.skip)))
 (.seq (.reg [⟨0, (some 42), .mv (.tmp 9), none, []⟩,
 ⟨1, (some 43), .mv (.tmp 10), none, []⟩,
 ⟨2, (some 44), .mv (.tmp 0), none, []⟩,
 ⟨3, (some 45), .mv (.tmp 11), none, []⟩,
 ⟨4, (some 46), .mv (.tmp 2), none, []⟩,
 ⟨5, (some 47), .bin .add 3 false (.tmp 45) (.tmp 46), none, []⟩,
 ⟨6, (some 48), .slS 9 (.tmp 44) none (some (.tmp 47)), none, []⟩,
 ⟨7, (some 49), .idxA none 1 (.tmp 42) (.tmp 43), none, []⟩,
 ⟨8, none, .store 1 (.tmp 49) (.tmp 48), none, []⟩])
 (.seq (.reg [⟨0, (some 50), .mv (.tmp 0), none, []⟩,
 ⟨1, (some 51), .mv (.tmp 11), none, []⟩,
 ⟨2, (some 52), .mv (.tmp 1), none, []⟩,
 ⟨3, (some 53), .bi .len [9] 3 [(.tmp 52)], none, []⟩,
 ⟨4, (some 54), .bin .add 3 false (.tmp 51) (.tmp 53), none, []⟩,
 ⟨5, (some 55), .slS 9 (.tmp 50) (some (.tmp 54)) none, none, []⟩,
 ⟨6, (some 0), .mv (.tmp 55), none, []⟩])
 (.reg [⟨0, (some 56), .mv (.tmp 10), none, []⟩,
 ⟨1, (some 57), .bin .add 3 true (.tmp 56) (.con (.int .i64 1)), none, []⟩,
 ⟨2, (some 10), .mv (.tmp 57), none, []⟩])))))))))
 (.seq (.reg [⟨0, (some 58), .mv (.tmp 9), none, []⟩,
 ⟨1, (some 59), .mv (.tmp 10), none, []⟩,
 ⟨2, (some 60), .mv (.tmp 0), none, []⟩,
 ⟨3, (some 61), .idxA none 1 (.tmp 58) (.tmp 59), none, []⟩,
 ⟨4, none, .store 1 (.tmp 61) (.tmp 60), none, []⟩])
 (.seq (.reg [⟨0, (some 62), .mv (.tmp 9), none, []⟩,
 ⟨1, (some 63), .mv (.tmp 10), none, []⟩,
 ⟨2, (some 64), .bin .add 3 true (.tmp 63) (.con (.int .i64 1)), none, []⟩,
 ⟨3, (some 65), .slice none 1 (.tmp 62) none (some (.tmp 64)) none, none, []⟩,
 ⟨4, (some 8), .mv (.tmp 65), none, []⟩])
 (.ret))))))))))),
 [.tmp 8]⟩
theorem p_strings_genSplit : prepFun Go.Proofs.Tryz.prog [1, 0, 2, 3] Go.Proofs.Tryz.f81 = some v_strings_genSplit := by kernel_rfl

end Go.VX.Seat
end
section
set_option maxRecDepth 20000
/-! MADE BY PROGRAM (lits.py): functions as they are prepared. -/
namespace Go.VX.Seat
def v_r07_SameOps : VFun :=
⟨.seq (.reg [⟨0, (some 4), .mv (.con (.bool false)), none, []⟩])
 (.seq (.seq (.reg [⟨0, (some 6), .mv (.tmp 0), none, []⟩,
 ⟨1, (some 7), .len (.tmp 6), none, []⟩,
 ⟨2, (some 8), .mv (.tmp 1), none, []⟩,
 ⟨3, (some 9), .len (.tmp 8), none, []⟩,
 ⟨4, (some 10), .bin .neq 3 false (.tmp 7) (.tmp 9), none, []⟩])
 (.cond (.tmp 10)
 (.seq (.reg [⟨0, (some 4), .mv (.con (.bool false)), none, []⟩])
 (.ret))
 (.skip)))
 (.seq (.seq (.reg [⟨0, (some 5), .mv (.con (.int .i64 0)), none, []⟩])
 (.block 0
 (.loop
 (.seq (.seq (.reg [⟨0, (some 11), .mv (.tmp 5), none, []⟩,
 ⟨1, (some 12), .mv (.tmp 0), none, []⟩,
 ⟨2, (some 13), .len (.tmp 12), none, []⟩,
 ⟨3, (some 14), .bin .lss 3 false (.tmp 11) (.tmp 13), none, []⟩])
 (.cond (.tmp 14)
 (.skip)
 (.exit 0)))
 (.seq (.block 1
 (.seq (.reg [⟨0, (some 17), .mv (.tmp 0), none, []⟩,
 ⟨1, (some 18), .mv (.tmp 5), none, []⟩,
 ⟨2, (some 19), .idxA none 7 (.tmp 17) (.tmp 18), none, []⟩,
 ⟨3, (some 20), .load (some 7) (.tmp 19), none, []⟩,
 ⟨4, (some 21), .mv (.tmp 1), none, []⟩,
 ⟨5, (some 22), .mv (.tmp 5), none, []⟩,
 ⟨6, (some 23), .idxA none 7 (.tmp 21) (.tmp 22), none, []⟩,
 ⟨7, (some 24), .load (some 7) (.tmp 23), none, []⟩,
 ⟨8, (some 25), .bin .neq 46 false (.tmp 20) (.tmp 24), none, []⟩])
 (.cond (.tmp 25)
 (.seq (.reg [⟨0, (some 4), .mv (.con (.bool false)), none, []⟩])
 (.ret))
 (.skip))))
 (.reg [⟨0, (some 15), .mv (.tmp 5), none, []⟩,
 ⟨1, (some 16), .bin .add 3 true (.tmp 15) (.con (.int .i64 1)), none, []⟩,
 ⟨2, (some 5), .mv (.tmp 16), none, []⟩]))))))
 (.seq (.reg [⟨0, (some 4), .mv (.con (.bool true)), none, []⟩])
 (.ret)))),
 [.tmp 4]⟩
theorem p_r07_SameOps : prepFun Go.Proofs.Tryz.prog [1, 0, 2, 3] Go.Proofs.Tryz.f86 = some v_r07_SameOps := by kernel_rfl

def v_r07_Array : VFun :=
⟨.seq (.reg [⟨0, (some 2), .mv (.con (.bool false)), none, []⟩])
 (.seq (.reg [⟨0, (some 3), .mv (.tmp 0), none, []⟩,
 ⟨1, (some 4), .bin .eql 3 true (.tmp 3) (.con (.int .i64 16)), none, []⟩,
 ⟨2, (some 5), .mv (.tmp 4), none, []⟩,
 ⟨3, (some 6), .mv (.tmp 0), (some (5, false)), []⟩,
 ⟨4, (some 7), .bin .eql 3 true (.tmp 6) (.con (.int .i64 17)), (some (5, false)), []⟩,
 ⟨5, (some 8), .pick (.tmp 5) (.con (.bool true)) (.tmp 7), none, []⟩,
 ⟨6, (some 9), .mv (.tmp 8), none, []⟩,
 ⟨7, (some 10), .mv (.tmp 0), (some (9, false)), []⟩,
 ⟨8, (some 11), .bin .eql 3 true (.tmp 10) (.con (.int .i64 25)), (some (9, false)), []⟩,
 ⟨9, (some 12), .pick (.tmp 9) (.con (.bool true)) (.tmp 11), none, []⟩,
 ⟨10, (some 2), .mv (.tmp 12), none, []⟩])
 (.ret)),
 [.tmp 2]⟩
theorem p_r07_Array : prepFun Go.Proofs.Tryz.prog [1, 0, 2, 3] Go.Proofs.Tryz.f87 = some v_r07_Array := by kernel_rfl

def v_r07_Cell : VFun :=
⟨.seq (.reg [⟨0, (some 2), .mv (.con (.bool false)), none, []⟩])
 (.seq (.reg [⟨0, (some 3), .mv (.tmp 0), none, []⟩,
 ⟨1, (some 4), .bin .eql 3 true (.tmp 3) (.con (.int .i64 18)), none, []⟩,
 ⟨2, (some 5), .mv (.tmp 4), none, []⟩,
 ⟨3, (some 6), .mv (.tmp 0), (some (5, false)), []⟩,
 ⟨4, (some 7), .bin .eql 3 true (.tmp 6) (.con (.int .i64 19)), (some (5, false)), []⟩,
 ⟨5, (some 8), .pick (.tmp 5) (.con (.bool true)) (.tmp 7), none, []⟩,
 ⟨6, (some 2), .mv (.tmp 8), none, []⟩])
 (.ret)),
 [.tmp 2]⟩
theorem p_r07_Cell : prepFun Go.Proofs.Tryz.prog [1, 0, 2, 3] Go.Proofs.Tryz.f88 = some v_r07_Cell := by kernel_rfl

def v_r07_there : VFun :=
⟨.seq (.reg [⟨0, (some 2), .box (.tmp 0), none, []⟩,
 ⟨1, (some 4), .mv (.con (.bool false)), none, []⟩])
 (.seq (.reg [⟨0, (some 5), .mv (.tmp 1), none, []⟩,
 ⟨1, (some 6), .bin .geq 3 true (.tmp 5) (.con (.int .i64 0)), none, []⟩,
 ⟨2, (some 7), .mv (.tmp 6), none, []⟩,
 ⟨3, (some 8), .mv (.tmp 1), (some (7, true)), []⟩,
 ⟨4, (some 9), .fieldA 5 (.tmp 2), (some (7, true)), []⟩,
 ⟨5, (some 10), .load none (.tmp 9), (some (7, true)), []⟩,
 ⟨6, (some 11), .len (.tmp 10), (some (7, true)), []⟩,
 ⟨7, (some 12), .bin .lss 3 false (.tmp 8) (.tmp 11), (some (7, true)), []⟩,
 ⟨8, (some 13), .pick (.tmp 7) (.tmp 12) (.con (.bool false)), none, []⟩,
 ⟨9, (some 4), .mv (.tmp 13), none, []⟩])
 (.ret)),
 [.tmp 4]⟩
theorem p_r07_there : prepFun Go.Proofs.Tryz.prog [1, 0, 2, 3] Go.Proofs.Tryz.f89 = some v_r07_there := by kernel_rfl

def v_code_checker_unit : VFun :=
⟨.seq (.reg [⟨0, (some 8), .mv (.tmp 0), none, []⟩,
 ⟨1, (some 9), .nilck (.tmp 8), none, []⟩,
 ⟨2, (some 10), .fieldA 0 (.tmp 9), none, []⟩,
 ⟨3, (some 11), .load (some 6) (.tmp 10), none, []⟩,
 ⟨4, (some 2), .alloc [(.slice none 0 0), (.int .i64 0), (.int .i64 0), (.int .i64 0), (.int .i64 0), (.slice none 0 0)], none, []⟩,
 ⟨5, none, .store 6 (.tmp 2) (.tmp 11), none, []⟩])
 (.seq (.reg [⟨0, (some 12), .mv (.tmp 0), none, []⟩,
 ⟨1, (some 13), .fieldA 0 (.tmp 2), none, []⟩,
 ⟨2, (some 14), .load none (.tmp 13), none, []⟩,
 ⟨3, (some 15), .len (.tmp 14), none, []⟩,
 ⟨4, (some 16), .bin .leq 3 true (.tmp 15) (.con (.int .i64 16)), none, []⟩,
 ⟨5, (some 17), .mv (.tmp 16), none, []⟩,
 ⟨6, (some 18), .fieldA 5 (.tmp 2), (some (17, true)), []⟩,
 ⟨7, (some 19), .load none (.tmp 18), (some (17, true)), []⟩,
 ⟨8, (some 20), .len (.tmp 19), (some (17, true)), []⟩,
 ⟨9, (some 21), .bin .geq 3 true (.tmp 20) (.con (.int .i64 1)), (some (17, true)), []⟩,
 ⟨10, (some 22), .pick (.tmp 17) (.tmp 21) (.con (.bool false)), none, []⟩,
 ⟨11, (some 23), .mv (.tmp 22), none, []⟩,
 ⟨12, (some 24), .fieldA 5 (.tmp 2), (some (23, true)), []⟩,
 ⟨13, (some 25), .load none (.tmp 24), (some (23, true)), []⟩,
 ⟨14, (some 26), .len (.tmp 25), (some (23, true)), []⟩,
 ⟨15, (some 27), .bin .leq 3 true (.tmp 26) (.con (.int .i64 2000)), (some (23, true)), []⟩,
 ⟨16, (some 28), .pick (.tmp 23) (.tmp 27) (.con (.bool false)), none, []⟩,
 ⟨17, (some 29), .mv (.tmp 28), none, []⟩,
 ⟨18, (some 30), .fieldA 2 (.tmp 2), (some (29, true)), []⟩,
 ⟨19, (some 31), .load none (.tmp 30), (some (29, true)), []⟩,
 ⟨20, (some 32), .bin .leq 3 true (.tmp 31) (.con (.int .i64 4096)), (some (29, true)), []⟩,
 ⟨21, (some 33), .pick (.tmp 29) (.tmp 32) (.con (.bool false)), none, []⟩,
 ⟨22, (some 34), .mv (.tmp 33), none, []⟩,
 ⟨23, (some 35), .fieldA 4 (.tmp 2), (some (34, true)), []⟩,
 ⟨24, (some 36), .load none (.tmp 35), (some (34, true)), []⟩,
 ⟨25, (some 37), .bin .leq 3 true (.tmp 36) (.con (.int .i64 4096)), (some (34, true)), []⟩,
 ⟨26, (some 38), .pick (.tmp 34) (.tmp 37) (.con (.bool false)), none, []⟩,
 ⟨27, (some 39), .call 108 [(.tmp 12), (.tmp 38), (.con (.int .i64 3))], none, []⟩])
 (.seq (.reg [⟨0, (some 40), .mv (.tmp 0), none, []⟩,
 ⟨1, (some 41), .fieldA 0 (.tmp 2), none, []⟩,
 ⟨2, (some 42), .load none (.tmp 41), none, []⟩,
 ⟨3, (some 43), .call 109 [(.tmp 42), (.fn 110)], none, []⟩,
 ⟨4, (some 44), .un .not (.tmp 43), none, []⟩,
 ⟨5, (some 45), .call 108 [(.tmp 40), (.tmp 44), (.con (.int .i64 2))], none, []⟩])
 (.seq (.reg [⟨0, (some 46), .mv (.tmp 0), none, []⟩,
 ⟨1, (some 47), .fieldA 2 (.tmp 2), none, []⟩,
 ⟨2, (some 48), .load none (.tmp 47), none, []⟩,
 ⟨3, (some 49), .bin .geq 3 true (.tmp 48) (.con (.int .i64 1)), none, []⟩,
 ⟨4, (some 50), .mv (.tmp 49), none, []⟩,
 ⟨5, (some 51), .fieldA 4 (.tmp 2), (some (50, true)), []⟩,
 ⟨6, (some 52), .load none (.tmp 51), (some (50, true)), []⟩,
 ⟨7, (some 53), .bin .geq 3 true (.tmp 52) (.con (.int .i64 0)), (some (50, true)), []⟩,
 ⟨8, (some 54), .pick (.tmp 50) (.tmp 53) (.con (.bool false)), none, []⟩,
 ⟨9, (some 55), .mv (.tmp 54), none, []⟩,
 ⟨10, (some 56), .fieldA 1 (.tmp 2), (some (55, true)), []⟩,
 ⟨11, (some 57), .load none (.tmp 56), (some (55, true)), []⟩,
 ⟨12, (some 58), .bin .geq 3 true (.tmp 57) (.con (.int .i64 0)), (some (55, true)), []⟩,
 ⟨13, (some 59), .pick (.tmp 55) (.tmp 58) (.con (.bool false)), none, []⟩,
 ⟨14, (some 60), .mv (.tmp 59), none, []⟩,
 ⟨15, (some 61), .fieldA 1 (.tmp 2), (some (60, true)), []⟩,
 ⟨16, (some 62), .load none (.tmp 61), (some (60, true)), []⟩,
 ⟨17, (some 63), .bin .leq 3 true (.tmp 62) (.con (.int .i64 8)), (some (60, true)), []⟩,
 ⟨18, (some 64), .pick (.tmp 60) (.tmp 63) (.con (.bool false)), none, []⟩,
 ⟨19, (some 65), .mv (.tmp 64), none, []⟩,
 ⟨20, (some 66), .fieldA 1 (.tmp 2), (some (65, true)), []⟩,
 ⟨21, (some 67), .load none (.tmp 66), (some (65, true)), []⟩,
 ⟨22, (some 68), .fieldA 2 (.tmp 2), (some (65, true)), []⟩,
 ⟨23, (some 69), .load none (.tmp 68), (some (65, true)), []⟩,
 ⟨24, (some 70), .bin .leq 3 false (.tmp 67) (.tmp 69), (some (65, true)), []⟩,
 ⟨25, (some 71), .pick (.tmp 65) (.tmp 70) (.con (.bool false)), none, []⟩,
 ⟨26, (some 72), .mv (.tmp 71), none, []⟩,
 ⟨27, (some 73), .fieldA 3 (.tmp 2), (some (72, true)), []⟩,
 ⟨28, (some 74), .load none (.tmp 73), (some (72, true)), []⟩,
 ⟨29, (some 75), .fieldA 2 (.tmp 2), (some (72, true)), []⟩,
 ⟨30, (some 76), .load none (.tmp 75), (some (72, true)), []⟩,
 ⟨31, (some 77), .call 67 [(.tmp 74), (.tmp 76)], (some (72, true)), []⟩,
 ⟨32, (some 78), .pick (.tmp 72) (.tmp 77) (.con (.bool false)), none, []⟩,
 ⟨33, (some 79), .call 108 [(.tmp 46), (.tmp 78), (.con (.int .i64 2))], none, []⟩])
 (.seq (.reg [⟨0, (some 3), .mv (.con (.int .i64 0)), none, []⟩])
 (.seq (.seq (.reg [⟨0, (some 80), .fieldA 5 (.tmp 2), none, []⟩,
 ⟨1, (some 81), .load none (.tmp 80), none, []⟩,
 ⟨2, (some 82), .len (.tmp 81), none, []⟩,
 ⟨3, (some 83), .mv (.con (.int .i64 0)), none, []⟩])
 (.block 0
 (.loop
 (.seq (.reg [⟨0, (some 84), .bin .lss 3 false (.tmp 83) (.tmp 82), none, []⟩])
 (.seq (.cond (.tmp 84)
 (.skip)
 (.exit 0))
 (.seq (.block 1
 (.seq (.reg [⟨0, (some 85), .mv (.tmp 83), none, []⟩,
 ⟨1, (some 86), .idxA none 6 (.tmp 81) (.tmp 83), none, []⟩,
 ⟨2, (some 87), .load (some 6) (.tmp 86), none, []⟩,
 ⟨3, (some 5), .alloc [(.slice none 0 0), (.int .i64 0), (.int .i64 0), (.int .i64 0), (.int .i64 0), (.int .i64 0)], none, []⟩,
 ⟨4, (some 4), .mv (.tmp 85), none, []⟩,
 ⟨5, none, .store 6 (.tmp 5) (.tmp 87), none, []⟩])
 (.seq (.reg [⟨0, (some 88), .mv (.tmp 0), none, []⟩,
 ⟨1, (some 89), .mv (.tmp 0), none, []⟩,
 ⟨2, (some 90), .mv (.tmp 4), none, []⟩,
 ⟨3, (some 91), .fieldA 0 (.tmp 5), none, []⟩,
 ⟨4, (some 92), .load none (.tmp 91), none, []⟩,
 ⟨5, (some 93), .len (.tmp 92), none, []⟩,
 ⟨6, (some 94), .nilck (.tmp 88), none, []⟩,
 ⟨7, (some 95), .fieldA 6 (.tmp 94), none, []⟩,
 ⟨8, none, .store 1 (.tmp 95) (.tmp 90), none, [(.tmp 91)]⟩,
 ⟨9, (some 96), .nilck (.tmp 89), none, []⟩,
 ⟨10, (some 97), .fieldA 7 (.tmp 96), none, []⟩,
 ⟨11, none, .store 1 (.tmp 97) (.tmp 93), none, []⟩])
 (.seq (.reg [⟨0, (some 98), .mv (.tmp 0), none, []⟩,
 ⟨1, (some 99), .fieldA 5 (.tmp 5), none, []⟩,
 ⟨2, (some 100), .load none (.tmp 99), none, []⟩,
 ⟨3, (some 101), .bin .eql 3 true (.tmp 100) (.con (.int .i64 (-1))), none, []⟩,
 ⟨4, (some 102), .mv (.tmp 101), none, []⟩,
 ⟨5, (some 103), .fieldA 5 (.tmp 5), (some (102, false)), []⟩,
 ⟨6, (some 104), .load none (.tmp 103), (some (102, false)), []⟩,
 ⟨7, (some 105), .fieldA 5 (.tmp 2), (some (102, false)), []⟩,
 ⟨8, (some 106), .load none (.tmp 105), (some (102, false)), []⟩,
 ⟨9, (some 107), .len (.tmp 106), (some (102, false)), []⟩,
 ⟨10, (some 108), .call 67 [(.tmp 104), (.tmp 107)], (some (102, false)), []⟩,
 ⟨11, (some 109), .pick (.tmp 102) (.con (.bool true)) (.tmp 108), none, []⟩,
 ⟨12, (some 110), .call 108 [(.tmp 98), (.tmp 109), (.con (.int .i64 2))], none, []⟩])
 (.seq (.reg [⟨0, (some 111), .mv (.tmp 0), none, []⟩,
 ⟨1, (some 112), .fieldA 0 (.tmp 5), none, []⟩,
 ⟨2, (some 113), .load none (.tmp 112), none, []⟩,
 ⟨3, (some 114), .len (.tmp 113), none, []⟩,
 ⟨4, (some 115), .bin .leq 3 true (.tmp 114) (.con (.int .i64 400)), none, []⟩,
 ⟨5, (some 116), .call 108 [(.tmp 111), (.tmp 115), (.con (.int .i64 3))], none, []⟩])
 (.seq (.seq (.reg [⟨0, (some 117), .fieldA 0 (.tmp 5), none, []⟩,
 ⟨1, (some 118), .load none (.tmp 117), none, []⟩,
 ⟨2, (some 119), .len (.tmp 118), none, []⟩,
 ⟨3, (some 120), .mv (.con (.int .i64 0)), none, []⟩])
 (.block 2
 (.loop
 (.seq (.reg [⟨0, (some 121), .bin .lss 3 false (.tmp 120) (.tmp 119), none, []⟩])
 (.seq (.cond (.tmp 121)
 (.skip)
 (.exit 2))
 (.seq (.block 3
 (.seq (.reg [⟨0, (some 122), .mv (.tmp 120), none, []⟩,
 ⟨1, (some 123), .idxA none 7 (.tmp 118) (.tmp 120), none, []⟩,
 ⟨2, (some 124), .load (some 7) (.tmp 123), none, []⟩,
 ⟨3, (some 7), .alloc [(.int .i64 0), (.int .i64 0), (.int .i64 0), (.int .i64 0), (.int .i64 0), (.int .i64 0), (.int .i64 0)], none, []⟩,
 ⟨4, (some 6), .mv (.tmp 122), none, []⟩,
 ⟨5, none, .store 7 (.tmp 7) (.tmp 124), none, []⟩])
 (.seq (.reg [⟨0, (some 125), .mv (.tmp 0), none, []⟩,
 ⟨1, (some 126), .mv (.tmp 6), none, []⟩,
 ⟨2, (some 127), .nilck (.tmp 125), none, []⟩,
 ⟨3, (some 128), .fieldA 7 (.tmp 127), none, []⟩,
 ⟨4, none, .store 1 (.tmp 128) (.tmp 126), none, []⟩])
 (.reg [⟨0, (some 129), .mv (.tmp 0), none, []⟩,
 ⟨1, (some 130), .load (some 7) (.tmp 7), none, []⟩,
 ⟨2, (some 131), .call 111 [(.tmp 129), (.tmp 130)], none, []⟩]))))
 (.reg [⟨0, (some 132), .bin .add 3 true (.tmp 120) (.con (.int .i64 1)), none, []⟩,
 ⟨1, (some 120), .mv (.tmp 132), none, []⟩])))))))
 (.seq (.reg [⟨0, (some 133), .mv (.tmp 0), none, []⟩,
 ⟨1, (some 134), .fieldA 0 (.tmp 5), none, []⟩,
 ⟨2, (some 135), .load none (.tmp 134), none, []⟩,
 ⟨3, (some 136), .len (.tmp 135), none, []⟩,
 ⟨4, (some 137), .nilck (.tmp 133), none, []⟩,
 ⟨5, (some 138), .fieldA 7 (.tmp 137), none, []⟩,
 ⟨6, none, .store 1 (.tmp 138) (.tmp 136), none, []⟩])
 (.seq (.reg [⟨0, (some 139), .mv (.tmp 0), none, []⟩,
 ⟨1, (some 140), .fieldA 1 (.tmp 5), none, []⟩,
 ⟨2, (some 141), .load (some 4) (.tmp 140), none, []⟩,
 ⟨3, (some 142), .call 112 [(.tmp 139), (.tmp 141)], none, []⟩])
 (.reg [⟨0, (some 143), .mv (.tmp 3), none, []⟩,
 ⟨1, (some 144), .fieldA 0 (.tmp 5), none, []⟩,
 ⟨2, (some 145), .load none (.tmp 144), none, []⟩,
 ⟨3, (some 146), .len (.tmp 145), none, []⟩,
 ⟨4, (some 147), .bin .add 3 false (.tmp 143) (.tmp 146), none, []⟩,
 ⟨5, (some 3), .mv (.tmp 147), none, []⟩])))))))))
 (.reg [⟨0, (some 148), .bin .add 3 true (.tmp 83) (.con (.int .i64 1)), none, []⟩,
 ⟨1, (some 83), .mv (.tmp 148), none, []⟩])))))))
 (.seq (.reg [⟨0, (some 149), .mv (.tmp 0), none, []⟩,
 ⟨1, (some 150), .mv (.tmp 0), none, []⟩,
 ⟨2, (some 151), .nilck (.tmp 149), none, []⟩,
 ⟨3, (some 152), .fieldA 6 (.tmp 151), none, []⟩,
 ⟨4, none, .store 1 (.tmp 152) (.con (.int .i64 0)), none, []⟩,
 ⟨5, (some 153), .nilck (.tmp 150), none, []⟩,
 ⟨6, (some 154), .fieldA 7 (.tmp 153), none, []⟩,
 ⟨7, none, .store 1 (.tmp 154) (.con (.int .i64 0)), none, []⟩])
 (.reg [⟨0, (some 155), .mv (.tmp 0), none, []⟩,
 ⟨1, (some 156), .mv (.tmp 3), none, []⟩,
 ⟨2, (some 157), .bin .leq 3 true (.tmp 156) (.con (.int .i64 20000)), none, []⟩,
 ⟨3, (some 158), .call 108 [(.tmp 155), (.tmp 157), (.con (.int .i64 3))], none, []⟩]))))))),
 []⟩
theorem p_code_checker_unit : prepFun Go.Proofs.Tryz.prog [1, 0, 2, 3] Go.Proofs.Tryz.f91 = some v_code_checker_unit := by kernel_rfl

def v_internal_strconv_FormatInt : VFun :=
⟨.seq (.reg [⟨0, (some 4), .mv (.con (.string ⟨#[]⟩)), none, []⟩])
 (.seq (.seq (.reg [⟨0, (some 10), .mv (.tmp 1), none, []⟩,
 ⟨1, (some 11), .bin .eql 3 true (.tmp 10) (.con (.int .i64 10)), none, []⟩])
 (.cond (.tmp 11)
 (.seq (.seq (.reg [⟨0, (some 12), .mv (.tmp 0), none, []⟩,
 ⟨1, (some 13), .bin .leq 2 true (.con (.int .i64 0)) (.tmp 12), none, []⟩,
 ⟨2, (some 14), .mv (.tmp 13), none, []⟩,
 ⟨3, (some 15), .mv (.tmp 0), (some (14, true)), []⟩,
 ⟨4, (some 16), .bin .lss 2 true (.tmp 15) (.con (.int .i64 100)), (some (14, true)), []⟩,
 ⟨5, (some 17), .pick (.tmp 14) (.tmp 16) (.con (.bool false)), none, []⟩])
 (.cond (.tmp 17)
 (.seq (.reg [⟨0, (some 18), .mv (.tmp 0), none, []⟩,
 ⟨1, (some 19), .call 114 [(.tmp 18)], none, []⟩,
 ⟨2, (some 4), .mv (.tmp 19), none, []⟩])
 (.ret))
 (.skip)))
 (.seq (.reg [⟨0, (some 5), .alloc [(.int .u8 0), (.int .u8 0), (.int .u8 0), (.int .u8 0), (.int .u8 0), (.int .u8 0), (.int .u8 0), (.int .u8 0), (.int .u8 0), (.int .u8 0), (.int .u8 0), (.int .u8 0), (.int .u8 0), (.int .u8 0), (.int .u8 0), (.int .u8 0), (.int .u8 0), (.int .u8 0), (.int .u8 0), (.int .u8 0), (.int .u8 0), (.int .u8 0), (.int .u8 0), (.int .u8 0)], none, []⟩])
 (.seq (.reg [⟨0, (some 20), .mv (.tmp 0), none, []⟩,
 ⟨1, (some 21), .conv 2 160 (.tmp 20), none, []⟩,
 ⟨2, (some 6), .mv (.tmp 21), none, []⟩])
 (.seq (.seq (.reg [⟨0, (some 22), .mv (.tmp 0), none, []⟩,
 ⟨1, (some 23), .bin .lss 2 true (.tmp 22) (.con (.int .i64 0)), none, []⟩])
 (.cond (.tmp 23)
 (.reg [⟨0, (some 24), .mv (.tmp 6), none, []⟩,
 ⟨1, (some 25), .un .neg (.tmp 24), none, []⟩,
 ⟨2, (some 6), .mv (.tmp 25), none, []⟩])
 (.skip)))
 (.seq (.reg [⟨0, (some 26), .mv (.tmp 6), none, []⟩,
 ⟨1, (some 27), .call 115 [(.tmp 26)], none, []⟩,
 ⟨2, (some 7), .mv (.tmp 27), none, []⟩])
 (.seq (.reg [⟨0, (some 28), .mv (.tmp 7), none, []⟩,
 ⟨1, (some 29), .bin .add 3 true (.con (.int .i64 1)) (.tmp 28), none, []⟩,
 ⟨2, (some 30), .slice (some 24) 1 (.tmp 5) (some (.con (.int .i64 1))) (some (.tmp 29)) none, none, []⟩,
 ⟨3, (some 31), .mv (.tmp 6), none, []⟩,
 ⟨4, (some 32), .call 116 [(.tmp 30), (.tmp 31)], none, []⟩])
 (.seq (.seq (.reg [⟨0, (some 33), .mv (.tmp 0), none, []⟩,
 ⟨1, (some 34), .bin .lss 2 true (.tmp 33) (.con (.int .i64 0)), none, []⟩])
 (.cond (.tmp 34)
 (.seq (.reg [⟨0, (some 35), .idxA (some 24) 1 (.tmp 5) (.con (.int .i64 0)), none, []⟩,
 ⟨1, none, .store 1 (.tmp 35) (.con (.int .u8 45)), none, []⟩])
 (.seq (.reg [⟨0, (some 36), .mv (.tmp 7), none, []⟩,
 ⟨1, (some 37), .bin .add 3 true (.con (.int .i64 1)) (.tmp 36), none, []⟩,
 ⟨2, (some 38), .slice (some 24) 1 (.tmp 5) none (some (.tmp 37)) none, none, []⟩,
 ⟨3, (some 39), .b2s (.tmp 38), none, []⟩,
 ⟨4, (some 4), .mv (.tmp 39), none, []⟩])
 (.ret)))
 (.skip)))
 (.seq (.reg [⟨0, (some 40), .mv (.tmp 7), none, []⟩,
 ⟨1, (some 41), .bin .add 3 true (.con (.int .i64 1)) (.tmp 40), none, []⟩,
 ⟨2, (some 42), .slice (some 24) 1 (.tmp 5) (some (.con (.int .i64 1))) (some (.tmp 41)) none, none, []⟩,
 ⟨3, (some 43), .b2s (.tmp 42), none, []⟩,
 ⟨4, (some 4), .mv (.tmp 43), none, []⟩])
 (.ret)))))))))
 (.skip)))
 (.seq (.reg [⟨0, (some 45), .mv (.tmp 0), none, []⟩,
 ⟨1, (some 46), .conv 2 160 (.tmp 45), none, []⟩,
 ⟨2, (some 47), .mv (.tmp 1), none, []⟩,
 ⟨3, (some 48), .mv (.tmp 0), none, []⟩,
 ⟨4, (some 49), .bin .lss 2 true (.tmp 48) (.con (.int .i64 0)), none, []⟩,
 ⟨5, (some 50), .call 117 [(.con (.slice none 0 0)), (.tmp 46), (.tmp 47), (.tmp 49), (.con (.bool false))], none, []⟩,
 ⟨6, (some 44), .mv (.tmp 50), none, []⟩,
 ⟨7, (some 51), .ext (.tmp 44) 0, none, []⟩,
 ⟨8, (some 52), .ext (.tmp 44) 1, none, []⟩,
 ⟨9, (some 8), .mv (.tmp 51), none, []⟩,
 ⟨10, (some 9), .mv (.tmp 52), none, []⟩])
 (.seq (.reg [⟨0, (some 53), .mv (.tmp 9), none, []⟩,
 ⟨1, (some 4), .mv (.tmp 53), none, []⟩])
 (.ret)))),
 [.tmp 4]⟩
theorem p_internal_strconv_FormatInt : prepFun Go.Proofs.Tryz.prog [1, 0, 2, 3] Go.Proofs.Tryz.f95 = some v_internal_strconv_FormatInt := by kernel_rfl

def v_strconv_FormatInt : VFun :=
⟨.seq (.reg [⟨0, (some 4), .mv (.con (.string ⟨#[]⟩)), none, []⟩])
 (.seq (.reg [⟨0, (some 5), .mv (.tmp 0), none, []⟩,
 ⟨1, (some 6), .mv (.tmp 1), none, []⟩,
 ⟨2, (some 7), .call 95 [(.tmp 5), (.tmp 6)], none, []⟩,
 ⟨3, (some 4), .mv (.tmp 7), none, []⟩])
 (.ret)),
 [.tmp 4]⟩
theorem p_strconv_FormatInt : prepFun Go.Proofs.Tryz.prog [1, 0, 2, 3] Go.Proofs.Tryz.f96 = some v_strconv_FormatInt := by kernel_rfl

def v_strings_Cut : VFun :=
⟨.seq (.reg [⟨0, (some 4), .mv (.con (.string ⟨#[]⟩)), none, []⟩,
 ⟨1, (some 5), .mv (.con (.string ⟨#[]⟩)), none, []⟩,
 ⟨2, (some 6), .mv (.con (.bool false)), none, []⟩])
 (.seq (.reg [⟨0, (some 7), .mv (.tmp 0), none, []⟩,
 ⟨1, (some 8), .mv (.tmp 1), none, []⟩,
 ⟨2, (some 9), .call 118 [(.tmp 7), (.tmp 8)], none, []⟩,
 ⟨3, (some 10), .ext (.tmp 9) 0, none, []⟩,
 ⟨4, (some 11), .ext (.tmp 9) 1, none, []⟩,
 ⟨5, (some 12), .ext (.tmp 9) 2, none, []⟩,
 ⟨6, (some 4), .mv (.tmp 10), none, []⟩,
 ⟨7, (some 5), .mv (.tmp 11), none, []⟩,
 ⟨8, (some 6), .mv (.tmp 12), none, []⟩])
 (.ret)),
 [.tmp 4, .tmp 5, .tmp 6]⟩
theorem p_strings_Cut : prepFun Go.Proofs.Tryz.prog [1, 0, 2, 3] Go.Proofs.Tryz.f97 = some v_strings_Cut := by kernel_rfl

def v_code_numbers : VFun :=
⟨.seq (.reg [⟨0, (some 4), .mv (.con (.slice none 0 0)), none, []⟩,
 ⟨1, (some 5), .mv (.con (.bool false)), none, []⟩])
 (.seq (.seq (.reg [⟨0, (some 11), .mv (.tmp 0), none, []⟩,
 ⟨1, (some 12), .len (.tmp 11), none, []⟩,
 ⟨2, (some 13), .mv (.tmp 1), none, []⟩,
 ⟨3, (some 14), .bin .neq 3 false (.tmp 12) (.tmp 13), none, []⟩])
 (.cond (.tmp 14)
 (.seq (.reg [⟨0, (some 4), .mv (.con (.slice none 0 0)), none, []⟩,
 ⟨1, (some 5), .mv (.con (.bool false)), none, []⟩])
 (.ret))
 (.skip)))
 (.seq (.reg [⟨0, (some 6), .mv (.con (.slice none 0 0)), none, []⟩])
 (.seq (.seq (.reg [⟨0, (some 15), .mv (.tmp 0), none, []⟩,
 ⟨1, (some 16), .len (.tmp 15), none, []⟩,
 ⟨2, (some 17), .mv (.con (.int .i64 0)), none, []⟩])
 (.block 0
 (.loop
 (.seq (.reg [⟨0, (some 18), .bin .lss 3 false (.tmp 17) (.tmp 16), none, []⟩])
 (.seq (.cond (.tmp 18)
 (.skip)
 (.exit 0))
 (.seq (.block 1
 (.seq (.reg [⟨0, (some 19), .idxA none 1 (.tmp 15) (.tmp 17), none, []⟩,
 ⟨1, (some 20), .load none (.tmp 19), none, []⟩,
 ⟨2, (some 8), .mv (.tmp 20), none, []⟩])
 (.seq (.reg [⟨0, (some 22), .mv (.tmp 8), none, []⟩,
 ⟨1, (some 23), .call 119 [(.tmp 22)], none, []⟩,
 ⟨2, (some 21), .mv (.tmp 23), none, []⟩,
 ⟨3, (some 24), .ext (.tmp 21) 0, none, []⟩,
 ⟨4, (some 25), .ext (.tmp 21) 1, none, []⟩,
 ⟨5, (some 9), .mv (.tmp 24), none, []⟩,
 ⟨6, (some 10), .mv (.tmp 25), none, []⟩])
 (.seq (.seq (.reg [⟨0, (some 26), .mv (.tmp 10), none, []⟩,
 ⟨1, (some 27), .bin .neq 27 true (.tmp 26) (.con (.int .i64 0)), none, []⟩])
 (.cond (.tmp 27)
 (.seq (.reg [⟨0, (some 4), .mv (.con (.slice none 0 0)), none, []⟩,
 ⟨1, (some 5), .mv (.con (.bool false)), none, []⟩])
 (.ret))
 (.skip)))
 (.reg [⟨0, (some 28), .mv (.tmp 6), none, []⟩,
 ⟨1, (some 29), .mv (.tmp 9), none, []⟩,
 ⟨2, (some 30), .bslice 1 1 [(.int .i64 0)] [(0, 1, (.tmp 29))], none, []⟩,
 ⟨3, (some 31), .append 1 8 (.tmp 28) (.tmp 30), none, []⟩,
 ⟨4, (some 6), .mv (.tmp 31), none, []⟩])))))
 (.reg [⟨0, (some 32), .bin .add 3 true (.tmp 17) (.con (.int .i64 1)), none, []⟩,
 ⟨1, (some 17), .mv (.tmp 32), none, []⟩])))))))
 (.seq (.reg [⟨0, (some 33), .mv (.tmp 6), none, []⟩,
 ⟨1, (some 4), .mv (.tmp 33), none, []⟩,
 ⟨2, (some 5), .mv (.con (.bool true)), none, []⟩])
 (.ret))))),
 [.tmp 4, .tmp 5]⟩
theorem p_code_numbers : prepFun Go.Proofs.Tryz.prog [1, 0, 2, 3] Go.Proofs.Tryz.f98 = some v_code_numbers := by kernel_rfl

def v_strings_CutPrefix : VFun :=
⟨.seq (.reg [⟨0, (some 4), .mv (.con (.string ⟨#[]⟩)), none, []⟩,
 ⟨1, (some 5), .mv (.con (.bool false)), none, []⟩])
 (.seq (.reg [⟨0, (some 6), .mv (.tmp 0), none, []⟩,
 ⟨1, (some 7), .mv (.tmp 1), none, []⟩,
 ⟨2, (some 8), .call 120 [(.tmp 6), (.tmp 7)], none, []⟩,
 ⟨3, (some 9), .ext (.tmp 8) 0, none, []⟩,
 ⟨4, (some 10), .ext (.tmp 8) 1, none, []⟩,
 ⟨5, (some 4), .mv (.tmp 9), none, []⟩,
 ⟨6, (some 5), .mv (.tmp 10), none, []⟩])
 (.ret)),
 [.tmp 4, .tmp 5]⟩
theorem p_strings_CutPrefix : prepFun Go.Proofs.Tryz.prog [1, 0, 2, 3] Go.Proofs.Tryz.f99 = some v_strings_CutPrefix := by kernel_rfl

def v_code_readEnd : VFun :=
⟨.seq (.reg [⟨0, (some 2), .alloc [(.int .i64 0), (.int .i64 0), (.int .i64 0), (.int .i64 0)], none, []⟩,
 ⟨1, (some 3), .mv (.con (.bool false)), none, []⟩])
 (.seq (.seq (.reg [⟨0, (some 9), .load (some 8) (.glo 1), none, []⟩,
 ⟨1, (some 10), .mv (.con (.int .i64 0)), none, []⟩])
 (.block 0
 (.loop
 (.seq (.reg [⟨0, (some 11), .bin .lss 3 true (.tmp 10) (.con (.int .i64 4)), none, []⟩])
 (.seq (.cond (.tmp 11)
 (.skip)
 (.exit 0))
 (.seq (.block 1
 (.seq (.reg [⟨0, (some 12), .mv (.tmp 10), none, []⟩,
 ⟨1, (some 13), .idx 4 (some 2) 2 (.tmp 9) (.tmp 10), none, []⟩,
 ⟨2, (some 5), .alloc [(.string ⟨#[]⟩), (.int .i64 0)], none, []⟩,
 ⟨3, (some 4), .mv (.tmp 12), none, []⟩,
 ⟨4, none, .store 2 (.tmp 5) (.tmp 13), none, []⟩])
 (.seq (.reg [⟨0, (some 15), .mv (.tmp 0), none, []⟩,
 ⟨1, (some 16), .fieldA 0 (.tmp 5), none, []⟩,
 ⟨2, (some 17), .load none (.tmp 16), none, []⟩,
 ⟨3, (some 18), .fieldA 1 (.tmp 5), none, []⟩,
 ⟨4, (some 19), .load none (.tmp 18), none, []⟩,
 ⟨5, (some 20), .call 78 [(.tmp 15), (.tmp 17), (.tmp 19)], none, []⟩,
 ⟨6, (some 14), .mv (.tmp 20), none, []⟩,
 ⟨7, (some 21), .ext (.tmp 14) 0, none, []⟩,
 ⟨8, (some 22), .ext (.tmp 14) 1, none, []⟩,
 ⟨9, (some 6), .mv (.tmp 21), none, []⟩,
 ⟨10, (some 7), .mv (.tmp 22), none, []⟩])
 (.seq (.seq (.reg [⟨0, (some 23), .mv (.tmp 7), none, []⟩,
 ⟨1, (some 24), .un .not (.tmp 23), none, []⟩])
 (.cond (.tmp 24)
 (.exit 1)
 (.skip)))
 (.seq (.reg [⟨0, (some 25), .mv (.tmp 4), none, []⟩,
 ⟨1, (some 26), .bin .add 3 true (.tmp 25) (.con (.int .i64 1)), none, []⟩,
 ⟨2, (some 27), .build [(.int .i64 0), (.int .i64 0), (.int .i64 0), (.int .i64 0)] [(0, 1, (.tmp 26))], none, []⟩,
 ⟨3, (some 8), .alloc [(.int .i64 0), (.int .i64 0), (.int .i64 0), (.int .i64 0)], none, []⟩,
 ⟨4, none, .store 4 (.tmp 8) (.tmp 27), none, []⟩])
 (.seq (.seq (.reg [⟨0, (some 28), .fieldA 0 (.tmp 8), none, []⟩,
 ⟨1, (some 29), .load none (.tmp 28), none, []⟩,
 ⟨2, (some 30), .bin .eql 3 true (.tmp 29) (.con (.int .i64 1)), none, []⟩])
 (.cond (.tmp 30)
 (.seq (.reg [⟨0, (some 31), .mv (.tmp 6), none, []⟩,
 ⟨1, (some 32), .idxA none 1 (.tmp 31) (.con (.int .i64 0)), none, []⟩,
 ⟨2, (some 33), .load none (.tmp 32), none, []⟩,
 ⟨3, (some 34), .fieldA 2 (.tmp 8), none, []⟩,
 ⟨4, none, .store 1 (.tmp 34) (.tmp 33), none, []⟩])
 (.seq (.reg [⟨0, (some 35), .load (some 4) (.tmp 8), none, []⟩,
 ⟨1, none, .store 4 (.tmp 2) (.tmp 35), none, []⟩,
 ⟨2, (some 3), .mv (.con (.bool true)), none, []⟩])
 (.ret)))
 (.skip)))
 (.seq (.reg [⟨0, (some 36), .mv (.tmp 6), none, []⟩,
 ⟨1, (some 37), .idxA none 1 (.tmp 36) (.con (.int .i64 0)), none, []⟩,
 ⟨2, (some 38), .load none (.tmp 37), none, []⟩,
 ⟨3, (some 39), .fieldA 1 (.tmp 8), none, []⟩,
 ⟨4, none, .store 1 (.tmp 39) (.tmp 38), none, []⟩])
 (.seq (.seq (.reg [⟨0, (some 40), .fieldA 0 (.tmp 8), none, []⟩,
 ⟨1, (some 41), .load none (.tmp 40), none, []⟩,
 ⟨2, (some 42), .bin .eql 3 true (.tmp 41) (.con (.int .i64 2)), none, []⟩])
 (.cond (.tmp 42)
 (.reg [⟨0, (some 43), .mv (.tmp 6), none, []⟩,
 ⟨1, (some 44), .idxA none 1 (.tmp 43) (.con (.int .i64 1)), none, []⟩,
 ⟨2, (some 45), .load none (.tmp 44), none, []⟩,
 ⟨3, (some 46), .mv (.tmp 6), none, []⟩,
 ⟨4, (some 47), .idxA none 1 (.tmp 46) (.con (.int .i64 2)), none, []⟩,
 ⟨5, (some 48), .load none (.tmp 47), none, []⟩,
 ⟨6, (some 49), .fieldA 2 (.tmp 8), none, []⟩,
 ⟨7, none, .store 1 (.tmp 49) (.tmp 45), none, [(.tmp 47)]⟩,
 ⟨8, (some 50), .fieldA 3 (.tmp 8), none, []⟩,
 ⟨9, none, .store 1 (.tmp 50) (.tmp 48), none, []⟩])
 (.skip)))
 (.seq (.reg [⟨0, (some 51), .load (some 4) (.tmp 8), none, []⟩,
 ⟨1, none, .store 4 (.tmp 2) (.tmp 51), none, []⟩,
 ⟨2, (some 3), .mv (.con (.bool true)), none, []⟩])
 (.ret))))))))))
 (.reg [⟨0, (some 52), .bin .add 3 true (.tmp 10) (.con (.int .i64 1)), none, []⟩,
 ⟨1, (some 10), .mv (.tmp 52), none, []⟩])))))))
 (.seq (.reg [⟨0, (some 53), .build [(.int .i64 0), (.int .i64 0), (.int .i64 0), (.int .i64 0)] [], none, []⟩,
 ⟨1, none, .store 4 (.tmp 2) (.tmp 53), none, []⟩,
 ⟨2, (some 3), .mv (.con (.bool false)), none, []⟩])
 (.ret))),
 [.cell 2 (some 4), .tmp 3]⟩
theorem p_code_readEnd : prepFun Go.Proofs.Tryz.prog [1, 0, 2, 3] Go.Proofs.Tryz.f100 = some v_code_readEnd := by kernel_rfl

def v_code_readOp : VFun :=
⟨.seq (.reg [⟨0, (some 2), .alloc [(.int .i64 0), (.int .i64 0), (.int .i64 0), (.int .i64 0), (.int .i64 0), (.int .i64 0), (.int .i64 0)], none, []⟩,
 ⟨1, (some 3), .mv (.con (.bool false)), none, []⟩])
 (.seq (.reg [⟨0, (some 21), .build [(.int .i64 0), (.int .i64 0), (.int .i64 0), (.int .i64 0), (.int .i64 0), (.int .i64 0), (.int .i64 0)] [(6, 1, (.con (.int .i64 (-1))))], none, []⟩,
 ⟨1, (some 4), .alloc [(.int .i64 0), (.int .i64 0), (.int .i64 0), (.int .i64 0), (.int .i64 0), (.int .i64 0), (.int .i64 0)], none, []⟩,
 ⟨2, none, .store 7 (.tmp 4) (.tmp 21), none, []⟩])
 (.seq (.reg [⟨0, (some 22), .mv (.tmp 0), none, []⟩,
 ⟨1, (some 23), .call 47 [(.tmp 22), (.con (.string ⟨#[32]⟩))], none, []⟩,
 ⟨2, (some 5), .alloc [(.slice none 0 0)], none, []⟩,
 ⟨3, none, .store 1 (.tmp 5) (.tmp 23), none, []⟩])
 (.seq (.seq (.reg [⟨0, (some 24), .load none (.tmp 5), none, []⟩,
 ⟨1, (some 25), .idxA none 1 (.tmp 24) (.con (.int .i64 0)), none, []⟩,
 ⟨2, (some 26), .load none (.tmp 25), none, []⟩,
 ⟨3, (some 27), .bin .eql 9 true (.tmp 26) (.con (.string ⟨#[63]⟩)), none, []⟩,
 ⟨4, (some 28), .mv (.tmp 27), none, []⟩,
 ⟨5, (some 29), .load none (.tmp 5), (some (28, true)), []⟩,
 ⟨6, (some 30), .len (.tmp 29), (some (28, true)), []⟩,
 ⟨7, (some 31), .bin .gtr 3 true (.tmp 30) (.con (.int .i64 2)), (some (28, true)), []⟩,
 ⟨8, (some 32), .pick (.tmp 28) (.tmp 31) (.con (.bool false)), none, []⟩])
 (.cond (.tmp 32)
 (.seq (.reg [⟨0, (some 34), .load none (.tmp 5), none, []⟩,
 ⟨1, (some 35), .slice none 1 (.tmp 34) (some (.con (.int .i64 1))) (some (.con (.int .i64 2))) none, none, []⟩,
 ⟨2, (some 36), .call 98 [(.tmp 35), (.con (.int .i64 1))], none, []⟩,
 ⟨3, (some 33), .mv (.tmp 36), none, []⟩,
 ⟨4, (some 37), .ext (.tmp 33) 0, none, []⟩,
 ⟨5, (some 38), .ext (.tmp 33) 1, none, []⟩,
 ⟨6, (some 6), .mv (.tmp 37), none, []⟩,
 ⟨7, (some 7), .mv (.tmp 38), none, []⟩])
 (.seq (.seq (.reg [⟨0, (some 39), .mv (.tmp 7), none, []⟩,
 ⟨1, (some 40), .un .not (.tmp 39), none, []⟩,
 ⟨2, (some 41), .mv (.tmp 40), none, []⟩,
 ⟨3, (some 42), .mv (.tmp 6), (some (41, false)), []⟩,
 ⟨4, (some 43), .idxA none 1 (.tmp 42) (.con (.int .i64 0)), (some (41, false)), []⟩,
 ⟨5, (some 44), .load none (.tmp 43), (some (41, false)), []⟩,
 ⟨6, (some 45), .bin .eql 2 true (.tmp 44) (.con (.int .i64 (-1))), (some (41, false)), []⟩,
 ⟨7, (some 46), .pick (.tmp 41) (.con (.bool true)) (.tmp 45), none, []⟩])
 (.cond (.tmp 46)
 (.seq (.reg [⟨0, (some 47), .load (some 7) (.tmp 4), none, []⟩,
 ⟨1, none, .store 7 (.tmp 2) (.tmp 47), none, []⟩,
 ⟨2, (some 3), .mv (.con (.bool false)), none, []⟩])
 (.ret))
 (.skip)))
 (.reg [⟨0, (some 48), .mv (.tmp 6), none, []⟩,
 ⟨1, (some 49), .idxA none 1 (.tmp 48) (.con (.int .i64 0)), none, []⟩,
 ⟨2, (some 50), .load none (.tmp 49), none, []⟩,
 ⟨3, (some 51), .load none (.tmp 5), none, []⟩,
 ⟨4, (some 52), .slice none 1 (.tmp 51) (some (.con (.int .i64 2))) none none, none, []⟩,
 ⟨5, (some 53), .fieldA 6 (.tmp 4), none, []⟩,
 ⟨6, none, .store 1 (.tmp 53) (.tmp 50), none, [(.tmp 5)]⟩,
 ⟨7, none, .store 1 (.tmp 5) (.tmp 52), none, []⟩])))
 (.skip)))
 (.seq (.reg [⟨0, (some 54), .load none (.tmp 5), none, []⟩,
 ⟨1, (some 55), .len (.tmp 54), none, []⟩,
 ⟨2, (some 56), .bin .gtr 3 true (.tmp 55) (.con (.int .i64 2)), none, []⟩,
 ⟨3, (some 57), .mv (.tmp 56), none, []⟩,
 ⟨4, (some 58), .load none (.tmp 5), (some (57, true)), []⟩,
 ⟨5, (some 59), .idxA none 1 (.tmp 58) (.con (.int .i64 1)), (some (57, true)), []⟩,
 ⟨6, (some 60), .load none (.tmp 59), (some (57, true)), []⟩,
 ⟨7, (some 61), .bin .eql 9 true (.tmp 60) (.con (.string ⟨#[61]⟩)), (some (57, true)), []⟩,
 ⟨8, (some 62), .pick (.tmp 57) (.tmp 61) (.con (.bool false)), none, []⟩,
 ⟨9, (some 8), .mv (.tmp 62), none, []⟩])
 (.seq (.seq (.reg [⟨0, (some 63), .mv (.tmp 8), none, []⟩])
 (.cond (.tmp 63)
 (.seq (.reg [⟨0, (some 65), .load none (.tmp 5), none, []⟩,
 ⟨1, (some 66), .slice none 1 (.tmp 65) none (some (.con (.int .i64 1))) none, none, []⟩,
 ⟨2, (some 67), .call 98 [(.tmp 66), (.con (.int .i64 1))], none, []⟩,
 ⟨3, (some 64), .mv (.tmp 67), none, []⟩,
 ⟨4, (some 68), .ext (.tmp 64) 0, none, []⟩,
 ⟨5, (some 69), .ext (.tmp 64) 1, none, []⟩,
 ⟨6, (some 9), .mv (.tmp 68), none, []⟩,
 ⟨7, (some 10), .mv (.tmp 69), none, []⟩])
 (.seq (.seq (.reg [⟨0, (some 70), .mv (.tmp 10), none, []⟩,
 ⟨1, (some 71), .un .not (.tmp 70), none, []⟩])
 (.cond (.tmp 71)
 (.seq (.reg [⟨0, (some 72), .load (some 7) (.tmp 4), none, []⟩,
 ⟨1, none, .store 7 (.tmp 2) (.tmp 72), none, []⟩,
 ⟨2, (some 3), .mv (.con (.bool false)), none, []⟩])
 (.ret))
 (.skip)))
 (.reg [⟨0, (some 73), .mv (.tmp 9), none, []⟩,
 ⟨1, (some 74), .idxA none 1 (.tmp 73) (.con (.int .i64 0)), none, []⟩,
 ⟨2, (some 75), .load none (.tmp 74), none, []⟩,
 ⟨3, (some 76), .load none (.tmp 5), none, []⟩,
 ⟨4, (some 77), .slice none 1 (.tmp 76) (some (.con (.int .i64 2))) none none, none, []⟩,
 ⟨5, (some 78), .fieldA 1 (.tmp 4), none, []⟩,
 ⟨6, none, .store 1 (.tmp 78) (.tmp 75), none, [(.tmp 5)]⟩,
 ⟨7, none, .store 1 (.tmp 5) (.tmp 77), none, []⟩])))
 (.skip)))
 (.seq (.reg [⟨0, (some 79), .slice (some 25) 3 (.glo 0) none none none, none, []⟩,
 ⟨1, (some 80), .mkfn 122 [] [(.tmp 5)], none, []⟩,
 ⟨2, (some 81), .call 121 [(.tmp 79), (.tmp 80)], none, []⟩,
 ⟨3, (some 11), .mv (.tmp 81), none, []⟩])
 (.seq (.seq (.reg [⟨0, (some 82), .mv (.tmp 11), none, []⟩,
 ⟨1, (some 83), .bin .lss 3 true (.tmp 82) (.con (.int .i64 0)), none, []⟩])
 (.cond (.tmp 83)
 (.seq (.reg [⟨0, (some 84), .load (some 7) (.tmp 4), none, []⟩,
 ⟨1, none, .store 7 (.tmp 2) (.tmp 84), none, []⟩,
 ⟨2, (some 3), .mv (.con (.bool false)), none, []⟩])
 (.ret))
 (.skip)))
 (.seq (.reg [⟨0, (some 85), .mv (.tmp 11), none, []⟩,
 ⟨1, (some 86), .idxA (some 25) 3 (.glo 0) (.tmp 85), none, []⟩,
 ⟨2, (some 87), .load (some 3) (.tmp 86), none, []⟩,
 ⟨3, (some 12), .alloc [(.int .i64 0), (.int .i64 0), (.string ⟨#[]⟩)], none, []⟩,
 ⟨4, none, .store 3 (.tmp 12) (.tmp 87), none, []⟩])
 (.seq (.reg [⟨0, (some 88), .mv (.tmp 11), none, []⟩,
 ⟨1, (some 89), .bin .add 3 true (.tmp 88) (.con (.int .i64 1)), none, []⟩,
 ⟨2, (some 90), .fieldA 0 (.tmp 4), none, []⟩,
 ⟨3, none, .store 1 (.tmp 90) (.tmp 89), none, []⟩])
 (.seq (.seq (.reg [⟨0, (some 91), .mv (.tmp 8), none, []⟩,
 ⟨1, (some 92), .fieldA 0 (.tmp 12), none, []⟩,
 ⟨2, (some 93), .load none (.tmp 92), none, []⟩,
 ⟨3, (some 94), .bin .and 3 true (.tmp 93) (.con (.int .i64 1)), none, []⟩,
 ⟨4, (some 95), .bin .neq 3 true (.tmp 94) (.con (.int .i64 0)), none, []⟩,
 ⟨5, (some 96), .bin .neq 4 false (.tmp 91) (.tmp 95), none, []⟩])
 (.cond (.tmp 96)
 (.seq (.reg [⟨0, (some 97), .load (some 7) (.tmp 4), none, []⟩,
 ⟨1, none, .store 7 (.tmp 2) (.tmp 97), none, []⟩,
 ⟨2, (some 3), .mv (.con (.bool false)), none, []⟩])
 (.ret))
 (.skip)))
 (.seq (.reg [⟨0, (some 13), .mv (.con (.slice none 0 0)), none, []⟩])
 (.seq (.seq (.reg [⟨0, (some 98), .fieldA 2 (.tmp 4), none, []⟩,
 ⟨1, (some 99), .fieldA 3 (.tmp 4), none, []⟩,
 ⟨2, (some 100), .fieldA 4 (.tmp 4), none, []⟩,
 ⟨3, (some 101), .build [(.pointer none), (.pointer none), (.pointer none)] [(0, 1, (.tmp 98)), (1, 1, (.tmp 99)), (2, 1, (.tmp 100))], none, []⟩,
 ⟨4, (some 102), .mv (.con (.int .i64 0)), none, []⟩])
 (.block 0
 (.loop
 (.seq (.reg [⟨0, (some 103), .bin .lss 3 true (.tmp 102) (.con (.int .i64 3)), none, []⟩])
 (.seq (.cond (.tmp 103)
 (.skip)
 (.exit 0))
 (.seq (.block 1
 (.seq (.reg [⟨0, (some 104), .mv (.tmp 102), none, []⟩,
 ⟨1, (some 105), .idx 3 none 1 (.tmp 101) (.tmp 102), none, []⟩,
 ⟨2, (some 14), .mv (.tmp 104), none, []⟩,
 ⟨3, (some 15), .mv (.tmp 105), none, []⟩])
 (.seq (.reg [⟨0, (some 106), .fieldA 0 (.tmp 12), none, []⟩,
 ⟨1, (some 107), .load none (.tmp 106), none, []⟩,
 ⟨2, (some 108), .mv (.tmp 14), none, []⟩,
 ⟨3, (some 109), .bin .shl 3 true (.con (.int .i64 2)) (.tmp 108), none, []⟩,
 ⟨4, (some 110), .bin .and 3 false (.tmp 107) (.tmp 109), none, []⟩,
 ⟨5, (some 111), .bin .neq 3 true (.tmp 110) (.con (.int .i64 0)), none, []⟩])
 (.cond (.tmp 111)
 (.reg [⟨0, (some 112), .mv (.tmp 13), none, []⟩,
 ⟨1, (some 113), .mv (.tmp 15), none, []⟩,
 ⟨2, (some 114), .bslice 1 1 [(.pointer none)] [(0, 1, (.tmp 113))], none, []⟩,
 ⟨3, (some 115), .append 1 8 (.tmp 112) (.tmp 114), none, []⟩,
 ⟨4, (some 13), .mv (.tmp 115), none, []⟩])
 (.skip)))))
 (.reg [⟨0, (some 116), .bin .add 3 true (.tmp 102) (.con (.int .i64 1)), none, []⟩,
 ⟨1, (some 102), .mv (.tmp 116), none, []⟩])))))))
 (.seq (.reg [⟨0, (some 117), .mv (.tmp 13), none, []⟩,
 ⟨1, (some 118), .len (.tmp 117), none, []⟩,
 ⟨2, (some 16), .mv (.tmp 118), none, []⟩])
 (.seq (.seq (.reg [⟨0, (some 119), .fieldA 0 (.tmp 12), none, []⟩,
 ⟨1, (some 120), .load none (.tmp 119), none, []⟩,
 ⟨2, (some 121), .bin .and 3 true (.tmp 120) (.con (.int .i64 240)), none, []⟩,
 ⟨3, (some 122), .bin .neq 3 true (.tmp 121) (.con (.int .i64 0)), none, []⟩])
 (.cond (.tmp 122)
 (.reg [⟨0, (some 123), .mv (.tmp 16), none, []⟩,
 ⟨1, (some 124), .bin .add 3 true (.tmp 123) (.con (.int .i64 1)), none, []⟩,
 ⟨2, (some 16), .mv (.tmp 124), none, []⟩])
 (.skip)))
 (.seq (.reg [⟨0, (some 126), .load none (.tmp 5), none, []⟩,
 ⟨1, (some 127), .slice none 1 (.tmp 126) (some (.con (.int .i64 1))) none none, none, []⟩,
 ⟨2, (some 128), .mv (.tmp 16), none, []⟩,
 ⟨3, (some 129), .call 98 [(.tmp 127), (.tmp 128)], none, []⟩,
 ⟨4, (some 125), .mv (.tmp 129), none, []⟩,
 ⟨5, (some 130), .ext (.tmp 125) 0, none, []⟩,
 ⟨6, (some 131), .ext (.tmp 125) 1, none, []⟩,
 ⟨7, (some 17), .mv (.tmp 130), none, []⟩,
 ⟨8, (some 18), .mv (.tmp 131), none, []⟩])
 (.seq (.seq (.reg [⟨0, (some 132), .mv (.tmp 18), none, []⟩,
 ⟨1, (some 133), .un .not (.tmp 132), none, []⟩])
 (.cond (.tmp 133)
 (.seq (.reg [⟨0, (some 134), .load (some 7) (.tmp 4), none, []⟩,
 ⟨1, none, .store 7 (.tmp 2) (.tmp 134), none, []⟩,
 ⟨2, (some 3), .mv (.con (.bool false)), none, []⟩])
 (.ret))
 (.skip)))
 (.seq (.seq (.reg [⟨0, (some 135), .mv (.tmp 13), none, []⟩,
 ⟨1, (some 136), .len (.tmp 135), none, []⟩,
 ⟨2, (some 137), .mv (.con (.int .i64 0)), none, []⟩])
 (.block 2
 (.loop
 (.seq (.reg [⟨0, (some 138), .bin .lss 3 false (.tmp 137) (.tmp 136), none, []⟩])
 (.seq (.cond (.tmp 138)
 (.skip)
 (.exit 2))
 (.seq (.block 3
 (.seq (.reg [⟨0, (some 139), .mv (.tmp 137), none, []⟩,
 ⟨1, (some 140), .idxA none 1 (.tmp 135) (.tmp 137), none, []⟩,
 ⟨2, (some 141), .load none (.tmp 140), none, []⟩,
 ⟨3, (some 19), .mv (.tmp 139), none, []⟩,
 ⟨4, (some 20), .mv (.tmp 141), none, []⟩])
 (.reg [⟨0, (some 142), .mv (.tmp 20), none, []⟩,
 ⟨1, (some 143), .mv (.tmp 17), none, []⟩,
 ⟨2, (some 144), .mv (.tmp 19), none, []⟩,
 ⟨3, (some 145), .idxA none 1 (.tmp 143) (.tmp 144), none, []⟩,
 ⟨4, (some 146), .load none (.tmp 145), none, []⟩,
 ⟨5, (some 147), .nilck (.tmp 142), none, []⟩,
 ⟨6, none, .store 1 (.tmp 147) (.tmp 146), none, []⟩])))
 (.reg [⟨0, (some 148), .bin .add 3 true (.tmp 137) (.con (.int .i64 1)), none, []⟩,
 ⟨1, (some 137), .mv (.tmp 148), none, []⟩])))))))
 (.seq (.seq (.reg [⟨0, (some 149), .mv (.tmp 16), none, []⟩,
 ⟨1, (some 150), .mv (.tmp 13), none, []⟩,
 ⟨2, (some 151), .len (.tmp 150), none, []⟩,
 ⟨3, (some 152), .bin .gtr 3 false (.tmp 149) (.tmp 151), none, []⟩])
 (.cond (.tmp 152)
 (.reg [⟨0, (some 153), .mv (.tmp 17), none, []⟩,
 ⟨1, (some 154), .mv (.tmp 16), none, []⟩,
 ⟨2, (some 155), .bin .sub 3 true (.tmp 154) (.con (.int .i64 1)), none, []⟩,
 ⟨3, (some 156), .idxA none 1 (.tmp 153) (.tmp 155), none, []⟩,
 ⟨4, (some 157), .load none (.tmp 156), none, []⟩,
 ⟨5, (some 158), .fieldA 5 (.tmp 4), none, []⟩,
 ⟨6, none, .store 1 (.tmp 158) (.tmp 157), none, []⟩])
 (.skip)))
 (.seq (.reg [⟨0, (some 159), .load (some 7) (.tmp 4), none, []⟩,
 ⟨1, none, .store 7 (.tmp 2) (.tmp 159), none, []⟩,
 ⟨2, (some 3), .mv (.con (.bool true)), none, []⟩])
 (.ret)))))))))))))))))))),
 [.cell 2 (some 7), .tmp 3]⟩
theorem p_code_readOp : prepFun Go.Proofs.Tryz.prog [1, 0, 2, 3] Go.Proofs.Tryz.f101 = some v_code_readOp := by kernel_rfl

end Go.VX.Seat
end
section
set_option maxRecDepth 20000
/-! MADE BY PROGRAM (lits.py): functions as they are prepared. -/
namespace Go.VX.Seat
def v_strings_explode : VFun :=
⟨.seq (.reg [⟨0, (some 4), .mv (.con (.slice none 0 0)), none, []⟩])
 (.seq (.reg [⟨0, (some 10), .mv (.tmp 0), none, []⟩,
 ⟨1, (some 11), .call 123 [(.tmp 10)], none, []⟩,
 ⟨2, (some 5), .mv (.tmp 11), none, []⟩])
 (.seq (.seq (.reg [⟨0, (some 12), .mv (.tmp 1), none, []⟩,
 ⟨1, (some 13), .bin .lss 3 true (.tmp 12) (.con (.int .i64 0)), none, []⟩,
 ⟨2, (some 14), .mv (.tmp 13), none, []⟩,
 ⟨3, (some 15), .mv (.tmp 1), (some (14, false)), []⟩,
 ⟨4, (some 16), .mv (.tmp 5), (some (14, false)), []⟩,
 ⟨5, (some 17), .bin .gtr 3 false (.tmp 15) (.tmp 16), (some (14, false)), []⟩,
 ⟨6, (some 18), .pick (.tmp 14) (.con (.bool true)) (.tmp 17), none, []⟩])
 (.cond (.tmp 18)
 (.reg [⟨0, (some 19), .mv (.tmp 5), none, []⟩,
 ⟨1, (some 1), .mv (.tmp 19), none, []⟩])
 (.skip)))
 (.seq (.reg [⟨0, (some 20), .mv (.tmp 1), none, []⟩,
 ⟨1, (some 21), .mksl 1 16 [(.string ⟨#[]⟩)] (.tmp 20) (.tmp 20), none, []⟩,
 ⟨2, (some 6), .mv (.tmp 21), none, []⟩])
 (.seq (.seq (.reg [⟨0, (some 7), .mv (.con (.int .i64 0)), none, []⟩])
 (.block 0
 (.loop
 (.seq (.seq (.reg [⟨0, (some 22), .mv (.tmp 7), none, []⟩,
 ⟨1, (some 23), .mv (.tmp 1), none, []⟩,
 ⟨2, (some 24), .bin .sub 3 true (.tmp 23) (.con (.int .i64 1)), none, []⟩,
 ⟨3, (some 25), .bin .lss 3 false (.tmp 22) (.tmp 24), none, []⟩])
 (.cond (.tmp 25)
 (.skip)
 (.exit 0)))
 (.seq (.block 1
 (.seq (.reg [⟨0, (some 29), .mv (.tmp 0), none, []⟩,
 ⟨1, (some 30), .call 124 [(.tmp 29)], none, []⟩,
 ⟨2, (some 28), .mv (.tmp 30), none, []⟩,
 ⟨3, (some 31), .ext (.tmp 28) 0, none, []⟩,
 ⟨4, (some 32), .ext (.tmp 28) 1, none, []⟩,
 ⟨5, (some 8), .mv (.tmp 31), none, []⟩,
 ⟨6, (some 9), .mv (.tmp 32), none, []⟩])
 (.seq (.reg [⟨0, (some 33), .mv (.tmp 6), none, []⟩,
 ⟨1, (some 34), .mv (.tmp 7), none, []⟩,
 ⟨2, (some 35), .mv (.tmp 0), none, []⟩,
 ⟨3, (some 36), .mv (.tmp 9), none, []⟩,
 ⟨4, (some 37), .slS 9 (.tmp 35) none (some (.tmp 36)), none, []⟩,
 ⟨5, (some 38), .idxA none 1 (.tmp 33) (.tmp 34), none, []⟩,
 ⟨6, none, .store 1 (.tmp 38) (.tmp 37), none, []⟩])
 (.reg [⟨0, (some 39), .mv (.tmp 0), none, []⟩,
 ⟨1, (some 40), .mv (.tmp 9), none, []⟩,
 ⟨2, (some 41), .slS 9 (.tmp 39) (some (.tmp 40)) none, none, []⟩,
 ⟨3, (some 0), .mv (.tmp 41), none, []⟩]))))
 (.reg [⟨0, (some 26), .mv (.tmp 7), none, []⟩,
 ⟨1, (some 27), .bin .add 3 true (.tmp 26) (.con (.int .i64 1)), none, []⟩,
 ⟨2, (some 7), .mv (.tmp 27), none, []⟩]))))))
 (.seq (.seq (.reg [⟨0, (some 42), .mv (.tmp 1), none, []⟩,
 ⟨1, (some 43), .bin .gtr 3 true (.tmp 42) (.con (.int .i64 0)), none, []⟩])
 (.cond (.tmp 43)
 (.reg [⟨0, (some 44), .mv (.tmp 6), none, []⟩,
 ⟨1, (some 45), .mv (.tmp 1), none, []⟩,
 ⟨2, (some 46), .bin .sub 3 true (.tmp 45) (.con (.int .i64 1)), none, []⟩,
 ⟨3, (some 47), .mv (.tmp 0), none, []⟩,
 ⟨4, (some 48), .idxA none 1 (.tmp 44) (.tmp 46), none, []⟩,
 ⟨5, none, .store 1 (.tmp 48) (.tmp 47), none, []⟩])
 (.skip)))
 (.seq (.reg [⟨0, (some 49), .mv (.tmp 6), none, []⟩,
 ⟨1, (some 4), .mv (.tmp 49), none, []⟩])
 (.ret))))))),
 [.tmp 4]⟩
theorem p_strings_explode : prepFun Go.Proofs.Tryz.prog [1, 0, 2, 3] Go.Proofs.Tryz.f102 = some v_strings_explode := by kernel_rfl

def v_strings_Count : VFun :=
⟨.seq (.reg [⟨0, (some 4), .mv (.con (.int .i64 0)), none, []⟩])
 (.seq (.seq (.reg [⟨0, (some 7), .mv (.tmp 1), none, []⟩,
 ⟨1, (some 8), .bi .len [9] 3 [(.tmp 7)], none, []⟩,
 ⟨2, (some 9), .bin .eql 3 true (.tmp 8) (.con (.int .i64 0)), none, []⟩])
 (.cond (.tmp 9)
 (.seq (.reg [⟨0, (some 10), .mv (.tmp 0), none, []⟩,
 ⟨1, (some 11), .call 123 [(.tmp 10)], none, []⟩,
 ⟨2, (some 12), .bin .add 3 true (.tmp 11) (.con (.int .i64 1)), none, []⟩,
 ⟨3, (some 4), .mv (.tmp 12), none, []⟩])
 (.ret))
 (.skip)))
 (.seq (.seq (.reg [⟨0, (some 13), .mv (.tmp 1), none, []⟩,
 ⟨1, (some 14), .bi .len [9] 3 [(.tmp 13)], none, []⟩,
 ⟨2, (some 15), .bin .eql 3 true (.tmp 14) (.con (.int .i64 1)), none, []⟩])
 (.cond (.tmp 15)
 (.seq (.reg [⟨0, (some 16), .mv (.tmp 0), none, []⟩,
 ⟨1, (some 17), .mv (.tmp 1), none, []⟩,
 ⟨2, (some 18), .idxS 9 (.tmp 17) (.con (.int .i64 0)), none, []⟩,
 ⟨3, (some 19), .call 125 [(.tmp 16), (.tmp 18)], none, []⟩,
 ⟨4, (some 4), .mv (.tmp 19), none, []⟩])
 (.ret))
 (.skip)))
 (.seq (.reg [⟨0, (some 5), .mv (.con (.int .i64 0)), none, []⟩])
 (.block 0
 (.loop
 (.block 1
 (.seq (.reg [⟨0, (some 20), .mv (.tmp 0), none, []⟩,
 ⟨1, (some 21), .mv (.tmp 1), none, []⟩,
 ⟨2, (some 22), .call 104 [(.tmp 20), (.tmp 21)], none, []⟩,
 ⟨3, (some 6), .mv (.tmp 22), none, []⟩])
 (.seq (.seq (.reg [⟨0, (some 23), .mv (.tmp 6), none, []⟩,
 ⟨1, (some 24), .bin .eql 3 true (.tmp 23) (.con (.int .i64 (-1))), none, []⟩])
 (.cond (.tmp 24)
 (.seq (.reg [⟨0, (some 25), .mv (.tmp 5), none, []⟩,
 ⟨1, (some 4), .mv (.tmp 25), none, []⟩])
 (.ret))
 (.skip)))
 (.seq (.reg [⟨0, (some 26), .mv (.tmp 5), none, []⟩,
 ⟨1, (some 27), .bin .add 3 true (.tmp 26) (.con (.int .i64 1)), none, []⟩,
 ⟨2, (some 5), .mv (.tmp 27), none, []⟩])
 (.reg [⟨0, (some 28), .mv (.tmp 0), none, []⟩,
 ⟨1, (some 29), .mv (.tmp 6), none, []⟩,
 ⟨2, (some 30), .mv (.tmp 1), none, []⟩,
 ⟨3, (some 31), .bi .len [9] 3 [(.tmp 30)], none, []⟩,
 ⟨4, (some 32), .bin .add 3 false (.tmp 29) (.tmp 31), none, []⟩,
 ⟨5, (some 33), .slS 9 (.tmp 28) (some (.tmp 32)) none, none, []⟩,
 ⟨6, (some 0), .mv (.tmp 33), none, []⟩])))))))))),
 [.tmp 4]⟩
theorem p_strings_Count : prepFun Go.Proofs.Tryz.prog [1, 0, 2, 3] Go.Proofs.Tryz.f103 = some v_strings_Count := by kernel_rfl

def v_strings_Index : VFun :=
⟨.seq (.reg [⟨0, (some 4), .mv (.con (.int .i64 0)), none, []⟩])
 (.seq (.reg [⟨0, (some 5), .mv (.tmp 0), none, []⟩,
 ⟨1, (some 6), .mv (.tmp 1), none, []⟩,
 ⟨2, (some 7), .call 126 [(.tmp 5), (.tmp 6)], none, []⟩,
 ⟨3, (some 4), .mv (.tmp 7), none, []⟩])
 (.ret)),
 [.tmp 4]⟩
theorem p_strings_Index : prepFun Go.Proofs.Tryz.prog [1, 0, 2, 3] Go.Proofs.Tryz.f104 = some v_strings_Index := by kernel_rfl

def v_internal_stringslite_HasPrefix : VFun :=
⟨.seq (.reg [⟨0, (some 4), .mv (.con (.bool false)), none, []⟩])
 (.seq (.reg [⟨0, (some 5), .mv (.tmp 0), none, []⟩,
 ⟨1, (some 6), .bi .len [9] 3 [(.tmp 5)], none, []⟩,
 ⟨2, (some 7), .mv (.tmp 1), none, []⟩,
 ⟨3, (some 8), .bi .len [9] 3 [(.tmp 7)], none, []⟩,
 ⟨4, (some 9), .bin .geq 3 false (.tmp 6) (.tmp 8), none, []⟩,
 ⟨5, (some 10), .mv (.tmp 9), none, []⟩,
 ⟨6, (some 11), .mv (.tmp 0), (some (10, true)), []⟩,
 ⟨7, (some 12), .mv (.tmp 1), (some (10, true)), []⟩,
 ⟨8, (some 13), .bi .len [9] 3 [(.tmp 12)], (some (10, true)), []⟩,
 ⟨9, (some 14), .slS 9 (.tmp 11) none (some (.tmp 13)), (some (10, true)), []⟩,
 ⟨10, (some 15), .mv (.tmp 1), (some (10, true)), []⟩,
 ⟨11, (some 16), .bin .eql 9 false (.tmp 14) (.tmp 15), (some (10, true)), []⟩,
 ⟨12, (some 17), .pick (.tmp 10) (.tmp 16) (.con (.bool false)), none, []⟩,
 ⟨13, (some 4), .mv (.tmp 17), none, []⟩])
 (.ret)),
 [.tmp 4]⟩
theorem p_internal_stringslite_HasPrefix : prepFun Go.Proofs.Tryz.prog [1, 0, 2, 3] Go.Proofs.Tryz.f106 = some v_internal_stringslite_HasPrefix := by kernel_rfl

def v_code_checker_must : VFun :=
⟨.seq (.reg [⟨0, (some 6), .mv (.tmp 1), none, []⟩,
 ⟨1, (some 7), .un .not (.tmp 6), none, []⟩])
 (.cond (.tmp 7)
 (.reg [⟨0, (some 8), .mv (.tmp 0), none, []⟩,
 ⟨1, (some 9), .nilck (.tmp 8), none, []⟩,
 ⟨2, (some 10), .fieldA 6 (.tmp 9), none, []⟩,
 ⟨3, (some 11), .load none (.tmp 10), none, []⟩,
 ⟨4, (some 12), .mv (.tmp 0), none, []⟩,
 ⟨5, (some 13), .nilck (.tmp 12), none, []⟩,
 ⟨6, (some 14), .fieldA 7 (.tmp 13), none, []⟩,
 ⟨7, (some 15), .load none (.tmp 14), none, []⟩,
 ⟨8, (some 16), .mv (.tmp 2), none, []⟩,
 ⟨9, (some 17), .build [(.int .i64 0), (.int .i64 0), (.int .i64 0)] [(0, 1, (.tmp 11)), (1, 1, (.tmp 15)), (2, 1, (.tmp 16))], none, []⟩,
 ⟨10, (some 18), .mkif 103 (.tmp 17), none, []⟩,
 ⟨11, none, .panic (.tmp 18), none, []⟩])
 (.skip)),
 []⟩
theorem p_code_checker_must : prepFun Go.Proofs.Tryz.prog [1, 0, 2, 3] Go.Proofs.Tryz.f108 = some v_code_checker_must := by kernel_rfl

def v_slices_ContainsFunc_int : VFun :=
⟨.seq (.reg [⟨0, (some 4), .mv (.con (.bool false)), none, []⟩])
 (.seq (.reg [⟨0, (some 5), .mv (.tmp 0), none, []⟩,
 ⟨1, (some 6), .mv (.tmp 1), none, []⟩,
 ⟨2, (some 7), .call 127 [(.tmp 5), (.tmp 6)], none, []⟩,
 ⟨3, (some 8), .bin .geq 3 true (.tmp 7) (.con (.int .i64 0)), none, []⟩,
 ⟨4, (some 4), .mv (.tmp 8), none, []⟩])
 (.ret)),
 [.tmp 4]⟩
theorem p_slices_ContainsFunc_int : prepFun Go.Proofs.Tryz.prog [1, 0, 2, 3] Go.Proofs.Tryz.f109 = some v_slices_ContainsFunc_int := by kernel_rfl

def v_code_checker_unit_c1 : VFun :=
⟨.seq (.reg [⟨0, (some 2), .mv (.con (.bool false)), none, []⟩])
 (.seq (.reg [⟨0, (some 3), .mv (.tmp 0), none, []⟩,
 ⟨1, (some 4), .bin .lss 3 true (.tmp 3) (.con (.int .i64 1)), none, []⟩,
 ⟨2, (some 5), .mv (.tmp 4), none, []⟩,
 ⟨3, (some 6), .mv (.tmp 0), (some (5, false)), []⟩,
 ⟨4, (some 7), .bin .gtr 3 true (.tmp 6) (.con (.int .i64 65536)), (some (5, false)), []⟩,
 ⟨5, (some 8), .pick (.tmp 5) (.con (.bool true)) (.tmp 7), none, []⟩,
 ⟨6, (some 2), .mv (.tmp 8), none, []⟩])
 (.ret)),
 [.tmp 2]⟩
theorem p_code_checker_unit_c1 : prepFun Go.Proofs.Tryz.prog [1, 0, 2, 3] Go.Proofs.Tryz.f110 = some v_code_checker_unit_c1 := by kernel_rfl

def v_code_checker_op : VFun :=
⟨.seq (.reg [⟨0, (some 3), .box (.tmp 1), none, []⟩])
 (.seq (.reg [⟨0, (some 9), .fieldA 0 (.tmp 3), none, []⟩,
 ⟨1, (some 10), .load none (.tmp 9), none, []⟩,
 ⟨2, (some 11), .call 55 [(.tmp 10)], none, []⟩,
 ⟨3, (some 8), .mv (.tmp 11), none, []⟩,
 ⟨4, (some 12), .ext (.tmp 8) 0, none, []⟩,
 ⟨5, (some 13), .ext (.tmp 8) 1, none, []⟩,
 ⟨6, (some 4), .alloc [(.int .i64 0), (.int .i64 0), (.string ⟨#[]⟩)], none, []⟩,
 ⟨7, none, .store 3 (.tmp 4) (.tmp 12), none, []⟩,
 ⟨8, (some 5), .mv (.tmp 13), none, []⟩])
 (.seq (.reg [⟨0, (some 14), .mv (.tmp 0), none, []⟩,
 ⟨1, (some 15), .mv (.tmp 5), none, []⟩,
 ⟨2, (some 16), .call 108 [(.tmp 14), (.tmp 15), (.con (.int .i64 4))], none, []⟩])
 (.seq (.reg [⟨0, (some 17), .mv (.tmp 0), none, []⟩,
 ⟨1, (some 18), .fieldA 1 (.tmp 3), none, []⟩,
 ⟨2, (some 19), .load none (.tmp 18), none, []⟩,
 ⟨3, (some 20), .fieldA 0 (.tmp 4), none, []⟩,
 ⟨4, (some 21), .load none (.tmp 20), none, []⟩,
 ⟨5, (some 22), .bin .and 3 true (.tmp 21) (.con (.int .i64 1)), none, []⟩,
 ⟨6, (some 23), .bin .neq 3 true (.tmp 22) (.con (.int .i64 0)), none, []⟩,
 ⟨7, (some 24), .call 128 [(.tmp 17), (.tmp 19), (.tmp 23)], none, []⟩])
 (.seq (.reg [⟨0, (some 25), .mv (.tmp 0), none, []⟩,
 ⟨1, (some 26), .fieldA 2 (.tmp 3), none, []⟩,
 ⟨2, (some 27), .load none (.tmp 26), none, []⟩,
 ⟨3, (some 28), .fieldA 0 (.tmp 4), none, []⟩,
 ⟨4, (some 29), .load none (.tmp 28), none, []⟩,
 ⟨5, (some 30), .bin .and 3 true (.tmp 29) (.con (.int .i64 2)), none, []⟩,
 ⟨6, (some 31), .bin .neq 3 true (.tmp 30) (.con (.int .i64 0)), none, []⟩,
 ⟨7, (some 32), .call 128 [(.tmp 25), (.tmp 27), (.tmp 31)], none, []⟩])
 (.seq (.reg [⟨0, (some 33), .mv (.tmp 0), none, []⟩,
 ⟨1, (some 34), .fieldA 3 (.tmp 3), none, []⟩,
 ⟨2, (some 35), .load none (.tmp 34), none, []⟩,
 ⟨3, (some 36), .fieldA 0 (.tmp 4), none, []⟩,
 ⟨4, (some 37), .load none (.tmp 36), none, []⟩,
 ⟨5, (some 38), .bin .and 3 true (.tmp 37) (.con (.int .i64 4)), none, []⟩,
 ⟨6, (some 39), .bin .neq 3 true (.tmp 38) (.con (.int .i64 0)), none, []⟩,
 ⟨7, (some 40), .call 128 [(.tmp 33), (.tmp 35), (.tmp 39)], none, []⟩])
 (.seq (.reg [⟨0, (some 41), .mv (.tmp 0), none, []⟩,
 ⟨1, (some 42), .fieldA 4 (.tmp 3), none, []⟩,
 ⟨2, (some 43), .load none (.tmp 42), none, []⟩,
 ⟨3, (some 44), .fieldA 0 (.tmp 4), none, []⟩,
 ⟨4, (some 45), .load none (.tmp 44), none, []⟩,
 ⟨5, (some 46), .bin .and 3 true (.tmp 45) (.con (.int .i64 8)), none, []⟩,
 ⟨6, (some 47), .bin .neq 3 true (.tmp 46) (.con (.int .i64 0)), none, []⟩,
 ⟨7, (some 48), .call 128 [(.tmp 41), (.tmp 43), (.tmp 47)], none, []⟩])
 (.seq (.reg [⟨0, (some 49), .mv (.tmp 0), none, []⟩,
 ⟨1, (some 50), .fieldA 6 (.tmp 3), none, []⟩,
 ⟨2, (some 51), .load none (.tmp 50), none, []⟩,
 ⟨3, (some 52), .fieldA 6 (.tmp 3), none, []⟩,
 ⟨4, (some 53), .load none (.tmp 52), none, []⟩,
 ⟨5, (some 54), .bin .neq 3 true (.tmp 53) (.con (.int .i64 (-1))), none, []⟩,
 ⟨6, (some 55), .call 128 [(.tmp 49), (.tmp 51), (.tmp 54)], none, []⟩])
 (.seq (.reg [⟨0, (some 6), .mv (.con (.int .i64 0)), none, []⟩])
 (.seq (.block 0
 (.seq (.reg [⟨0, (some 57), .fieldA 0 (.tmp 4), none, []⟩,
 ⟨1, (some 58), .load none (.tmp 57), none, []⟩,
 ⟨2, (some 59), .bin .and 3 true (.tmp 58) (.con (.int .i64 32)), none, []⟩,
 ⟨3, (some 60), .bin .neq 3 true (.tmp 59) (.con (.int .i64 0)), none, []⟩,
 ⟨4, (some 56), .mv (.tmp 60), none, []⟩])
 (.cond (.tmp 56)
 (.reg [⟨0, (some 61), .mv (.tmp 0), none, []⟩,
 ⟨1, (some 62), .nilck (.tmp 61), none, []⟩,
 ⟨2, (some 63), .fieldA 0 (.tmp 62), none, []⟩,
 ⟨3, (some 64), .fieldA 0 (.tmp 63), none, []⟩,
 ⟨4, (some 65), .load none (.tmp 64), none, []⟩,
 ⟨5, (some 66), .len (.tmp 65), none, []⟩,
 ⟨6, (some 6), .mv (.tmp 66), none, []⟩])
 (.seq (.reg [⟨0, (some 68), .fieldA 0 (.tmp 4), none, []⟩,
 ⟨1, (some 69), .load none (.tmp 68), none, []⟩,
 ⟨2, (some 70), .bin .and 3 true (.tmp 69) (.con (.int .i64 64)), none, []⟩,
 ⟨3, (some 71), .bin .neq 3 true (.tmp 70) (.con (.int .i64 0)), none, []⟩,
 ⟨4, (some 67), .mv (.tmp 71), none, []⟩])
 (.cond (.tmp 67)
 (.reg [⟨0, (some 72), .mv (.tmp 0), none, []⟩,
 ⟨1, (some 73), .nilck (.tmp 72), none, []⟩,
 ⟨2, (some 74), .fieldA 0 (.tmp 73), none, []⟩,
 ⟨3, (some 75), .fieldA 4 (.tmp 74), none, []⟩,
 ⟨4, (some 76), .load none (.tmp 75), none, []⟩,
 ⟨5, (some 6), .mv (.tmp 76), none, []⟩])
 (.seq (.reg [⟨0, (some 78), .fieldA 0 (.tmp 4), none, []⟩,
 ⟨1, (some 79), .load none (.tmp 78), none, []⟩,
 ⟨2, (some 80), .bin .and 3 true (.tmp 79) (.con (.int .i64 128)), none, []⟩,
 ⟨3, (some 81), .bin .neq 3 true (.tmp 80) (.con (.int .i64 0)), none, []⟩,
 ⟨4, (some 77), .mv (.tmp 81), none, []⟩])
 (.cond (.tmp 77)
 (.reg [⟨0, (some 82), .mv (.tmp 0), none, []⟩,
 ⟨1, (some 83), .nilck (.tmp 82), none, []⟩,
 ⟨2, (some 84), .fieldA 0 (.tmp 83), none, []⟩,
 ⟨3, (some 85), .fieldA 5 (.tmp 84), none, []⟩,
 ⟨4, (some 86), .load none (.tmp 85), none, []⟩,
 ⟨5, (some 87), .len (.tmp 86), none, []⟩,
 ⟨6, (some 6), .mv (.tmp 87), none, []⟩])
 (.reg [⟨0, (some 6), .mv (.con (.int .i64 (-1))), none, []⟩]))))))))
 (.seq (.reg [⟨0, (some 88), .mv (.tmp 0), none, []⟩,
 ⟨1, (some 89), .mv (.tmp 6), none, []⟩,
 ⟨2, (some 90), .bin .lss 2 true (.tmp 89) (.con (.int .i64 0)), none, []⟩,
 ⟨3, (some 91), .mv (.tmp 90), none, []⟩,
 ⟨4, (some 92), .fieldA 5 (.tmp 3), (some (91, false)), []⟩,
 ⟨5, (some 93), .load none (.tmp 92), (some (91, false)), []⟩,
 ⟨6, (some 94), .bin .geq 2 true (.tmp 93) (.con (.int .i64 0)), (some (91, false)), []⟩,
 ⟨7, (some 95), .mv (.tmp 94), (some (91, false)), []⟩,
 ⟨8, (some 96), .fieldA 5 (.tmp 3), (some (95, true)), []⟩,
 ⟨9, (some 97), .load none (.tmp 96), (some (95, true)), []⟩,
 ⟨10, (some 98), .mv (.tmp 6), (some (95, true)), []⟩,
 ⟨11, (some 99), .bin .lss 2 false (.tmp 97) (.tmp 98), (some (95, true)), []⟩,
 ⟨12, (some 100), .pick (.tmp 95) (.tmp 99) (.con (.bool false)), (some (91, false)), []⟩,
 ⟨13, (some 101), .pick (.tmp 91) (.con (.bool true)) (.tmp 100), none, []⟩,
 ⟨14, (some 102), .call 108 [(.tmp 88), (.tmp 101), (.con (.int .i64 5))], none, []⟩])
 (.seq (.reg [⟨0, (some 103), .fieldA 0 (.tmp 4), none, []⟩,
 ⟨1, (some 104), .load none (.tmp 103), none, []⟩,
 ⟨2, (some 105), .bin .and 3 true (.tmp 104) (.con (.int .i64 1)), none, []⟩,
 ⟨3, (some 106), .bin .eql 3 true (.tmp 105) (.con (.int .i64 0)), none, []⟩,
 ⟨4, (some 107), .mv (.tmp 106), none, []⟩,
 ⟨5, (some 108), .fieldA 1 (.tmp 3), (some (107, true)), []⟩,
 ⟨6, (some 109), .load none (.tmp 108), (some (107, true)), []⟩,
 ⟨7, (some 110), .bin .neq 3 true (.tmp 109) (.con (.int .i64 0)), (some (107, true)), []⟩,
 ⟨8, (some 111), .pick (.tmp 107) (.tmp 110) (.con (.bool false)), none, []⟩,
 ⟨9, (some 112), .mv (.tmp 111), none, []⟩,
 ⟨10, (some 113), .fieldA 0 (.tmp 4), (some (112, false)), []⟩,
 ⟨11, (some 114), .load none (.tmp 113), (some (112, false)), []⟩,
 ⟨12, (some 115), .bin .and 3 true (.tmp 114) (.con (.int .i64 2)), (some (112, false)), []⟩,
 ⟨13, (some 116), .bin .eql 3 true (.tmp 115) (.con (.int .i64 0)), (some (112, false)), []⟩,
 ⟨14, (some 117), .mv (.tmp 116), (some (112, false)), []⟩,
 ⟨15, (some 118), .fieldA 2 (.tmp 3), (some (117, true)), []⟩,
 ⟨16, (some 119), .load none (.tmp 118), (some (117, true)), []⟩,
 ⟨17, (some 120), .bin .neq 3 true (.tmp 119) (.con (.int .i64 0)), (some (117, true)), []⟩,
 ⟨18, (some 121), .pick (.tmp 117) (.tmp 120) (.con (.bool false)), (some (112, false)), []⟩,
 ⟨19, (some 122), .pick (.tmp 112) (.con (.bool true)) (.tmp 121), none, []⟩,
 ⟨20, (some 123), .mv (.tmp 122), none, []⟩,
 ⟨21, (some 124), .fieldA 0 (.tmp 4), (some (123, false)), []⟩,
 ⟨22, (some 125), .load none (.tmp 124), (some (123, false)), []⟩,
 ⟨23, (some 126), .bin .and 3 true (.tmp 125) (.con (.int .i64 4)), (some (123, false)), []⟩,
 ⟨24, (some 127), .bin .eql 3 true (.tmp 126) (.con (.int .i64 0)), (some (123, false)), []⟩,
 ⟨25, (some 128), .mv (.tmp 127), (some (123, false)), []⟩,
 ⟨26, (some 129), .fieldA 3 (.tmp 3), (some (128, true)), []⟩,
 ⟨27, (some 130), .load none (.tmp 129), (some (128, true)), []⟩,
 ⟨28, (some 131), .bin .neq 3 true (.tmp 130) (.con (.int .i64 0)), (some (128, true)), []⟩,
 ⟨29, (some 132), .pick (.tmp 128) (.tmp 131) (.con (.bool false)), (some (123, false)), []⟩,
 ⟨30, (some 133), .pick (.tmp 123) (.con (.bool true)) (.tmp 132), none, []⟩,
 ⟨31, (some 134), .mv (.tmp 133), none, []⟩,
 ⟨32, (some 135), .fieldA 0 (.tmp 4), (some (134, false)), []⟩,
 ⟨33, (some 136), .load none (.tmp 135), (some (134, false)), []⟩,
 ⟨34, (some 137), .bin .and 3 true (.tmp 136) (.con (.int .i64 8)), (some (134, false)), []⟩,
 ⟨35, (some 138), .bin .eql 3 true (.tmp 137) (.con (.int .i64 0)), (some (134, false)), []⟩,
 ⟨36, (some 139), .mv (.tmp 138), (some (134, false)), []⟩,
 ⟨37, (some 140), .fieldA 4 (.tmp 3), (some (139, true)), []⟩,
 ⟨38, (some 141), .load none (.tmp 140), (some (139, true)), []⟩,
 ⟨39, (some 142), .bin .neq 3 true (.tmp 141) (.con (.int .i64 0)), (some (139, true)), []⟩,
 ⟨40, (some 143), .pick (.tmp 139) (.tmp 142) (.con (.bool false)), (some (134, false)), []⟩,
 ⟨41, (some 144), .pick (.tmp 134) (.con (.bool true)) (.tmp 143), none, []⟩,
 ⟨42, (some 145), .mv (.tmp 144), none, []⟩,
 ⟨43, (some 146), .mv (.tmp 6), (some (145, false)), []⟩,
 ⟨44, (some 147), .bin .lss 2 true (.tmp 146) (.con (.int .i64 0)), (some (145, false)), []⟩,
 ⟨45, (some 148), .mv (.tmp 147), (some (145, false)), []⟩,
 ⟨46, (some 149), .fieldA 0 (.tmp 4), (some (148, true)), []⟩,
 ⟨47, (some 150), .load none (.tmp 149), (some (148, true)), []⟩,
 ⟨48, (some 151), .bin .and 3 true (.tmp 150) (.con (.int .i64 16)), (some (148, true)), []⟩,
 ⟨49, (some 152), .bin .eql 3 true (.tmp 151) (.con (.int .i64 0)), (some (148, true)), []⟩,
 ⟨50, (some 153), .pick (.tmp 148) (.tmp 152) (.con (.bool false)), (some (145, false)), []⟩,
 ⟨51, (some 154), .mv (.tmp 153), (some (145, false)), []⟩,
 ⟨52, (some 155), .fieldA 5 (.tmp 3), (some (154, true)), []⟩,
 ⟨53, (some 156), .load none (.tmp 155), (some (154, true)), []⟩,
 ⟨54, (some 157), .bin .neq 2 true (.tmp 156) (.con (.int .i64 0)), (some (154, true)), []⟩,
 ⟨55, (some 158), .pick (.tmp 154) (.tmp 157) (.con (.bool false)), (some (145, false)), []⟩,
 ⟨56, (some 159), .pick (.tmp 145) (.con (.bool true)) (.tmp 158), none, []⟩,
 ⟨57, (some 7), .mv (.tmp 159), none, []⟩])
 (.reg [⟨0, (some 160), .mv (.tmp 0), none, []⟩,
 ⟨1, (some 161), .mv (.tmp 7), none, []⟩,
 ⟨2, (some 162), .un .not (.tmp 161), none, []⟩,
 ⟨3, (some 163), .call 108 [(.tmp 160), (.tmp 162), (.con (.int .i64 4))], none, []⟩])))))))))))),
 []⟩
theorem p_code_checker_op : prepFun Go.Proofs.Tryz.prog [1, 0, 2, 3] Go.Proofs.Tryz.f111 = some v_code_checker_op := by kernel_rfl

def v_code_checker_end : VFun :=
⟨.seq (.reg [⟨0, (some 3), .box (.tmp 1), none, []⟩])
 (.seq (.reg [⟨0, (some 6), .mv (.tmp 0), none, []⟩,
 ⟨1, (some 7), .fieldA 0 (.tmp 3), none, []⟩,
 ⟨2, (some 8), .load none (.tmp 7), none, []⟩,
 ⟨3, (some 9), .bin .geq 3 true (.tmp 8) (.con (.int .i64 1)), none, []⟩,
 ⟨4, (some 10), .mv (.tmp 9), none, []⟩,
 ⟨5, (some 11), .fieldA 0 (.tmp 3), (some (10, true)), []⟩,
 ⟨6, (some 12), .load none (.tmp 11), (some (10, true)), []⟩,
 ⟨7, (some 13), .bin .leq 3 true (.tmp 12) (.con (.int .i64 4)), (some (10, true)), []⟩,
 ⟨8, (some 14), .pick (.tmp 10) (.tmp 13) (.con (.bool false)), none, []⟩,
 ⟨9, (some 15), .call 108 [(.tmp 6), (.tmp 14), (.con (.int .i64 4))], none, []⟩])
 (.seq (.reg [⟨0, (some 16), .fieldA 0 (.tmp 3), none, []⟩,
 ⟨1, (some 17), .load none (.tmp 16), none, []⟩,
 ⟨2, (some 18), .bin .eql 3 true (.tmp 17) (.con (.int .i64 1)), none, []⟩,
 ⟨3, (some 19), .mv (.tmp 18), none, []⟩,
 ⟨4, (some 20), .fieldA 0 (.tmp 3), (some (19, false)), []⟩,
 ⟨5, (some 21), .load none (.tmp 20), (some (19, false)), []⟩,
 ⟨6, (some 22), .bin .eql 3 true (.tmp 21) (.con (.int .i64 2)), (some (19, false)), []⟩,
 ⟨7, (some 23), .pick (.tmp 19) (.con (.bool true)) (.tmp 22), none, []⟩,
 ⟨8, (some 24), .fieldA 0 (.tmp 3), none, []⟩,
 ⟨9, (some 25), .load none (.tmp 24), none, []⟩,
 ⟨10, (some 26), .bin .eql 3 true (.tmp 25) (.con (.int .i64 2)), none, []⟩,
 ⟨11, (some 4), .mv (.tmp 23), none, [(.tmp 24)]⟩,
 ⟨12, (some 5), .mv (.tmp 26), none, []⟩])
 (.seq (.reg [⟨0, (some 27), .mv (.tmp 0), none, []⟩,
 ⟨1, (some 28), .fieldA 1 (.tmp 3), none, []⟩,
 ⟨2, (some 29), .load none (.tmp 28), none, []⟩,
 ⟨3, (some 30), .fieldA 0 (.tmp 3), none, []⟩,
 ⟨4, (some 31), .load none (.tmp 30), none, []⟩,
 ⟨5, (some 32), .bin .neq 3 true (.tmp 31) (.con (.int .i64 1)), none, []⟩,
 ⟨6, (some 33), .call 128 [(.tmp 27), (.tmp 29), (.tmp 32)], none, []⟩])
 (.seq (.reg [⟨0, (some 34), .mv (.tmp 0), none, []⟩,
 ⟨1, (some 35), .mv (.tmp 4), none, []⟩,
 ⟨2, (some 36), .un .not (.tmp 35), none, []⟩,
 ⟨3, (some 37), .mv (.tmp 36), none, []⟩,
 ⟨4, (some 38), .fieldA 2 (.tmp 3), (some (37, false)), []⟩,
 ⟨5, (some 39), .load none (.tmp 38), (some (37, false)), []⟩,
 ⟨6, (some 40), .mv (.tmp 0), (some (37, false)), []⟩,
 ⟨7, (some 41), .nilck (.tmp 40), (some (37, false)), []⟩,
 ⟨8, (some 42), .fieldA 0 (.tmp 41), (some (37, false)), []⟩,
 ⟨9, (some 43), .fieldA 5 (.tmp 42), (some (37, false)), []⟩,
 ⟨10, (some 44), .load none (.tmp 43), (some (37, false)), []⟩,
 ⟨11, (some 45), .len (.tmp 44), (some (37, false)), []⟩,
 ⟨12, (some 46), .call 67 [(.tmp 39), (.tmp 45)], (some (37, false)), []⟩,
 ⟨13, (some 47), .pick (.tmp 37) (.con (.bool true)) (.tmp 46), none, []⟩,
 ⟨14, (some 48), .call 108 [(.tmp 34), (.tmp 47), (.con (.int .i64 5))], none, []⟩])
 (.seq (.reg [⟨0, (some 49), .mv (.tmp 0), none, []⟩,
 ⟨1, (some 50), .mv (.tmp 5), none, []⟩,
 ⟨2, (some 51), .un .not (.tmp 50), none, []⟩,
 ⟨3, (some 52), .mv (.tmp 51), none, []⟩,
 ⟨4, (some 53), .fieldA 3 (.tmp 3), (some (52, false)), []⟩,
 ⟨5, (some 54), .load none (.tmp 53), (some (52, false)), []⟩,
 ⟨6, (some 55), .mv (.tmp 0), (some (52, false)), []⟩,
 ⟨7, (some 56), .nilck (.tmp 55), (some (52, false)), []⟩,
 ⟨8, (some 57), .fieldA 0 (.tmp 56), (some (52, false)), []⟩,
 ⟨9, (some 58), .fieldA 5 (.tmp 57), (some (52, false)), []⟩,
 ⟨10, (some 59), .load none (.tmp 58), (some (52, false)), []⟩,
 ⟨11, (some 60), .len (.tmp 59), (some (52, false)), []⟩,
 ⟨12, (some 61), .call 67 [(.tmp 54), (.tmp 60)], (some (52, false)), []⟩,
 ⟨13, (some 62), .pick (.tmp 52) (.con (.bool true)) (.tmp 61), none, []⟩,
 ⟨14, (some 63), .call 108 [(.tmp 49), (.tmp 62), (.con (.int .i64 5))], none, []⟩])
 (.reg [⟨0, (some 64), .mv (.tmp 0), none, []⟩,
 ⟨1, (some 65), .fieldA 0 (.tmp 3), none, []⟩,
 ⟨2, (some 66), .load none (.tmp 65), none, []⟩,
 ⟨3, (some 67), .bin .neq 3 true (.tmp 66) (.con (.int .i64 1)), none, []⟩,
 ⟨4, (some 68), .mv (.tmp 67), none, []⟩,
 ⟨5, (some 69), .fieldA 1 (.tmp 3), (some (68, false)), []⟩,
 ⟨6, (some 70), .load none (.tmp 69), (some (68, false)), []⟩,
 ⟨7, (some 71), .bin .eql 3 true (.tmp 70) (.con (.int .i64 0)), (some (68, false)), []⟩,
 ⟨8, (some 72), .pick (.tmp 68) (.con (.bool true)) (.tmp 71), none, []⟩,
 ⟨9, (some 73), .mv (.tmp 72), none, []⟩,
 ⟨10, (some 74), .mv (.tmp 4), (some (73, true)), []⟩,
 ⟨11, (some 75), .mv (.tmp 74), (some (73, true)), []⟩,
 ⟨12, (some 76), .fieldA 2 (.tmp 3), (some (75, false)), []⟩,
 ⟨13, (some 77), .load none (.tmp 76), (some (75, false)), []⟩,
 ⟨14, (some 78), .bin .eql 3 true (.tmp 77) (.con (.int .i64 0)), (some (75, false)), []⟩,
 ⟨15, (some 79), .pick (.tmp 75) (.con (.bool true)) (.tmp 78), (some (73, true)), []⟩,
 ⟨16, (some 80), .pick (.tmp 73) (.tmp 79) (.con (.bool false)), none, []⟩,
 ⟨17, (some 81), .mv (.tmp 80), none, []⟩,
 ⟨18, (some 82), .mv (.tmp 5), (some (81, true)), []⟩,
 ⟨19, (some 83), .mv (.tmp 82), (some (81, true)), []⟩,
 ⟨20, (some 84), .fieldA 3 (.tmp 3), (some (83, false)), []⟩,
 ⟨21, (some 85), .load none (.tmp 84), (some (83, false)), []⟩,
 ⟨22, (some 86), .bin .eql 3 true (.tmp 85) (.con (.int .i64 0)), (some (83, false)), []⟩,
 ⟨23, (some 87), .pick (.tmp 83) (.con (.bool true)) (.tmp 86), (some (81, true)), []⟩,
 ⟨24, (some 88), .pick (.tmp 81) (.tmp 87) (.con (.bool false)), none, []⟩,
 ⟨25, (some 89), .call 108 [(.tmp 64), (.tmp 88), (.con (.int .i64 4))], none, []⟩])))))),
 []⟩
theorem p_code_checker_end : prepFun Go.Proofs.Tryz.prog [1, 0, 2, 3] Go.Proofs.Tryz.f112 = some v_code_checker_end := by kernel_rfl

def v_internal_strconv_small : VFun :=
⟨.seq (.reg [⟨0, (some 2), .mv (.con (.string ⟨#[]⟩)), none, []⟩])
 (.seq (.seq (.reg [⟨0, (some 3), .mv (.tmp 0), none, []⟩,
 ⟨1, (some 4), .bin .lss 3 true (.tmp 3) (.con (.int .i64 10)), none, []⟩])
 (.cond (.tmp 4)
 (.seq (.reg [⟨0, (some 5), .mv (.tmp 0), none, []⟩,
 ⟨1, (some 6), .mv (.tmp 0), none, []⟩,
 ⟨2, (some 7), .bin .add 3 true (.tmp 6) (.con (.int .i64 1)), none, []⟩,
 ⟨3, (some 8), .slS 9 (.con (.string ⟨#[48, 49, 50, 51, 52, 53, 54, 55, 56, 57, 97, 98, 99, 100, 101, 102, 103, 104, 105, 106, 107, 108, 109, 110, 111, 112, 113, 114, 115, 116, 117, 118, 119, 120, 121, 122]⟩)) (some (.tmp 5)) (some (.tmp 7)), none, []⟩,
 ⟨4, (some 2), .mv (.tmp 8), none, []⟩])
 (.ret))
 (.skip)))
 (.seq (.reg [⟨0, (some 9), .mv (.tmp 0), none, []⟩,
 ⟨1, (some 10), .bin .mul 3 true (.tmp 9) (.con (.int .i64 2)), none, []⟩,
 ⟨2, (some 11), .mv (.tmp 0), none, []⟩,
 ⟨3, (some 12), .bin .mul 3 true (.tmp 11) (.con (.int .i64 2)), none, []⟩,
 ⟨4, (some 13), .bin .add 3 true (.tmp 12) (.con (.int .i64 2)), none, []⟩,
 ⟨5, (some 14), .slS 9 (.con (.string ⟨#[48, 48, 48, 49, 48, 50, 48, 51, 48, 52, 48, 53, 48, 54, 48, 55, 48, 56, 48, 57, 49, 48, 49, 49, 49, 50, 49, 51, 49, 52, 49, 53, 49, 54, 49, 55, 49, 56, 49, 57, 50, 48, 50, 49, 50, 50, 50, 51, 50, 52, 50, 53, 50, 54, 50, 55, 50, 56, 50, 57, 51, 48, 51, 49, 51, 50, 51, 51, 51, 52, 51, 53, 51, 54, 51, 55, 51, 56, 51, 57, 52, 48, 52, 49, 52, 50, 52, 51, 52, 52, 52, 53, 52, 54, 52, 55, 52, 56, 52, 57, 53, 48, 53, 49, 53, 50, 53, 51, 53, 52, 53, 53, 53, 54, 53, 55, 53, 56, 53, 57, 54, 48, 54, 49, 54, 50, 54, 51, 54, 52, 54, 53, 54, 54, 54, 55, 54, 56, 54, 57, 55, 48, 55, 49, 55, 50, 55, 51, 55, 52, 55, 53, 55, 54, 55, 55, 55, 56, 55, 57, 56, 48, 56, 49, 56, 50, 56, 51, 56, 52, 56, 53, 56, 54, 56, 55, 56, 56, 56, 57, 57, 48, 57, 49, 57, 50, 57, 51, 57, 52, 57, 53, 57, 54, 57, 55, 57, 56, 57, 57]⟩)) (some (.tmp 10)) (some (.tmp 13)), none, []⟩,
 ⟨6, (some 2), .mv (.tmp 14), none, []⟩])
 (.ret))),
 [.tmp 2]⟩
theorem p_internal_strconv_small : prepFun Go.Proofs.Tryz.prog [1, 0, 2, 3] Go.Proofs.Tryz.f114 = some v_internal_strconv_small := by kernel_rfl

def v_internal_strconv_numDigits : VFun :=
⟨.seq (.reg [⟨0, (some 2), .mv (.con (.int .i64 0)), none, []⟩])
 (.seq (.reg [⟨0, (some 4), .mv (.tmp 0), none, []⟩,
 ⟨1, (some 5), .call 130 [(.tmp 4)], none, []⟩,
 ⟨2, (some 6), .call 129 [(.tmp 5)], none, []⟩,
 ⟨3, (some 3), .mv (.tmp 6), none, []⟩])
 (.seq (.reg [⟨0, (some 7), .mv (.tmp 3), none, []⟩,
 ⟨1, (some 8), .mv (.tmp 0), none, []⟩,
 ⟨2, (some 9), .mv (.tmp 3), none, []⟩,
 ⟨3, (some 10), .idxA (some 20) 1 (.glo 2) (.tmp 9), none, []⟩,
 ⟨4, (some 11), .load none (.tmp 10), none, []⟩,
 ⟨5, (some 12), .bin .geq 160 false (.tmp 8) (.tmp 11), none, []⟩,
 ⟨6, (some 13), .call 131 [(.tmp 12)], none, []⟩,
 ⟨7, (some 14), .bin .add 3 false (.tmp 7) (.tmp 13), none, []⟩,
 ⟨8, (some 2), .mv (.tmp 14), none, []⟩])
 (.ret))),
 [.tmp 2]⟩
theorem p_internal_strconv_numDigits : prepFun Go.Proofs.Tryz.prog [1, 0, 2, 3] Go.Proofs.Tryz.f115 = some v_internal_strconv_numDigits := by kernel_rfl

def v_internal_strconv_formatBase10 : VFun :=
⟨.seq (.reg [⟨0, (some 17), .mv (.tmp 0), none, []⟩,
 ⟨1, (some 18), .len (.tmp 17), none, []⟩,
 ⟨2, (some 4), .mv (.tmp 18), none, []⟩])
 (.seq (.block 0
 (.loop
 (.seq (.seq (.reg [⟨0, (some 19), .mv (.tmp 4), none, []⟩,
 ⟨1, (some 20), .bin .geq 3 true (.tmp 19) (.con (.int .i64 8)), none, []⟩])
 (.cond (.tmp 20)
 (.skip)
 (.exit 0)))
 (.block 1
 (.seq (.reg [⟨0, (some 21), .mv (.tmp 1), none, []⟩,
 ⟨1, (some 22), .bin .rem 160 true (.tmp 21) (.con (.int .u64 100000000)), none, []⟩,
 ⟨2, (some 23), .conv 160 180 (.tmp 22), none, []⟩,
 ⟨3, (some 5), .mv (.tmp 23), none, []⟩])
 (.seq (.reg [⟨0, (some 24), .mv (.tmp 1), none, []⟩,
 ⟨1, (some 25), .bin .quo 160 true (.tmp 24) (.con (.int .u64 100000000)), none, []⟩,
 ⟨2, (some 1), .mv (.tmp 25), none, []⟩])
 (.seq (.reg [⟨0, (some 26), .mv (.tmp 5), none, []⟩,
 ⟨1, (some 27), .bin .quo 180 true (.tmp 26) (.con (.int .u32 10000)), none, []⟩,
 ⟨2, (some 28), .mv (.tmp 5), none, []⟩,
 ⟨3, (some 29), .bin .rem 180 true (.tmp 28) (.con (.int .u32 10000)), none, []⟩,
 ⟨4, (some 6), .mv (.tmp 27), none, []⟩,
 ⟨5, (some 7), .mv (.tmp 29), none, []⟩])
 (.seq (.reg [⟨0, (some 30), .mv (.tmp 7), none, []⟩,
 ⟨1, (some 31), .bin .quo 180 true (.tmp 30) (.con (.int .u32 100)), none, []⟩,
 ⟨2, (some 32), .bin .mul 180 true (.tmp 31) (.con (.int .u32 2)), none, []⟩,
 ⟨3, (some 33), .mv (.tmp 7), none, []⟩,
 ⟨4, (some 34), .bin .rem 180 true (.tmp 33) (.con (.int .u32 100)), none, []⟩,
 ⟨5, (some 35), .bin .mul 180 true (.tmp 34) (.con (.int .u32 2)), none, []⟩,
 ⟨6, (some 8), .mv (.tmp 32), none, []⟩,
 ⟨7, (some 9), .mv (.tmp 35), none, []⟩])
 (.seq (.reg [⟨0, (some 36), .mv (.tmp 6), none, []⟩,
 ⟨1, (some 37), .bin .quo 180 true (.tmp 36) (.con (.int .u32 100)), none, []⟩,
 ⟨2, (some 38), .bin .mul 180 true (.tmp 37) (.con (.int .u32 2)), none, []⟩,
 ⟨3, (some 39), .mv (.tmp 6), none, []⟩,
 ⟨4, (some 40), .bin .rem 180 true (.tmp 39) (.con (.int .u32 100)), none, []⟩,
 ⟨5, (some 41), .bin .mul 180 true (.tmp 40) (.con (.int .u32 2)), none, []⟩,
 ⟨6, (some 10), .mv (.tmp 38), none, []⟩,
 ⟨7, (some 11), .mv (.tmp 41), none, []⟩])
 (.seq (.reg [⟨0, (some 42), .mv (.tmp 0), none, []⟩,
 ⟨1, (some 43), .mv (.tmp 4), none, []⟩,
 ⟨2, (some 44), .bin .sub 3 true (.tmp 43) (.con (.int .i64 1)), none, []⟩,
 ⟨3, (some 45), .mv (.tmp 0), none, []⟩,
 ⟨4, (some 46), .mv (.tmp 4), none, []⟩,
 ⟨5, (some 47), .bin .sub 3 true (.tmp 46) (.con (.int .i64 2)), none, []⟩,
 ⟨6, (some 48), .mv (.tmp 9), none, []⟩,
 ⟨7, (some 49), .bin .add 180 true (.tmp 48) (.con (.int .u32 1)), none, []⟩,
 ⟨8, (some 50), .idxS 9 (.con (.string ⟨#[48, 48, 48, 49, 48, 50, 48, 51, 48, 52, 48, 53, 48, 54, 48, 55, 48, 56, 48, 57, 49, 48, 49, 49, 49, 50, 49, 51, 49, 52, 49, 53, 49, 54, 49, 55, 49, 56, 49, 57, 50, 48, 50, 49, 50, 50, 50, 51, 50, 52, 50, 53, 50, 54, 50, 55, 50, 56, 50, 57, 51, 48, 51, 49, 51, 50, 51, 51, 51, 52, 51, 53, 51, 54, 51, 55, 51, 56, 51, 57, 52, 48, 52, 49, 52, 50, 52, 51, 52, 52, 52, 53, 52, 54, 52, 55, 52, 56, 52, 57, 53, 48, 53, 49, 53, 50, 53, 51, 53, 52, 53, 53, 53, 54, 53, 55, 53, 56, 53, 57, 54, 48, 54, 49, 54, 50, 54, 51, 54, 52, 54, 53, 54, 54, 54, 55, 54, 56, 54, 57, 55, 48, 55, 49, 55, 50, 55, 51, 55, 52, 55, 53, 55, 54, 55, 55, 55, 56, 55, 57, 56, 48, 56, 49, 56, 50, 56, 51, 56, 52, 56, 53, 56, 54, 56, 55, 56, 56, 56, 57, 57, 48, 57, 49, 57, 50, 57, 51, 57, 52, 57, 53, 57, 54, 57, 55, 57, 56, 57, 57]⟩)) (.tmp 49), none, []⟩,
 ⟨9, (some 51), .mv (.tmp 9), none, []⟩,
 ⟨10, (some 52), .idxS 9 (.con (.string ⟨#[48, 48, 48, 49, 48, 50, 48, 51, 48, 52, 48, 53, 48, 54, 48, 55, 48, 56, 48, 57, 49, 48, 49, 49, 49, 50, 49, 51, 49, 52, 49, 53, 49, 54, 49, 55, 49, 56, 49, 57, 50, 48, 50, 49, 50, 50, 50, 51, 50, 52, 50, 53, 50, 54, 50, 55, 50, 56, 50, 57, 51, 48, 51, 49, 51, 50, 51, 51, 51, 52, 51, 53, 51, 54, 51, 55, 51, 56, 51, 57, 52, 48, 52, 49, 52, 50, 52, 51, 52, 52, 52, 53, 52, 54, 52, 55, 52, 56, 52, 57, 53, 48, 53, 49, 53, 50, 53, 51, 53, 52, 53, 53, 53, 54, 53, 55, 53, 56, 53, 57, 54, 48, 54, 49, 54, 50, 54, 51, 54, 52, 54, 53, 54, 54, 54, 55, 54, 56, 54, 57, 55, 48, 55, 49, 55, 50, 55, 51, 55, 52, 55, 53, 55, 54, 55, 55, 55, 56, 55, 57, 56, 48, 56, 49, 56, 50, 56, 51, 56, 52, 56, 53, 56, 54, 56, 55, 56, 56, 56, 57, 57, 48, 57, 49, 57, 50, 57, 51, 57, 52, 57, 53, 57, 54, 57, 55, 57, 56, 57, 57]⟩)) (.tmp 51), none, []⟩,
 ⟨11, (some 53), .idxA none 1 (.tmp 42) (.tmp 44), none, []⟩,
 ⟨12, none, .store 1 (.tmp 53) (.tmp 50), none, []⟩,
 ⟨13, (some 54), .idxA none 1 (.tmp 45) (.tmp 47), none, []⟩,
 ⟨14, none, .store 1 (.tmp 54) (.tmp 52), none, []⟩])
 (.seq (.reg [⟨0, (some 55), .mv (.tmp 0), none, []⟩,
 ⟨1, (some 56), .mv (.tmp 4), none, []⟩,
 ⟨2, (some 57), .bin .sub 3 true (.tmp 56) (.con (.int .i64 3)), none, []⟩,
 ⟨3, (some 58), .mv (.tmp 0), none, []⟩,
 ⟨4, (some 59), .mv (.tmp 4), none, []⟩,
 ⟨5, (some 60), .bin .sub 3 true (.tmp 59) (.con (.int .i64 4)), none, []⟩,
 ⟨6, (some 61), .mv (.tmp 8), none, []⟩,
 ⟨7, (some 62), .bin .add 180 true (.tmp 61) (.con (.int .u32 1)), none, []⟩,
 ⟨8, (some 63), .idxS 9 (.con (.string ⟨#[48, 48, 48, 49, 48, 50, 48, 51, 48, 52, 48, 53, 48, 54, 48, 55, 48, 56, 48, 57, 49, 48, 49, 49, 49, 50, 49, 51, 49, 52, 49, 53, 49, 54, 49, 55, 49, 56, 49, 57, 50, 48, 50, 49, 50, 50, 50, 51, 50, 52, 50, 53, 50, 54, 50, 55, 50, 56, 50, 57, 51, 48, 51, 49, 51, 50, 51, 51, 51, 52, 51, 53, 51, 54, 51, 55, 51, 56, 51, 57, 52, 48, 52, 49, 52, 50, 52, 51, 52, 52, 52, 53, 52, 54, 52, 55, 52, 56, 52, 57, 53, 48, 53, 49, 53, 50, 53, 51, 53, 52, 53, 53, 53, 54, 53, 55, 53, 56, 53, 57, 54, 48, 54, 49, 54, 50, 54, 51, 54, 52, 54, 53, 54, 54, 54, 55, 54, 56, 54, 57, 55, 48, 55, 49, 55, 50, 55, 51, 55, 52, 55, 53, 55, 54, 55, 55, 55, 56, 55, 57, 56, 48, 56, 49, 56, 50, 56, 51, 56, 52, 56, 53, 56, 54, 56, 55, 56, 56, 56, 57, 57, 48, 57, 49, 57, 50, 57, 51, 57, 52, 57, 53, 57, 54, 57, 55, 57, 56, 57, 57]⟩)) (.tmp 62), none, []⟩,
 ⟨9, (some 64), .mv (.tmp 8), none, []⟩,
 ⟨10, (some 65), .idxS 9 (.con (.string ⟨#[48, 48, 48, 49, 48, 50, 48, 51, 48, 52, 48, 53, 48, 54, 48, 55, 48, 56, 48, 57, 49, 48, 49, 49, 49, 50, 49, 51, 49, 52, 49, 53, 49, 54, 49, 55, 49, 56, 49, 57, 50, 48, 50, 49, 50, 50, 50, 51, 50, 52, 50, 53, 50, 54, 50, 55, 50, 56, 50, 57, 51, 48, 51, 49, 51, 50, 51, 51, 51, 52, 51, 53, 51, 54, 51, 55, 51, 56, 51, 57, 52, 48, 52, 49, 52, 50, 52, 51, 52, 52, 52, 53, 52, 54, 52, 55, 52, 56, 52, 57, 53, 48, 53, 49, 53, 50, 53, 51, 53, 52, 53, 53, 53, 54, 53, 55, 53, 56, 53, 57, 54, 48, 54, 49, 54, 50, 54, 51, 54, 52, 54, 53, 54, 54, 54, 55, 54, 56, 54, 57, 55, 48, 55, 49, 55, 50, 55, 51, 55, 52, 55, 53, 55, 54, 55, 55, 55, 56, 55, 57, 56, 48, 56, 49, 56, 50, 56, 51, 56, 52, 56, 53, 56, 54, 56, 55, 56, 56, 56, 57, 57, 48, 57, 49, 57, 50, 57, 51, 57, 52, 57, 53, 57, 54, 57, 55, 57, 56, 57, 57]⟩)) (.tmp 64), none, []⟩,
 ⟨11, (some 66), .idxA none 1 (.tmp 55) (.tmp 57), none, []⟩,
 ⟨12, none, .store 1 (.tmp 66) (.tmp 63), none, []⟩,
 ⟨13, (some 67), .idxA none 1 (.tmp 58) (.tmp 60), none, []⟩,
 ⟨14, none, .store 1 (.tmp 67) (.tmp 65), none, []⟩])
 (.seq (.reg [⟨0, (some 68), .mv (.tmp 0), none, []⟩,
 ⟨1, (some 69), .mv (.tmp 4), none, []⟩,
 ⟨2, (some 70), .bin .sub 3 true (.tmp 69) (.con (.int .i64 5)), none, []⟩,
 ⟨3, (some 71), .mv (.tmp 0), none, []⟩,
 ⟨4, (some 72), .mv (.tmp 4), none, []⟩,
 ⟨5, (some 73), .bin .sub 3 true (.tmp 72) (.con (.int .i64 6)), none, []⟩,
 ⟨6, (some 74), .mv (.tmp 11), none, []⟩,
 ⟨7, (some 75), .bin .add 180 true (.tmp 74) (.con (.int .u32 1)), none, []⟩,
 ⟨8, (some 76), .idxS 9 (.con (.string ⟨#[48, 48, 48, 49, 48, 50, 48, 51, 48, 52, 48, 53, 48, 54, 48, 55, 48, 56, 48, 57, 49, 48, 49, 49, 49, 50, 49, 51, 49, 52, 49, 53, 49, 54, 49, 55, 49, 56, 49, 57, 50, 48, 50, 49, 50, 50, 50, 51, 50, 52, 50, 53, 50, 54, 50, 55, 50, 56, 50, 57, 51, 48, 51, 49, 51, 50, 51, 51, 51, 52, 51, 53, 51, 54, 51, 55, 51, 56, 51, 57, 52, 48, 52, 49, 52, 50, 52, 51, 52, 52, 52, 53, 52, 54, 52, 55, 52, 56, 52, 57, 53, 48, 53, 49, 53, 50, 53, 51, 53, 52, 53, 53, 53, 54, 53, 55, 53, 56, 53, 57, 54, 48, 54, 49, 54, 50, 54, 51, 54, 52, 54, 53, 54, 54, 54, 55, 54, 56, 54, 57, 55, 48, 55, 49, 55, 50, 55, 51, 55, 52, 55, 53, 55, 54, 55, 55, 55, 56, 55, 57, 56, 48, 56, 49, 56, 50, 56, 51, 56, 52, 56, 53, 56, 54, 56, 55, 56, 56, 56, 57, 57, 48, 57, 49, 57, 50, 57, 51, 57, 52, 57, 53, 57, 54, 57, 55, 57, 56, 57, 57]⟩)) (.tmp 75), none, []⟩,
 ⟨9, (some 77), .mv (.tmp 11), none, []⟩,
 ⟨10, (some 78), .idxS 9 (.con (.string ⟨#[48, 48, 48, 49, 48, 50, 48, 51, 48, 52, 48, 53, 48, 54, 48, 55, 48, 56, 48, 57, 49, 48, 49, 49, 49, 50, 49, 51, 49, 52, 49, 53, 49, 54, 49, 55, 49, 56, 49, 57, 50, 48, 50, 49, 50, 50, 50, 51, 50, 52, 50, 53, 50, 54, 50, 55, 50, 56, 50, 57, 51, 48, 51, 49, 51, 50, 51, 51, 51, 52, 51, 53, 51, 54, 51, 55, 51, 56, 51, 57, 52, 48, 52, 49, 52, 50, 52, 51, 52, 52, 52, 53, 52, 54, 52, 55, 52, 56, 52, 57, 53, 48, 53, 49, 53, 50, 53, 51, 53, 52, 53, 53, 53, 54, 53, 55, 53, 56, 53, 57, 54, 48, 54, 49, 54, 50, 54, 51, 54, 52, 54, 53, 54, 54, 54, 55, 54, 56, 54, 57, 55, 48, 55, 49, 55, 50, 55, 51, 55, 52, 55, 53, 55, 54, 55, 55, 55, 56, 55, 57, 56, 48, 56, 49, 56, 50, 56, 51, 56, 52, 56, 53, 56, 54, 56, 55, 56, 56, 56, 57, 57, 48, 57, 49, 57, 50, 57, 51, 57, 52, 57, 53, 57, 54, 57, 55, 57, 56, 57, 57]⟩)) (.tmp 77), none, []⟩,
 ⟨11, (some 79), .idxA none 1 (.tmp 68) (.tmp 70), none, []⟩,
 ⟨12, none, .store 1 (.tmp 79) (.tmp 76), none, []⟩,
 ⟨13, (some 80), .idxA none 1 (.tmp 71) (.tmp 73), none, []⟩,
 ⟨14, none, .store 1 (.tmp 80) (.tmp 78), none, []⟩])
 (.seq (.reg [⟨0, (some 81), .mv (.tmp 0), none, []⟩,
 ⟨1, (some 82), .mv (.tmp 4), none, []⟩,
 ⟨2, (some 83), .bin .sub 3 true (.tmp 82) (.con (.int .i64 7)), none, []⟩,
 ⟨3, (some 84), .mv (.tmp 0), none, []⟩,
 ⟨4, (some 85), .mv (.tmp 4), none, []⟩,
 ⟨5, (some 86), .bin .sub 3 true (.tmp 85) (.con (.int .i64 8)), none, []⟩,
 ⟨6, (some 87), .mv (.tmp 10), none, []⟩,
 ⟨7, (some 88), .bin .add 180 true (.tmp 87) (.con (.int .u32 1)), none, []⟩,
 ⟨8, (some 89), .idxS 9 (.con (.string ⟨#[48, 48, 48, 49, 48, 50, 48, 51, 48, 52, 48, 53, 48, 54, 48, 55, 48, 56, 48, 57, 49, 48, 49, 49, 49, 50, 49, 51, 49, 52, 49, 53, 49, 54, 49, 55, 49, 56, 49, 57, 50, 48, 50, 49, 50, 50, 50, 51, 50, 52, 50, 53, 50, 54, 50, 55, 50, 56, 50, 57, 51, 48, 51, 49, 51, 50, 51, 51, 51, 52, 51, 53, 51, 54, 51, 55, 51, 56, 51, 57, 52, 48, 52, 49, 52, 50, 52, 51, 52, 52, 52, 53, 52, 54, 52, 55, 52, 56, 52, 57, 53, 48, 53, 49, 53, 50, 53, 51, 53, 52, 53, 53, 53, 54, 53, 55, 53, 56, 53, 57, 54, 48, 54, 49, 54, 50, 54, 51, 54, 52, 54, 53, 54, 54, 54, 55, 54, 56, 54, 57, 55, 48, 55, 49, 55, 50, 55, 51, 55, 52, 55, 53, 55, 54, 55, 55, 55, 56, 55, 57, 56, 48, 56, 49, 56, 50, 56, 51, 56, 52, 56, 53, 56, 54, 56, 55, 56, 56, 56, 57, 57, 48, 57, 49, 57, 50, 57, 51, 57, 52, 57, 53, 57, 54, 57, 55, 57, 56, 57, 57]⟩)) (.tmp 88), none, []⟩,
 ⟨9, (some 90), .mv (.tmp 10), none, []⟩,
 ⟨10, (some 91), .idxS 9 (.con (.string ⟨#[48, 48, 48, 49, 48, 50, 48, 51, 48, 52, 48, 53, 48, 54, 48, 55, 48, 56, 48, 57, 49, 48, 49, 49, 49, 50, 49, 51, 49, 52, 49, 53, 49, 54, 49, 55, 49, 56, 49, 57, 50, 48, 50, 49, 50, 50, 50, 51, 50, 52, 50, 53, 50, 54, 50, 55, 50, 56, 50, 57, 51, 48, 51, 49, 51, 50, 51, 51, 51, 52, 51, 53, 51, 54, 51, 55, 51, 56, 51, 57, 52, 48, 52, 49, 52, 50, 52, 51, 52, 52, 52, 53, 52, 54, 52, 55, 52, 56, 52, 57, 53, 48, 53, 49, 53, 50, 53, 51, 53, 52, 53, 53, 53, 54, 53, 55, 53, 56, 53, 57, 54, 48, 54, 49, 54, 50, 54, 51, 54, 52, 54, 53, 54, 54, 54, 55, 54, 56, 54, 57, 55, 48, 55, 49, 55, 50, 55, 51, 55, 52, 55, 53, 55, 54, 55, 55, 55, 56, 55, 57, 56, 48, 56, 49, 56, 50, 56, 51, 56, 52, 56, 53, 56, 54, 56, 55, 56, 56, 56, 57, 57, 48, 57, 49, 57, 50, 57, 51, 57, 52, 57, 53, 57, 54, 57, 55, 57, 56, 57, 57]⟩)) (.tmp 90), none, []⟩,
 ⟨11, (some 92), .idxA none 1 (.tmp 81) (.tmp 83), none, []⟩,
 ⟨12, none, .store 1 (.tmp 92) (.tmp 89), none, []⟩,
 ⟨13, (some 93), .idxA none 1 (.tmp 84) (.tmp 86), none, []⟩,
 ⟨14, none, .store 1 (.tmp 93) (.tmp 91), none, []⟩])
 (.reg [⟨0, (some 94), .mv (.tmp 4), none, []⟩,
 ⟨1, (some 95), .bin .sub 3 true (.tmp 94) (.con (.int .i64 8)), none, []⟩,
 ⟨2, (some 4), .mv (.tmp 95), none, []⟩]))))))))))))))
 (.seq (.reg [⟨0, (some 96), .mv (.tmp 1), none, []⟩,
 ⟨1, (some 97), .conv 160 180 (.tmp 96), none, []⟩,
 ⟨2, (some 12), .mv (.tmp 97), none, []⟩])
 (.seq (.seq (.reg [⟨0, (some 98), .mv (.tmp 4), none, []⟩,
 ⟨1, (some 99), .bin .geq 3 true (.tmp 98) (.con (.int .i64 4)), none, []⟩])
 (.cond (.tmp 99)
 (.seq (.reg [⟨0, (some 100), .mv (.tmp 12), none, []⟩,
 ⟨1, (some 101), .bin .rem 180 true (.tmp 100) (.con (.int .u32 10000)), none, []⟩,
 ⟨2, (some 13), .mv (.tmp 101), none, []⟩])
 (.seq (.reg [⟨0, (some 102), .mv (.tmp 12), none, []⟩,
 ⟨1, (some 103), .bin .quo 180 true (.tmp 102) (.con (.int .u32 10000)), none, []⟩,
 ⟨2, (some 12), .mv (.tmp 103), none, []⟩])
 (.seq (.reg [⟨0, (some 104), .mv (.tmp 13), none, []⟩,
 ⟨1, (some 105), .bin .quo 180 true (.tmp 104) (.con (.int .u32 100)), none, []⟩,
 ⟨2, (some 106), .bin .mul 180 true (.tmp 105) (.con (.int .u32 2)), none, []⟩,
 ⟨3, (some 107), .mv (.tmp 13), none, []⟩,
 ⟨4, (some 108), .bin .rem 180 true (.tmp 107) (.con (.int .u32 100)), none, []⟩,
 ⟨5, (some 109), .bin .mul 180 true (.tmp 108) (.con (.int .u32 2)), none, []⟩,
 ⟨6, (some 14), .mv (.tmp 106), none, []⟩,
 ⟨7, (some 15), .mv (.tmp 109), none, []⟩])
 (.seq (.reg [⟨0, (some 110), .mv (.tmp 0), none, []⟩,
 ⟨1, (some 111), .mv (.tmp 4), none, []⟩,
 ⟨2, (some 112), .bin .sub 3 true (.tmp 111) (.con (.int .i64 1)), none, []⟩,
 ⟨3, (some 113), .mv (.tmp 0), none, []⟩,
 ⟨4, (some 114), .mv (.tmp 4), none, []⟩,
 ⟨5, (some 115), .bin .sub 3 true (.tmp 114) (.con (.int .i64 2)), none, []⟩,
 ⟨6, (some 116), .mv (.tmp 15), none, []⟩,
 ⟨7, (some 117), .bin .add 180 true (.tmp 116) (.con (.int .u32 1)), none, []⟩,
 ⟨8, (some 118), .idxS 9 (.con (.string ⟨#[48, 48, 48, 49, 48, 50, 48, 51, 48, 52, 48, 53, 48, 54, 48, 55, 48, 56, 48, 57, 49, 48, 49, 49, 49, 50, 49, 51, 49, 52, 49, 53, 49, 54, 49, 55, 49, 56, 49, 57, 50, 48, 50, 49, 50, 50, 50, 51, 50, 52, 50, 53, 50, 54, 50, 55, 50, 56, 50, 57, 51, 48, 51, 49, 51, 50, 51, 51, 51, 52, 51, 53, 51, 54, 51, 55, 51, 56, 51, 57, 52, 48, 52, 49, 52, 50, 52, 51, 52, 52, 52, 53, 52, 54, 52, 55, 52, 56, 52, 57, 53, 48, 53, 49, 53, 50, 53, 51, 53, 52, 53, 53, 53, 54, 53, 55, 53, 56, 53, 57, 54, 48, 54, 49, 54, 50, 54, 51, 54, 52, 54, 53, 54, 54, 54, 55, 54, 56, 54, 57, 55, 48, 55, 49, 55, 50, 55, 51, 55, 52, 55, 53, 55, 54, 55, 55, 55, 56, 55, 57, 56, 48, 56, 49, 56, 50, 56, 51, 56, 52, 56, 53, 56, 54, 56, 55, 56, 56, 56, 57, 57, 48, 57, 49, 57, 50, 57, 51, 57, 52, 57, 53, 57, 54, 57, 55, 57, 56, 57, 57]⟩)) (.tmp 117), none, []⟩,
 ⟨9, (some 119), .mv (.tmp 15), none, []⟩,
 ⟨10, (some 120), .idxS 9 (.con (.string ⟨#[48, 48, 48, 49, 48, 50, 48, 51, 48, 52, 48, 53, 48, 54, 48, 55, 48, 56, 48, 57, 49, 48, 49, 49, 49, 50, 49, 51, 49, 52, 49, 53, 49, 54, 49, 55, 49, 56, 49, 57, 50, 48, 50, 49, 50, 50, 50, 51, 50, 52, 50, 53, 50, 54, 50, 55, 50, 56, 50, 57, 51, 48, 51, 49, 51, 50, 51, 51, 51, 52, 51, 53, 51, 54, 51, 55, 51, 56, 51, 57, 52, 48, 52, 49, 52, 50, 52, 51, 52, 52, 52, 53, 52, 54, 52, 55, 52, 56, 52, 57, 53, 48, 53, 49, 53, 50, 53, 51, 53, 52, 53, 53, 53, 54, 53, 55, 53, 56, 53, 57, 54, 48, 54, 49, 54, 50, 54, 51, 54, 52, 54, 53, 54, 54, 54, 55, 54, 56, 54, 57, 55, 48, 55, 49, 55, 50, 55, 51, 55, 52, 55, 53, 55, 54, 55, 55, 55, 56, 55, 57, 56, 48, 56, 49, 56, 50, 56, 51, 56, 52, 56, 53, 56, 54, 56, 55, 56, 56, 56, 57, 57, 48, 57, 49, 57, 50, 57, 51, 57, 52, 57, 53, 57, 54, 57, 55, 57, 56, 57, 57]⟩)) (.tmp 119), none, []⟩,
 ⟨11, (some 121), .idxA none 1 (.tmp 110) (.tmp 112), none, []⟩,
 ⟨12, none, .store 1 (.tmp 121) (.tmp 118), none, []⟩,
 ⟨13, (some 122), .idxA none 1 (.tmp 113) (.tmp 115), none, []⟩,
 ⟨14, none, .store 1 (.tmp 122) (.tmp 120), none, []⟩])
 (.seq (.reg [⟨0, (some 123), .mv (.tmp 0), none, []⟩,
 ⟨1, (some 124), .mv (.tmp 4), none, []⟩,
 ⟨2, (some 125), .bin .sub 3 true (.tmp 124) (.con (.int .i64 3)), none, []⟩,
 ⟨3, (some 126), .mv (.tmp 0), none, []⟩,
 ⟨4, (some 127), .mv (.tmp 4), none, []⟩,
 ⟨5, (some 128), .bin .sub 3 true (.tmp 127) (.con (.int .i64 4)), none, []⟩,
 ⟨6, (some 129), .mv (.tmp 14), none, []⟩,
 ⟨7, (some 130), .bin .add 180 true (.tmp 129) (.con (.int .u32 1)), none, []⟩,
 ⟨8, (some 131), .idxS 9 (.con (.string ⟨#[48, 48, 48, 49, 48, 50, 48, 51, 48, 52, 48, 53, 48, 54, 48, 55, 48, 56, 48, 57, 49, 48, 49, 49, 49, 50, 49, 51, 49, 52, 49, 53, 49, 54, 49, 55, 49, 56, 49, 57, 50, 48, 50, 49, 50, 50, 50, 51, 50, 52, 50, 53, 50, 54, 50, 55, 50, 56, 50, 57, 51, 48, 51, 49, 51, 50, 51, 51, 51, 52, 51, 53, 51, 54, 51, 55, 51, 56, 51, 57, 52, 48, 52, 49, 52, 50, 52, 51, 52, 52, 52, 53, 52, 54, 52, 55, 52, 56, 52, 57, 53, 48, 53, 49, 53, 50, 53, 51, 53, 52, 53, 53, 53, 54, 53, 55, 53, 56, 53, 57, 54, 48, 54, 49, 54, 50, 54, 51, 54, 52, 54, 53, 54, 54, 54, 55, 54, 56, 54, 57, 55, 48, 55, 49, 55, 50, 55, 51, 55, 52, 55, 53, 55, 54, 55, 55, 55, 56, 55, 57, 56, 48, 56, 49, 56, 50, 56, 51, 56, 52, 56, 53, 56, 54, 56, 55, 56, 56, 56, 57, 57, 48, 57, 49, 57, 50, 57, 51, 57, 52, 57, 53, 57, 54, 57, 55, 57, 56, 57, 57]⟩)) (.tmp 130), none, []⟩,
 ⟨9, (some 132), .mv (.tmp 14), none, []⟩,
 ⟨10, (some 133), .idxS 9 (.con (.string ⟨#[48, 48, 48, 49, 48, 50, 48, 51, 48, 52, 48, 53, 48, 54, 48, 55, 48, 56, 48, 57, 49, 48, 49, 49, 49, 50, 49, 51, 49, 52, 49, 53, 49, 54, 49, 55, 49, 56, 49, 57, 50, 48, 50, 49, 50, 50, 50, 51, 50, 52, 50, 53, 50, 54, 50, 55, 50, 56, 50, 57, 51, 48, 51, 49, 51, 50, 51, 51, 51, 52, 51, 53, 51, 54, 51, 55, 51, 56, 51, 57, 52, 48, 52, 49, 52, 50, 52, 51, 52, 52, 52, 53, 52, 54, 52, 55, 52, 56, 52, 57, 53, 48, 53, 49, 53, 50, 53, 51, 53, 52, 53, 53, 53, 54, 53, 55, 53, 56, 53, 57, 54, 48, 54, 49, 54, 50, 54, 51, 54, 52, 54, 53, 54, 54, 54, 55, 54, 56, 54, 57, 55, 48, 55, 49, 55, 50, 55, 51, 55, 52, 55, 53, 55, 54, 55, 55, 55, 56, 55, 57, 56, 48, 56, 49, 56, 50, 56, 51, 56, 52, 56, 53, 56, 54, 56, 55, 56, 56, 56, 57, 57, 48, 57, 49, 57, 50, 57, 51, 57, 52, 57, 53, 57, 54, 57, 55, 57, 56, 57, 57]⟩)) (.tmp 132), none, []⟩,
 ⟨11, (some 134), .idxA none 1 (.tmp 123) (.tmp 125), none, []⟩,
 ⟨12, none, .store 1 (.tmp 134) (.tmp 131), none, []⟩,
 ⟨13, (some 135), .idxA none 1 (.tmp 126) (.tmp 128), none, []⟩,
 ⟨14, none, .store 1 (.tmp 135) (.tmp 133), none, []⟩])
 (.reg [⟨0, (some 136), .mv (.tmp 4), none, []⟩,
 ⟨1, (some 137), .bin .sub 3 true (.tmp 136) (.con (.int .i64 4)), none, []⟩,
 ⟨2, (some 4), .mv (.tmp 137), none, []⟩]))))))
 (.skip)))
 (.seq (.seq (.reg [⟨0, (some 138), .mv (.tmp 4), none, []⟩,
 ⟨1, (some 139), .bin .geq 3 true (.tmp 138) (.con (.int .i64 2)), none, []⟩])
 (.cond (.tmp 139)
 (.seq (.reg [⟨0, (some 140), .mv (.tmp 12), none, []⟩,
 ⟨1, (some 141), .bin .rem 180 true (.tmp 140) (.con (.int .u32 100)), none, []⟩,
 ⟨2, (some 142), .bin .mul 180 true (.tmp 141) (.con (.int .u32 2)), none, []⟩,
 ⟨3, (some 16), .mv (.tmp 142), none, []⟩])
 (.seq (.reg [⟨0, (some 143), .mv (.tmp 12), none, []⟩,
 ⟨1, (some 144), .bin .quo 180 true (.tmp 143) (.con (.int .u32 100)), none, []⟩,
 ⟨2, (some 12), .mv (.tmp 144), none, []⟩])
 (.seq (.reg [⟨0, (some 145), .mv (.tmp 0), none, []⟩,
 ⟨1, (some 146), .mv (.tmp 4), none, []⟩,
 ⟨2, (some 147), .bin .sub 3 true (.tmp 146) (.con (.int .i64 1)), none, []⟩,
 ⟨3, (some 148), .mv (.tmp 0), none, []⟩,
 ⟨4, (some 149), .mv (.tmp 4), none, []⟩,
 ⟨5, (some 150), .bin .sub 3 true (.tmp 149) (.con (.int .i64 2)), none, []⟩,
 ⟨6, (some 151), .mv (.tmp 16), none, []⟩,
 ⟨7, (some 152), .bin .add 180 true (.tmp 151) (.con (.int .u32 1)), none, []⟩,
 ⟨8, (some 153), .idxS 9 (.con (.string ⟨#[48, 48, 48, 49, 48, 50, 48, 51, 48, 52, 48, 53, 48, 54, 48, 55, 48, 56, 48, 57, 49, 48, 49, 49, 49, 50, 49, 51, 49, 52, 49, 53, 49, 54, 49, 55, 49, 56, 49, 57, 50, 48, 50, 49, 50, 50, 50, 51, 50, 52, 50, 53, 50, 54, 50, 55, 50, 56, 50, 57, 51, 48, 51, 49, 51, 50, 51, 51, 51, 52, 51, 53, 51, 54, 51, 55, 51, 56, 51, 57, 52, 48, 52, 49, 52, 50, 52, 51, 52, 52, 52, 53, 52, 54, 52, 55, 52, 56, 52, 57, 53, 48, 53, 49, 53, 50, 53, 51, 53, 52, 53, 53, 53, 54, 53, 55, 53, 56, 53, 57, 54, 48, 54, 49, 54, 50, 54, 51, 54, 52, 54, 53, 54, 54, 54, 55, 54, 56, 54, 57, 55, 48, 55, 49, 55, 50, 55, 51, 55, 52, 55, 53, 55, 54, 55, 55, 55, 56, 55, 57, 56, 48, 56, 49, 56, 50, 56, 51, 56, 52, 56, 53, 56, 54, 56, 55, 56, 56, 56, 57, 57, 48, 57, 49, 57, 50, 57, 51, 57, 52, 57, 53, 57, 54, 57, 55, 57, 56, 57, 57]⟩)) (.tmp 152), none, []⟩,
 ⟨9, (some 154), .mv (.tmp 16), none, []⟩,
 ⟨10, (some 155), .idxS 9 (.con (.string ⟨#[48, 48, 48, 49, 48, 50, 48, 51, 48, 52, 48, 53, 48, 54, 48, 55, 48, 56, 48, 57, 49, 48, 49, 49, 49, 50, 49, 51, 49, 52, 49, 53, 49, 54, 49, 55, 49, 56, 49, 57, 50, 48, 50, 49, 50, 50, 50, 51, 50, 52, 50, 53, 50, 54, 50, 55, 50, 56, 50, 57, 51, 48, 51, 49, 51, 50, 51, 51, 51, 52, 51, 53, 51, 54, 51, 55, 51, 56, 51, 57, 52, 48, 52, 49, 52, 50, 52, 51, 52, 52, 52, 53, 52, 54, 52, 55, 52, 56, 52, 57, 53, 48, 53, 49, 53, 50, 53, 51, 53, 52, 53, 53, 53, 54, 53, 55, 53, 56, 53, 57, 54, 48, 54, 49, 54, 50, 54, 51, 54, 52, 54, 53, 54, 54, 54, 55, 54, 56, 54, 57, 55, 48, 55, 49, 55, 50, 55, 51, 55, 52, 55, 53, 55, 54, 55, 55, 55, 56, 55, 57, 56, 48, 56, 49, 56, 50, 56, 51, 56, 52, 56, 53, 56, 54, 56, 55, 56, 56, 56, 57, 57, 48, 57, 49, 57, 50, 57, 51, 57, 52, 57, 53, 57, 54, 57, 55, 57, 56, 57, 57]⟩)) (.tmp 154), none, []⟩,
 ⟨11, (some 156), .idxA none 1 (.tmp 145) (.tmp 147), none, []⟩,
 ⟨12, none, .store 1 (.tmp 156) (.tmp 153), none, []⟩,
 ⟨13, (some 157), .idxA none 1 (.tmp 148) (.tmp 150), none, []⟩,
 ⟨14, none, .store 1 (.tmp 157) (.tmp 155), none, []⟩])
 (.reg [⟨0, (some 158), .mv (.tmp 4), none, []⟩,
 ⟨1, (some 159), .bin .sub 3 true (.tmp 158) (.con (.int .i64 2)), none, []⟩,
 ⟨2, (some 4), .mv (.tmp 159), none, []⟩]))))
 (.skip)))
 (.seq (.reg [⟨0, (some 160), .mv (.tmp 4), none, []⟩,
 ⟨1, (some 161), .bin .gtr 3 true (.tmp 160) (.con (.int .i64 0)), none, []⟩])
 (.cond (.tmp 161)
 (.reg [⟨0, (some 162), .mv (.tmp 0), none, []⟩,
 ⟨1, (some 163), .mv (.tmp 12), none, []⟩,
 ⟨2, (some 164), .bin .add 180 true (.con (.int .u32 48)) (.tmp 163), none, []⟩,
 ⟨3, (some 165), .conv 180 5 (.tmp 164), none, []⟩,
 ⟨4, (some 166), .idxA none 1 (.tmp 162) (.con (.int .i64 0)), none, []⟩,
 ⟨5, none, .store 1 (.tmp 166) (.tmp 165), none, []⟩])
 (.skip))))))),
 []⟩
theorem p_internal_strconv_formatBase10 : prepFun Go.Proofs.Tryz.prog [1, 0, 2, 3] Go.Proofs.Tryz.f116 = some v_internal_strconv_formatBase10 := by kernel_rfl

end Go.VX.Seat
end
